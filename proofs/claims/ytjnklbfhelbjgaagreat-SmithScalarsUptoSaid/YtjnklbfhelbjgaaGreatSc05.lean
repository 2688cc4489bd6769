/- Sc05. -/
import Derived.Test.YtjnklbfhelbjgaaGreatSc04
import Derived.Test.YtjnklbfhelbjgaaGreatSc03
import Derived.Deep.RegionWith
import Derived.Deep.CutBlock
import Derived.Deep.CutRange
import Derived.Deep.RegionHeld3
import Derived.Test.YtjnklbfhelbjgaaGreatSc00
import Derived.Deep.LoopGhost
import Derived.WalkSmall
set_option maxRecDepth 100000
set_option maxHeartbeats 32000000
set_option linter.all false
namespace Go.Proofs.YtjnklbfhelbjgaaGreat
open Go.RowKit Go.IntWalk
attribute [local go_sem ↓] Go.wp_at_zero Go.wp_at_succ
theorem boxed22 (w:World)(s:Bool)(A:Option Addr)(n c:Nat)(s':Bool)(A':Option Addr)(n' c':Nat) :
  ∃ W,W=(((w.alloc (.cells #[.bool s,.slice A n c] 25)).alloc (.cells #[.bool s',.slice A' n' c'] 25)).alloc (.cells #[.bool false,.slice none 0 0] 25)).alloc (.cells #[.bool false,.slice none 0 0] 25) /\
  ZC W w.heap.size s A n c/\ZC W (w.heap.size+1) s' A' n' c'/\ZC W (w.heap.size+1+1) false none 0 0/\ZC W (w.heap.size+1+1+1) false none 0 0/\Below w.heap.size w W:=by
 obtain ⟨h1,h2,h3,h4⟩:=boxed2 w s A n c s' A' n' c'
 refine ⟨_,rfl,h1.alloc _,h2.alloc _,h3.alloc _,?_,h4.alloc h4.size _⟩
 simpa using ZC.new (((w.alloc (.cells #[.bool s,.slice A n c] 25)).alloc (.cells #[.bool s',.slice A' n' c'] 25)).alloc (.cells #[.bool false,.slice none 0 0] 25)) false none 0 0
theorem put_two {v w W:World}{g g' b b':Nat}{s s' t t':Bool}{A A' A1 A2:Option Addr}{n c n' c' k m k' m':Nat}{z z':Int}(h:ZC w g s A n c)(h':ZC w g' s' A' n' c')(hne:g ≠ g')(hB:Below v.heap.size v w)(hg:v.heap.size<=g)(hg':v.heap.size<=g')
  (ho:OwZ w b t A1 k m z) (ho':OwZ w b' t' A2 k' m' z') (hb:g < b/\g' < b) (hb':g < b'/\g' < b') (hW:W=(((w.setCell ⟨g,0,none⟩ (.bool t)).setCell ⟨g,1,none⟩ (.slice A1 k m)).setCell ⟨g',0,none⟩ (.bool t')).setCell ⟨g',1,none⟩ (.slice A2 k' m')) :
  ZC W g t A1 k m/\ZC W g' t' A2 k' m'/\OwZ W b t A1 k m z/\OwZ W b' t' A2 k' m' z'/\Below v.heap.size v W:=by
 obtain ⟨h1,h2,h3⟩:=put_int h hB hg ho hb.1
 obtain ⟨h4,h5,h6⟩:=put_int ((h'.far (p:=⟨g,0,none⟩) (Ne.symm hne) _).far (p:=⟨g,1,none⟩) (Ne.symm hne) _) h3 hg' ((ho'.far (p:=⟨g,0,none⟩) hb'.1 _).far (p:=⟨g,1,none⟩) hb'.1 _) hb'.2
 subst hW
 exact ⟨(h1.far (p:=⟨g',0,none⟩) hne _).far (p:=⟨g',1,none⟩) hne _,h4,(h2.far (p:=⟨g',0,none⟩) hb.2 _).far (p:=⟨g',1,none⟩) hb.2 _,h5,h6⟩
theorem trunc_any {s s':Bool}{A A':Option Addr}{n c n' c':Nat}{z z':Int}{w:World}(h:RdZ w w.heap.size s A n c z)(h':RdZ w w.heap.size s' A' n' c' z')(hn:n<=1000000000000)(hn':n'<=1000000000000)(h0:z' ≠ 0) :
  Calls Tryz.prog 192 #[.agg #[.bool s,.slice A n c],.agg #[.bool s',.slice A' n' c']] w (RetII (z.tdiv z') (z.tmod z') w):=by
 obtain ⟨M,h,hz⟩:=h.raw
 obtain ⟨M',h',hz'⟩:=h'.raw
 have HP:=ah (show 0 < Dg.val M' by
  rcases Nat.eq_zero_or_pos (Dg.val M') with e | e
  ·exact absurd (by rw [hz'.out,e,Zz.sg_zero]) h0
  ·exact e)
 clear h0
 obtain ⟨W1,HW1,hZ,hY,hR,hS,hB⟩:=boxed22 w s A n c s' A' n' c'
 have HW1:=ah HW1
 have HSZ:=ah (show w.heap.size < W1.heap.size from hZ.lt)
 go_enter Tryz.func192,Tryz.ntmps192
 go_wp2_with fail
 rw [<- HW1.out]
 clear HW1
 have hc0:=hZ.c0
 have hc1:=hZ.c1
 have hd0:=hY.c0
 have hd1:=hY.c1
 refine (nDiv_any (h.next hB) (h'.next hB) hn hn' HP.out).mono ?_
 rintro _ W2 ⟨A2,A3,m2,c2,m3,c3,x2,x3,rfl,ho2,ho3,hx2,hb2⟩
 have hZ2:=hZ.next hb2
 have hY2:=hY.next hb2
 have hR2:=hR.next hb2
 have hS2:=hS.next hb2
 have hB2:=hB.trans (hb2.mono hB.size)
 have HS1:=ah (cJ hR.lt hS.lt)
 have HS2:=ah hb2.size
 clear hc0 hc1 hd0 hd1 hZ hY hR hS hb2 hB
 go_wp2_with fail
 have hc0:=hZ2.c0
 have hd0:=hY2.c0
 have HBD:=ah (Below.refl W2.heap.size W2).drew
 have HZ:=ah hZ2
 have HY:=ah hY2
 have HR:=ah hR2
 have HS:=ah hS2
 have HO2:=ah ho2
 have HO3:=ah ho3
 clear hZ2 hY2 hR2 hS2 ho2 ho3
 have hq1:¬ (w.heap.size+1+1=w.heap.size):=by omega
 have hq2:¬ (w.heap.size=w.heap.size+1+1):=by omega
 have hq3:¬ (w.heap.size+1+1+1=w.heap.size):=by omega
 have hq4:¬ (w.heap.size=w.heap.size+1+1+1):=by omega
 go_region_held3 (fun w'=>w'.cell? ⟨w.heap.size,0,none⟩=some (.bool s)/\w'.cell? ⟨w.heap.size+1,0,none⟩=some (.bool s')) (go_keep)
  (first
   | (go_at_call 141;have hx:=HB4.out;clear hx;refine (make1_any s (HO3.out.next HB4.out)).mono ?_;rintro _ W5 ⟨s5,rfl,ho5,hb5⟩;have HB5:=tM HB4 hb5;have he0:=(HZ.out.next HB5.out).c0;have he1:=(HY.out.next HB5.out).c0;have hg0:=(HR.out.next HB5.out).c0;have hg1:=(HR.out.next HB5.out).c1;have hh0:=(HR.out.next HB5.out).fz 0;have hh1:=(HR.out.next HB5.out).fz 1;have hi0:=(HS.out.next HB5.out).c0;have hi1:=(HS.out.next HB5.out).c1;have hj0:=(HS.out.next HB5.out).fz 0;have hj1:=(HS.out.next HB5.out).fz 1)
   | (go_at_call 141;refine (make1_any (s != s') (HO2.out.next HBD.out)).mono ?_;rintro _ W4 ⟨s4,rfl,ho4,hb4⟩;have HB4:=ah (HBD.out.trans hb4);have hd0:=(HZ.out.next HB4.out).c0;have hd1:=(HY.out.next HB4.out).c0))
 have HP2:=ah fun W (hW:W=(((W5.setCell ⟨w.heap.size+1+1,0,none⟩ (.bool s4)).setCell ⟨w.heap.size+1+1,1,none⟩ (.slice A2 m2 c2)).setCell ⟨w.heap.size+1+1+1,0,none⟩ (.bool s5)).setCell ⟨w.heap.size+1+1+1,1,none⟩ (.slice A3 m3 c3)) =>
  put_two (HR.out.next HB5.out) (HS.out.next HB5.out) (by omega) (hB2.trans (HB5.out.mono hB2.size)) (by omega) (by omega) (ho4.next hb5) ho5 HS1.out HS1.out hW
 clear he0 he1 hg0 hg1 hh0 hh1 hi0 hi1 hj0 hj1 hb4 hb5 ho4 ho5 hq1 hq2 hq3 hq4
 obtain ⟨W6,HW6⟩:∃ W,W=(((W5.setCell ⟨w.heap.size+1+1,0,none⟩ (.bool s4)).setCell ⟨w.heap.size+1+1,1,none⟩ (.slice A2 m2 c2)).setCell ⟨w.heap.size+1+1+1,0,none⟩ (.bool s5)).setCell ⟨w.heap.size+1+1+1,1,none⟩ (.slice A3 m3 c3):=⟨_,rfl⟩
 obtain ⟨hZ6,hY6,ho6,ho7,hB6⟩:=HP2.out W6 HW6
 rw [<- HW6]
 clear HW6 HP2
 go_wp2
 exact bodyPost_ret (by simp [results,Tryz.results192,go_sem,hZ6.c0,hZ6.c1,hY6.c0,hY6.c1]) rfl ⟨_,_,_,_,_,_,_,_,_,_,rfl,ho6.base (Nat.le_of_lt HSZ.out),ho7.base (Nat.le_of_lt HSZ.out),ah (by rw [hx2.out.1,hx2.out.2,hz.out,hz'.out,Zz.sg_div,Zz.sg_mod];exact ⟨rfl,rfl⟩),hB6⟩
theorem igcd_any {s s':Bool}{A A':Option Addr}{n c n' c':Nat}{z z':Int}{w:World}(h:RdZ w w.heap.size s A n c z)(h':RdZ w w.heap.size s' A' n' c' z')(hn:n<=1000000000000)(hn':n'<=1000000000000) :
  Calls Tryz.prog 191 #[.agg #[.bool s,.slice A n c],.agg #[.bool s',.slice A' n' c']] w (RetI (Int.gcd z z') w):=by
 obtain ⟨hZ,hY,hR,hB⟩:=boxed2 w s A n c s' A' n' c'
 obtain ⟨M,h1,hz⟩:=(h.next hB).raw
 obtain ⟨M',h1',hz'⟩:=(h'.next hB).raw
 have HSZ:=ah (show w.heap.size < _ from Nat.lt_trans (Nat.lt_succ_self _) (Nat.lt_trans (Nat.lt_succ_self _) hR.lt))
 go_enter Tryz.func191,Tryz.ntmps191
 go_wp2_with fail
 generalize ((w.alloc (.cells #[.bool s,.slice A n c] 25)).alloc (.cells #[.bool s',.slice A' n' c'] 25)).alloc (.cells #[.bool false,.slice none 0 0] 25)=W1 at *
 have hc1:=hZ.c1
 have hd1:=hY.c1
 refine (nGcd_any h1 h1' hn hn').mono ?_
 rintro _ W2 ⟨A2,m2,c2,x2,rfl,ho2,hx2,hb2⟩
 clear hc1 hd1
 go_wp2_with fail
 refine (make1_any false ho2).mono ?_
 rintro _ W4 ⟨s4,rfl,ho4,hb4⟩
 have hR4:=(hR.next hb2).next hb4
 have hB4:=hB.trans ((hb2.trans (hb4.mono hb2.size)).mono hB.size)
 have HS1:=ah hR.lt
 have hc0:=hR4.c0
 have hc1:=hR4.c1
 have hf0:=hR4.fz 0
 have hf1:=hR4.fz 1
 clear hb4 hb2 hZ hY ho2
 go_wp2
 have hp:=put_int hR4 hB4 (by omega) ho4 HS1.out
 generalize (W4.setCell ⟨w.heap.size+1+1,0,none⟩ (.bool s4)).setCell ⟨w.heap.size+1+1,1,none⟩ (.slice A2 m2 c2)=W5 at hp ⊢
 obtain ⟨hZ5,ho5,hB5⟩:=hp
 exact bodyPost_ret (by simp [results,Tryz.results191,go_sem,hZ5.c0,hZ5.c1]) rfl ⟨_,_,_,_,_,rfl,ho5.base (Nat.le_of_lt HSZ.out),ah (by rw [hx2.out,Zz.sg_false,hz.out,hz'.out];unfold Int.gcd;rw [Zz.abs_sg,Zz.abs_sg]),hB5⟩
theorem exact_any {s s':Bool}{A A':Option Addr}{n c n' c':Nat}{z z':Int}{w:World}(h:RdZ w w.heap.size s A n c z)(h':RdZ w w.heap.size s' A' n' c' z')(hn:n<=1000000000000)(hn':n'<=1000000000000)(h0:z' ≠ 0) :
  Calls Tryz.prog 138 #[.agg #[.bool s,.slice A n c],.agg #[.bool s',.slice A' n' c']] w fun e w'=>∃ (s:Bool) (A:Option Addr) (n c:Nat) (y k:Int),e=.returned (.tuple #[.agg #[.bool s,.slice A n c],.int .i64 k])/\OwZ w' w.heap.size s A n c y/\Hid ((z.tmod z'=0/\y=z.tdiv z'/\k=0) ∨ (z.tmod z' ≠ 0/\y=0/\k=30))/\Below w.heap.size w w':=by
 obtain ⟨hZ,hY,hR,hB⟩:=boxed2 w s A n c s' A' n' c'
 have h1:=h.next hB
 have h1':=h'.next hB
 have HLN:=ah h1'.len
 have HSZ:=ah (show w.heap.size < _ from Nat.lt_trans (Nat.lt_succ_self _) (Nat.lt_trans (Nat.lt_succ_self _) hR.lt))
 go_enter Tryz.func138,Tryz.ntmps138
 go_wp2_with fail
 generalize ((w.alloc (.cells #[.bool s,.slice A n c] 25)).alloc (.cells #[.bool s',.slice A' n' c'] 25)).alloc (.cells #[.bool false,.slice none 0 0] 25)=W1 at *
 have hc0:=hZ.c0
 have hc1:=hZ.c1
 have hd0:=hY.c0
 have hd1:=hY.c1
 refine (trunc_any h1 h1' hn hn' h0).mono ?_
 rintro _ W2 ⟨s2,A2,m2,c2,z2,s3,A3,m3,c3,z3,rfl,ho2,ho3,hz2,hb2⟩
 obtain ⟨W3,HW3⟩:∃ W,W=(W2.alloc (.cells #[.bool s2,.slice A2 m2 c2] 25)).alloc (.cells #[.bool s3,.slice A3 m3 c3] 25):=⟨_,rfl⟩
 have hQ:ZC W3 W2.heap.size s2 A2 m2 c2:=by rw [HW3];exact (ZC.new W2 s2 A2 m2 c2).alloc _
 have hS:ZC W3 (W2.heap.size+1) s3 A3 m3 c3:=by rw [HW3];simpa using ZC.new (W2.alloc (.cells #[.bool s2,.slice A2 m2 c2] 25)) s3 A3 m3 c3
 have hb3:Below W2.heap.size W2 W3:=by rw [HW3];exact ((Below.refl W2.heap.size W2).alloc nR _).alloc (by simp) _
 have HW3:=ah HW3
 clear hc0 hc1 hd0 hd1
 go_wp2_with fail
 rw [<- HW3.out]
 clear HW3
 have hs0:=hS.c0
 have hs1:=hS.c1
 have HM3:=ah (show m3<=1000000000000 from by rw [ho3.len,hz2.out.2];exact nT (Zz.zl_tmod_lt _ h0) (nT HLN.out hn'))
 refine (sign_any (ho3.next hb3).rd (by have:=HM3.out;omega)).mono ?_
 rintro _ W4 ⟨k,rfl,hk,hb4⟩
 have HB24:=ah (hb3.trans (hb4.mono hb3.size))
 have HO2:=ah ((ho2.next HB24.out))
 have hQ4:=hQ.next hb4
 have hR4:=(hR.next hb2).next HB24.out
 have hB4:=hB.trans ((hb2.trans (HB24.out.mono hb2.size)).mono hB.size)
 have hf0:=hR4.fz 0
 have hf1:=hR4.fz 1
 have hr0:=hR4.c0
 have hr1:=hR4.c1
 have hq0:=hQ4.c0
 have hq1:=hQ4.c1
 have HS1:=ah hR.lt
 have HK:=ah (show k=0 ↔ z.tmod z'=0 by rw [hk.out,hz2.out.2];exact Int.sign_eq_zero_iff_zero)
 clear hs0 hs1 hS hQ hR hZ hY hb2 hb3 hb4 ho2 ho3
 by_cases hk0:k=0
 ·have HT:=ah (HK.out.1 hk0)
  subst hk0
  go_wp2
  have hp:=put_int hR4 hB4 (by omega) HO2.out HS1.out
  generalize (W4.setCell ⟨w.heap.size+1+1,0,none⟩ (.bool s2)).setCell ⟨w.heap.size+1+1,1,none⟩ (.slice A2 m2 c2)=W5 at hp ⊢
  obtain ⟨hZ5,ho5,hB5⟩:=hp
  exact bodyPost_ret (by simp [results,Tryz.results138,go_sem,hZ5.c0,hZ5.c1]) rfl ⟨_,_,_,_,_,_,rfl,ho5.base (Nat.le_of_lt HSZ.out),ah (.inl ⟨HT.out,hz2.out.1,rfl⟩),hB5⟩
 ·have HT:=ah (mt HK.out.2 hk0)
  have hkb:(k != 0)=true:=by simpa using hk0
  clear hk0
  go_wp2
  have hp:=put_int hR4 hB4 (by omega) (OwZ.zero W4 W1.heap.size) HS1.out
  generalize (W4.setCell ⟨w.heap.size+1+1,0,none⟩ (.bool false)).setCell ⟨w.heap.size+1+1,1,none⟩ (.slice none 0 0)=W5 at hp ⊢
  obtain ⟨hZ5,ho5,hB5⟩:=hp
  exact bodyPost_ret (by simp [results,Tryz.results138,go_sem,hZ5.c0,hZ5.c1]) rfl ⟨_,_,_,_,_,_,rfl,ho5.base (Nat.le_of_lt HSZ.out),ah (.inr ⟨HT.out,rfl,rfl⟩),hB5⟩
def Two (w:World)(b g g':Nat)(z z':Int)(wr:World):Prop :=
 ∃ (s1 s2:Bool) (A1 A2:Option Addr) (m1 c1 m2 c2:Nat) (y1 y2:Int),ZC wr g s1 A1 m1 c1/\ZC wr g' s2 A2 m2 c2/\OwZ wr b s1 A1 m1 c1 y1/\OwZ wr b s2 A2 m2 c2 y2/\Hid (y1=z/\y2=z')/\Below w.heap.size w wr
theorem two_put {v w W:World}{g g' b b1 b2:Nat}{s s' t t':Bool}{A A' A1 A2:Option Addr}{n c n' c' k m k' m':Nat}{z z' y y':Int}(h:ZC w g s A n c)(h':ZC w g' s' A' n' c')(hne:g ≠ g')(hB:Below v.heap.size v w)(hg:v.heap.size<=g)(hg':v.heap.size<=g')
  (ho:OwZ w b1 t A1 k m y) (ho':OwZ w b2 t' A2 k' m' y') (hb:g < b/\g' < b) (hb1:b<=b1) (hb2:b<=b2) (hy:y=z) (hy':y'=z')
  (hW:W=(((w.setCell ⟨g,0,none⟩ (.bool t)).setCell ⟨g,1,none⟩ (.slice A1 k m)).setCell ⟨g',0,none⟩ (.bool t')).setCell ⟨g',1,none⟩ (.slice A2 k' m') ∨
   W=(((w.setCell ⟨g',0,none⟩ (.bool t')).setCell ⟨g',1,none⟩ (.slice A2 k' m')).setCell ⟨g,0,none⟩ (.bool t)).setCell ⟨g,1,none⟩ (.slice A1 k m)):Two v b g g' z z' W:=by
 have ho:=ho.base hb1
 have ho':=ho'.base hb2
 rcases hW with hW | hW
 ·obtain ⟨h1,h2,h3,h4,h5⟩:=put_two h h' hne hB hg hg' ho ho' hb hb hW
  exact ⟨t,t',A1,A2,k,m,k',m',y,y',h1,h2,h3,h4,ah ⟨hy,hy'⟩,h5⟩
 ·obtain ⟨h1,h2,h3,h4,h5⟩:=put_two h' h (Ne.symm hne) hB hg' hg ho' ho ⟨hb.2,hb.1⟩ ⟨hb.2,hb.1⟩ hW
  exact ⟨t,t',A1,A2,k,m,k',m',y,y',h2,h1,h4,h3,ah ⟨hy,hy'⟩,h5⟩
theorem add_short {w:World}{b b' m c m' c' x y:Nat}{A A':Option Addr}(h:OwU w b A m c (Dg.dg x))(h':OwU w b' A' m' c' (Dg.dg y)):x+y < 4294967296 ^ (max m m'+1):=by
 have e1:=Dg.dg_len_lt.1 (Nat.le_of_eq h.len)
 have e2:=Dg.dg_len_lt.1 (Nat.le_of_eq h'.len)
 have h3:4294967296 ^ m<=4294967296 ^ max m m':=Nat.pow_le_pow_right (by omega) (by omega)
 have h4:4294967296 ^ m'<=4294967296 ^ max m m':=Nat.pow_le_pow_right (by omega) (by omega)
 rw [Nat.pow_succ]
 omega
theorem rIAdd_any {s s':Bool}{A A':Option Addr}{n c n' c':Nat}{z z':Int}{w:World}(h:RdZ w w.heap.size s A n c z)(h':RdZ w w.heap.size s' A' n' c' z')(hn:n<=8796093022207)(hn':n'<=8796093022207) :
  Calls Tryz.prog 175 #[.agg #[.bool s,.slice A n c],.agg #[.bool s',.slice A' n' c']] w (RetI (z+z') w):=by
 obtain ⟨hZ,hY,hR,hB⟩:=boxed2 w s A n c s' A' n' c'
 have h1:=h.next hB
 have h1':=h'.next hB
 have HL1:=ah h1.len
 have HL2:=ah h1'.len
 have HSZ:=ah (show w.heap.size < _ from Nat.lt_trans (Nat.lt_succ_self _) (Nat.lt_trans (Nat.lt_succ_self _) hR.lt))
 go_enter Tryz.func175,Tryz.ntmps175
 go_upto_region 1 with fail
 generalize ((w.alloc (.cells #[.bool s,.slice A n c] 25)).alloc (.cells #[.bool s',.slice A' n' c'] 25)).alloc (.cells #[.bool false,.slice none 0 0] 25)=W1 at *
 have HS1:=ah hR.lt
 go_cut [] from 5 to 8 (fun wr=>Two w W1.heap.size w.heap.size (w.heap.size+1) z z' wr/\ZC wr (w.heap.size+1+1) false none 0 0)
 case first =>
  have HBD:=ah (Below.refl W1.heap.size W1).drew
  have hc0:=hZ.c0
  have hc1:=hZ.c1
  have hd0:=hY.c0
  have hd1:=hY.c1
  have HZ:=ah hZ
  have HY:=ah hY
  have HR:=ah hR
  go_region_with (first
   | (go_at_call 154;have hx:=HB2.out;clear hx;refine (rINorm_any (h1'.next HB2.out) (by omega)).mono ?_;rintro _ W3 ⟨s3,A3,m3,c3,z3,rfl,ho3,hz3,hb3⟩;have HB3:=tM HB2 hb3;have ha0:=(HZ.out.next HB3.out).c0;have ha1:=(HZ.out.next HB3.out).c1;have ha2:=(HY.out.next HB3.out).c0;have ha3:=(HY.out.next HB3.out).c1;have hf0:=(HZ.out.next HB3.out).fz 0;have hf1:=(HZ.out.next HB3.out).fz 1;have hf2:=(HY.out.next HB3.out).fz 0;have hf3:=(HY.out.next HB3.out).fz 1)
   | (go_at_call 154;refine (rINorm_any (h1.next HBD.out) (by omega)).mono ?_;rintro _ W2 ⟨s2,A2,m2,c2,z2,rfl,ho2,hz2,hb2⟩;have HB2:=ah (HBD.out.trans hb2);have he2:=(HY.out.next HB2.out).c0;have he3:=(HY.out.next HB2.out).c1))
  all_goals
   have HP:=ah fun W=>two_put (W:=W) (z:=z) (z':=z') (HZ.out.next HB3.out) (HY.out.next HB3.out) (by omega) (hB.trans (HB3.out.mono hB.size)) nR (Nat.le_succ _) (ho2.next hb3) ho3 (b:=W1.heap.size) ⟨HZ.out.lt,HY.out.lt⟩ HBD.out.size HB2.out.size hz2.out hz3.out
   have HRN:=ah (HR.out.next HB3.out)
   clear ha0 ha1 ha2 ha3 hf0 hf1 hf2 hf3 he2 he3 hc0 hc1 hd0 hd1
   go_wp2
   go_meet
   refine ⟨?_,?_⟩
   ·first
    | exact HP.out _ (.inl rfl)
    | exact HP.out _ (.inr rfl)
   ·exact (((HRN.out.far (by simp <;> omega) _).far (by simp <;> omega) _).far (by simp <;> omega) _).far (by simp <;> omega) _
 case rest =>
  obtain ⟨⟨s1,s2,A1,A2,m1,c1,m2,c2,y1,y2,hZ,hY,ho1,ho2,hy,hB⟩,hR⟩:=hcut
  have HO1:=ah ho1
  have HO2:=ah ho2
  have HM:=ah (show m1<=8796093022207/\m2<=8796093022207 from ⟨by rw [ho1.len,hy.out.1];have:=HL1.out;omega,by rw [ho2.len,hy.out.2];have:=HL2.out;omega⟩)
  have HV:=ah (show Zz.sg s1 y1.natAbs=z/\Zz.sg s2 y2.natAbs=z' from ⟨by rw [ho1.sgn,Zz.sg_abs,hy.out.1],by rw [ho2.sgn,Zz.sg_abs,hy.out.2]⟩)
  clear ho1 ho2 h h' h1 h1'
  have hc0:=hZ.c0
  have hc1:=hZ.c1
  have hd0:=hY.c0
  have hd1:=hY.c1
  by_cases hss:s2=s1
  ·subst hss
   have hc0:=hZ.c0
   have hc1:=hZ.c1
   have hd1:=hY.c1
   have HBD:=ah (Below.refl wc.heap.size wc).drew
   have HOP:=ah (refAdd1_any (HO1.out.own.rd.next HBD.out) (HO2.out.own.rd.next HBD.out) HM.out.1 HM.out.2)
   have HZ:=ah hZ
   have HY:=ah hY
   have HR:=ah hR
   have hq1:¬ (w.heap.size+1+1=w.heap.size):=by omega
   have hq2:¬ (w.heap.size=w.heap.size+1+1):=by omega
   go_wp2_with fail
   go_region_held3 (fun w'=>w'.cell? ⟨w.heap.size,0,none⟩=some (.bool s2)/\w'.cell? ⟨w.heap.size,1,none⟩=some (.slice A1 m1 c1)/\w'.cell? ⟨w.heap.size+1,1,none⟩=some (.slice A2 m2 c2)) (go_keep)
    (first
     | (go_at_call 212;refine HOP.out.mono ?_;rintro _ V2 ⟨A5,m5,c5,x5,rfl,ho5,hx5,hb5⟩;have HB5:=ah (HBD.out.trans hb5);have he0:=(HZ.out.next HB5.out).c0;have he1:=(HZ.out.next HB5.out).c1;have he2:=(HY.out.next HB5.out).c1)
     | (go_at_call 154;refine (rINorm_any (z:=Zz.sg s2 (Dg.val (Dg.dg x5))) ⟨_,ho5.rd,rfl⟩ (by refine nT (ho5.short (k:=max m1 m2+1) (by rw [hx5.out,Dg.val_dg,Dg.val_dg];exact add_short HO1.out.own HO2.out.own)) (by have:=HM.out;omega))).mono ?_;rintro _ V3 ⟨s6,A6,m6,c6,z6,rfl,ho6,hz6,hb6⟩;have HB6:=tM HB5 hb6;have hf0:=(HZ.out.next HB6.out).c0;have hf1:=(HZ.out.next HB6.out).c1;have hf2:=(HY.out.next HB6.out).c1;have hg0:=(HR.out.next HB6.out).c0;have hg1:=(HR.out.next HB6.out).c1;have hh0:=(HR.out.next HB6.out).fz 0;have hh1:=(HR.out.next HB6.out).fz 1))
   have HFA:=ah (show z6=z+z' by rw [hz6.out,Dg.val_dg,hx5.out,Dg.val_dg,Dg.val_dg,<- Zz.sg_add,HV.out.1,HV.out.2])
   have hR6:=HR.out.next HB6.out
   have hB6:=hB.trans (HB6.out.mono hB.size)
   have HS6:=ah (show w.heap.size+1+1 < V2.heap.size from Nat.lt_of_lt_of_le HR.out.lt HB5.out.size)
   clear hf0 hf1 hf2 hg0 hg1 hh0 hh1 hc0 hc1 hd1 he0 he1 he2 hb5 hb6 hq1 hq2
   have hp:=put_int hR6 hB6 (by omega) ho6 HS6.out
   generalize (V3.setCell ⟨w.heap.size+1+1,0,none⟩ (.bool s6)).setCell ⟨w.heap.size+1+1,1,none⟩ (.slice A6 m6 c6)=V9 at hp ⊢
   obtain ⟨hZ9,ho9,hB9⟩:=hp
   go_wp2
   exact bodyPost_ret (by simp [results,Tryz.results175,go_sem,hZ9.c0,hZ9.c1]) rfl ⟨_,_,_,_,_,rfl,ho9.base (by have:=HS6.out;omega),HFA,hB9⟩
  ·have hbe:(s1 == s2)=false:=by simpa using fun e=>hss e.symm
   have HSS:=ah hss
   clear hss
   go_wp2_with fail
   refine (refCmp_any HO1.out.own.rd HO2.out.own.rd HM.out.1 HM.out.2).mono ?_
   rintro _ _ ⟨zc,rfl,hzc,rfl⟩
   rw [Dg.val_dg,Dg.val_dg] at hzc
   by_cases hlt:y1.natAbs < y2.natAbs
   ·have hzc0:zc < 0:=by rw [hzc.out];exact cmp_neg.2 hlt
    have HLT:=ah hlt
    clear hlt hzc
    have hf0:=hZ.fz 0
    have hf1:=hZ.fz 1
    have hf2:=hY.fz 0
    have hf3:=hY.fz 1
    go_upto_region 6 with fail
    obtain ⟨W2,HW2⟩:∃ W,W=(((wc.setCell ⟨w.heap.size,0,none⟩ (.bool s2)).setCell ⟨w.heap.size,1,none⟩ (.slice A2 m2 c2)).setCell ⟨w.heap.size+1,0,none⟩ (.bool s1)).setCell ⟨w.heap.size+1,1,none⟩ (.slice A1 m1 c1):=⟨_,rfl⟩
    obtain ⟨hZ2,hY2,hO2,hO1,hB2⟩:=put_two hZ hY (by omega) hB nR (Nat.le_succ _) HO2.out HO1.out (by have:=HS1.out;omega) (by have:=HS1.out;omega) HW2
    have hR2:ZC W2 (w.heap.size+1+1) false none 0 0:=by rw [HW2];exact (((hR.far (by simp <;> omega) _).far (by simp <;> omega) _).far (by simp <;> omega) _).far (by simp <;> omega) _
    rw [<- HW2]
    have HO21:=ah hO1
    have HO22:=ah hO2
    clear HW2 hf0 hf1 hf2 hf3 hc0 hc1 hd0 hd1 hO1 hO2 hZ hY hR hB
    have hc0:=hZ2.c0
    have hc1:=hZ2.c1
    have hd1:=hY2.c1
    have HBD:=ah (Below.refl W2.heap.size W2).drew
    have HOP:=ah (refNSub_any (HO22.out.own.rd.next HBD.out) (HO21.out.own.rd.next HBD.out) HM.out.2 (by rw [Dg.val_dg,Dg.val_dg];exact Nat.le_of_lt HLT.out))
    have HZ:=ah hZ2
    have HY:=ah hY2
    have HR:=ah hR2
    have hq1:¬ (w.heap.size+1+1=w.heap.size):=by omega
    have hq2:¬ (w.heap.size=w.heap.size+1+1):=by omega
    go_region_held3 (fun w'=>w'.cell? ⟨w.heap.size,0,none⟩=some (.bool s2)/\w'.cell? ⟨w.heap.size,1,none⟩=some (.slice A2 m2 c2)/\w'.cell? ⟨w.heap.size+1,1,none⟩=some (.slice A1 m1 c1)) (go_keep)
     (first
      | (go_at_call 214;refine HOP.out.mono ?_;rintro _ V2 ⟨A5,m5,c5,x5,rfl,ho5,hx5,hb5⟩;have HB5:=ah (HBD.out.trans hb5);have he0:=(HZ.out.next HB5.out).c0;have he1:=(HZ.out.next HB5.out).c1;have he2:=(HY.out.next HB5.out).c1)
      | (go_at_call 154;refine (rINorm_any (z:=Zz.sg s2 (Dg.val (Dg.dg x5))) ⟨_,ho5.rd,rfl⟩ (by refine nT (ho5.short (k:=m2) (by rw [hx5.out,Dg.val_dg,Dg.val_dg];exact Nat.lt_of_le_of_lt (Nat.sub_le _ _) (Dg.dg_len_lt.1 (Nat.le_of_eq HO22.out.own.len)))) (by have:=HM.out;omega))).mono ?_;rintro _ V3 ⟨s6,A6,m6,c6,z6,rfl,ho6,hz6,hb6⟩;have HB6:=tM HB5 hb6;have hf0:=(HZ.out.next HB6.out).c0;have hf1:=(HZ.out.next HB6.out).c1;have hf2:=(HY.out.next HB6.out).c1;have hg0:=(HR.out.next HB6.out).c0;have hg1:=(HR.out.next HB6.out).c1;have hh0:=(HR.out.next HB6.out).fz 0;have hh1:=(HR.out.next HB6.out).fz 1))
    have HFA:=ah (show z6=z+z' by rw [hz6.out,Dg.val_dg,hx5.out,Dg.val_dg,Dg.val_dg,<- Zz.sg_sub (fun e=>HSS.out e.symm) (Nat.le_of_lt HLT.out),HV.out.1,HV.out.2,Int.add_comm])
    have hR6:=HR.out.next HB6.out
    have hB6:=hB2.trans (HB6.out.mono hB2.size)
    have HS6:=ah (show w.heap.size+1+1 < V2.heap.size from Nat.lt_of_lt_of_le HR.out.lt HB5.out.size)
    clear hf0 hf1 hf2 hg0 hg1 hh0 hh1 hc0 hc1 hd1 he0 he1 he2 hb5 hb6 hq1 hq2
    have hp:=put_int hR6 hB6 (by omega) ho6 HS6.out
    generalize (V3.setCell ⟨w.heap.size+1+1,0,none⟩ (.bool s6)).setCell ⟨w.heap.size+1+1,1,none⟩ (.slice A6 m6 c6)=V9 at hp ⊢
    obtain ⟨hZ9,ho9,hB9⟩:=hp
    go_wp2
    exact bodyPost_ret (by simp [results,Tryz.results175,go_sem,hZ9.c0,hZ9.c1]) rfl ⟨_,_,_,_,_,rfl,ho9.base (by have:=HS6.out;omega),HFA,hB9⟩
   ·have hzc0:0<=zc:=by rw [hzc.out];have:=mt cmp_neg.1 hlt;omega
    have HLT:=ah (Nat.le_of_not_lt hlt)
    clear hlt hzc
    go_upto_region 6 with fail
    clear hc0 hc1 hd0 hd1
    have hc0:=hZ.c0
    have hc1:=hZ.c1
    have hd1:=hY.c1
    have HBD:=ah (Below.refl wc.heap.size wc).drew
    have HOP:=ah (refNSub_any (HO1.out.own.rd.next HBD.out) (HO2.out.own.rd.next HBD.out) HM.out.1 (by rw [Dg.val_dg,Dg.val_dg];exact HLT.out))
    have HZ:=ah hZ
    have HY:=ah hY
    have HR:=ah hR
    have hq1:¬ (w.heap.size+1+1=w.heap.size):=by omega
    have hq2:¬ (w.heap.size=w.heap.size+1+1):=by omega
    go_region_held3 (fun w'=>w'.cell? ⟨w.heap.size,0,none⟩=some (.bool s1)/\w'.cell? ⟨w.heap.size,1,none⟩=some (.slice A1 m1 c1)/\w'.cell? ⟨w.heap.size+1,1,none⟩=some (.slice A2 m2 c2)) (go_keep)
     (first
      | (go_at_call 214;refine HOP.out.mono ?_;rintro _ V2 ⟨A5,m5,c5,x5,rfl,ho5,hx5,hb5⟩;have HB5:=ah (HBD.out.trans hb5);have he0:=(HZ.out.next HB5.out).c0;have he1:=(HZ.out.next HB5.out).c1;have he2:=(HY.out.next HB5.out).c1)
      | (go_at_call 154;refine (rINorm_any (z:=Zz.sg s1 (Dg.val (Dg.dg x5))) ⟨_,ho5.rd,rfl⟩ (by refine nT (ho5.short (k:=m1) (by rw [hx5.out,Dg.val_dg,Dg.val_dg];exact Nat.lt_of_le_of_lt (Nat.sub_le _ _) (Dg.dg_len_lt.1 (Nat.le_of_eq HO1.out.own.len)))) (by have:=HM.out;omega))).mono ?_;rintro _ V3 ⟨s6,A6,m6,c6,z6,rfl,ho6,hz6,hb6⟩;have HB6:=tM HB5 hb6;have hf0:=(HZ.out.next HB6.out).c0;have hf1:=(HZ.out.next HB6.out).c1;have hf2:=(HY.out.next HB6.out).c1;have hg0:=(HR.out.next HB6.out).c0;have hg1:=(HR.out.next HB6.out).c1;have hh0:=(HR.out.next HB6.out).fz 0;have hh1:=(HR.out.next HB6.out).fz 1))
    have HFA:=ah (show z6=z+z' by rw [hz6.out,Dg.val_dg,hx5.out,Dg.val_dg,Dg.val_dg,<- Zz.sg_sub HSS.out HLT.out,HV.out.1,HV.out.2])
    have hR6:=HR.out.next HB6.out
    have hB6:=hB.trans (HB6.out.mono hB.size)
    have HS6:=ah (show w.heap.size+1+1 < V2.heap.size from Nat.lt_of_lt_of_le HR.out.lt HB5.out.size)
    clear hf0 hf1 hf2 hg0 hg1 hh0 hh1 hc0 hc1 hd1 he0 he1 he2 hb5 hb6 hq1 hq2
    have hp:=put_int hR6 hB6 (by omega) ho6 HS6.out
    generalize (V3.setCell ⟨w.heap.size+1+1,0,none⟩ (.bool s6)).setCell ⟨w.heap.size+1+1,1,none⟩ (.slice A6 m6 c6)=V9 at hp ⊢
    obtain ⟨hZ9,ho9,hB9⟩:=hp
    go_wp2
    exact bodyPost_ret (by simp [results,Tryz.results175,go_sem,hZ9.c0,hZ9.c1]) rfl ⟨_,_,_,_,_,rfl,ho9.base (by have:=HS6.out;omega),HFA,hB9⟩
theorem rISub_any {s s':Bool}{A A':Option Addr}{n c n' c':Nat}{z z':Int}{w:World}(h:RdZ w w.heap.size s A n c z)(h':RdZ w w.heap.size s' A' n' c' z')(hn:n<=8796093022207)(hn':n'<=8796093022207) :
  Calls Tryz.prog 229 #[.agg #[.bool s,.slice A n c],.agg #[.bool s',.slice A' n' c']] w (RetI (z-z') w):=by
 obtain ⟨hZ,hY,hR,hB⟩:=boxed2 w s A n c s' A' n' c'
 have h1:=h.next hB
 have h1':=h'.next hB
 have HSZ:=ah (show w.heap.size < _ from Nat.lt_trans (Nat.lt_succ_self _) (Nat.lt_trans (Nat.lt_succ_self _) hR.lt))
 go_enter Tryz.func229,Tryz.ntmps229
 go_wp2_with fail
 generalize ((w.alloc (.cells #[.bool s,.slice A n c] 25)).alloc (.cells #[.bool s',.slice A' n' c'] 25)).alloc (.cells #[.bool false,.slice none 0 0] 25)=W1 at *
 have HBD:=ah (Below.refl W1.heap.size W1).drew
 have HNE:=ah (rINeg_any (h1'.next HBD.out) (by omega))
 have HLN:=ah (show Zz.zl z'<=n' from h1'.len)
 have hc0:=hZ.c0
 have hc1:=hZ.c1
 have hd0:=hY.c0
 have hd1:=hY.c1
 have HZ:=ah hZ
 have HY:=ah hY
 have HR:=ah hR
 have hq1:¬ (w.heap.size+1+1=w.heap.size):=by omega
 have hq2:¬ (w.heap.size=w.heap.size+1+1):=by omega
 go_region_held3 (fun w'=>w'.cell? ⟨w.heap.size,0,none⟩=some (.bool s)/\w'.cell? ⟨w.heap.size,1,none⟩=some (.slice A n c)/\w'.cell? ⟨w.heap.size+1,0,none⟩=some (.bool s')/\w'.cell? ⟨w.heap.size+1,1,none⟩=some (.slice A' n' c')) (go_keep)
  (first
   | (go_at_call 99;refine HNE.out.mono ?_;rintro _ W2 ⟨s2,A2,m2,c2,z2,rfl,ho2,hz2,hb2⟩;have HB2:=ah (HBD.out.trans hb2);have hd0:=(HZ.out.next HB2.out).c0;have hd1:=(HZ.out.next HB2.out).c1;have hd2:=(HY.out.next HB2.out).c0;have hd3:=(HY.out.next HB2.out).c1)
   | (go_at_call 175;refine (rIAdd_any (h1.next HB2.out) ho2.rd hn (by rw [ho2.len,hz2.out,Zz.zl_neg];exact nT HLN.out hn')).mono ?_;rintro _ W4 ⟨s4,A4,m4,c4,z4,rfl,ho4,hz4,hb4⟩;have HB4:=tM HB2 hb4;have hf0:=(HZ.out.next HB4.out).c0;have hf1:=(HZ.out.next HB4.out).c1;have hf2:=(HY.out.next HB4.out).c0;have hf3:=(HY.out.next HB4.out).c1;have hg0:=(HR.out.next HB4.out).c0;have hg1:=(HR.out.next HB4.out).c1;have hh0:=(HR.out.next HB4.out).fz 0;have hh1:=(HR.out.next HB4.out).fz 1))
 have HS1:=ah hR.lt
 have hp:=put_int (hR.next HB4.out) (hB.trans (HB4.out.mono hB.size)) (by omega) ho4 (Nat.lt_of_lt_of_le HS1.out HB2.out.size)
 generalize (W4.setCell ⟨w.heap.size+1+1,0,none⟩ (.bool s4)).setCell ⟨w.heap.size+1+1,1,none⟩ (.slice A4 m4 c4)=W5 at hp ⊢
 obtain ⟨hZ5,ho5,hB5⟩:=hp
 clear hf0 hf1 hf2 hf3 hg0 hg1 hh0 hh1 hc0 hc1 hd0 hd1 hd2 hd3 hb2 hb4
 go_wp2
 exact bodyPost_ret (by simp [results,Tryz.results229,go_sem,hZ5.c0,hZ5.c1]) rfl ⟨_,_,_,_,_,rfl,ho5.base (nT (Nat.le_of_lt HSZ.out) HB2.out.size),ah (by rw [hz4.out,hz2.out,Int.sub_eq_add_neg]),hB5⟩
theorem sign_three (z:Int):(0 < z/\z.sign=1) ∨ (z=0/\z.sign=0) ∨ (z < 0/\z.sign=-1):=by
 rcases Int.lt_trichotomy z 0 with h | h | h
 ·exact .inr (.inr ⟨h,Int.sign_eq_neg_one_of_neg h⟩)
 ·exact .inr (.inl ⟨h,by rw [h];rfl⟩)
 ·exact .inl ⟨h,Int.sign_eq_one_of_pos h⟩
theorem mul_bound {x y:Nat}(hx:x < 4294967296)(hy:y < 4294967296):x*y<=18446744065119617025:=by
 have:=Nat.mul_le_mul (show x<=4294967295 by omega) (show y<=4294967295 by omega)
 simpa using this
theorem mul_inner {O O0 L':List Nat}{i j x c T:Nat}(hO:i+j < O.length)(h:Dg.vf (Dg.ld O) (i+j)+c*4294967296 ^ (i+j)=Dg.vf (Dg.ld O0) (i+j)+x*4294967296 ^ i*Dg.vf (Dg.ld L') j)
  (he:Dg.ld O (i+j)=Dg.ld O0 (i+j)) (hT:T=x*Dg.ld L' j+Dg.ld O (i+j)+c) :
  Dg.vf (Dg.ld (O.set (i+j) (T % 4294967296))) (i+(j+1))+T / 4294967296*4294967296 ^ (i+(j+1))=Dg.vf (Dg.ld O0) (i+(j+1))+x*4294967296 ^ i*Dg.vf (Dg.ld L') (j+1):=by
 rw [show i+(j+1)=i+j+1 by omega,Dg.vf_succ,Dg.vf_succ,Dg.vf_succ,Dg.vf_set _ nR,Dg.ld_set_same _ hO,<- he]
 have hm:T=T % 4294967296+4294967296*(T / 4294967296):=(Nat.mod_add_div T 4294967296).symm
 rw [Nat.pow_succ]
 have hp:4294967296 ^ (i+j)=4294967296 ^ i*4294967296 ^ j:=Nat.pow_add _ _ _
 generalize T % 4294967296=r at *
 generalize T / 4294967296=q at *
 generalize Dg.vf (Dg.ld O) (i+j)=v at *
 generalize Dg.vf (Dg.ld O0) (i+j)=v0 at *
 generalize Dg.vf (Dg.ld L') j=b at *
 generalize Dg.ld O (i+j)=o at *
 generalize Dg.ld L' j=y at *
 rw [hp] at h ⊢
 generalize 4294967296 ^ i=P at *
 generalize 4294967296 ^ j=R at *
 generalize (4294967296:Nat)=B at *
 grind
theorem mul_outer {O O0 L L':List Nat}{i n' c:Nat}(hO:i+n' < O.length)(h0:Dg.vf (Dg.ld O0) (i+n')=Dg.vf (Dg.ld L) i*Dg.val L')
  (h:Dg.vf (Dg.ld O) (i+n')+c*4294967296 ^ (i+n')=Dg.vf (Dg.ld O0) (i+n')+Dg.ld L i*4294967296 ^ i*Dg.val L') :
  Dg.vf (Dg.ld (O.set (i+n') c)) (i+1+n')=Dg.vf (Dg.ld L) (i+1)*Dg.val L':=by
 rw [show i+1+n'=i+n'+1 by omega,Dg.vf_succ,Dg.vf_succ,Dg.vf_set _ nR,Dg.ld_set_same _ hO,h,h0]
 generalize Dg.vf (Dg.ld L) i=a
 generalize Dg.ld L i=x
 generalize Dg.val L'=v
 generalize 4294967296 ^ i=P
 grind
theorem nMul_any {A A':Option Addr}{n c n' c':Nat}{L L':List Nat}{w:World}(h:RdU w w.heap.size A n c L)(h':RdU w w.heap.size A' n' c' L')(hn:n<=4398046511103)(hn':n'<=4398046511103) :
  Calls Tryz.prog 195 #[.slice A n c,.slice A' n' c'] w (RetN (Dg.val L*Dg.val L') w):=by
 have hlen:=ah h.len
 have hlen':=ah h'.len
 go_enter Tryz.func195,Tryz.ntmps195
 go_wp2_with fail
 refine (trim_any h (by omega)).mono ?_
 rintro _ _ ⟨k,rfl,hk,rfl⟩
 go_wp2_with fail
 refine (trim_any h' (by omega)).mono ?_
 rintro _ _ ⟨k',rfl,hk',rfl⟩
 have hkn:k<=n:=by have:=hk.out.1;rw [hlen.out] at this;exact this
 have hkn':k'<=n':=by have:=hk'.out.1;rw [hlen'.out] at this;exact this
 have hR:=h.take hkn
 have hR':=h'.take hkn'
 have HV:=ah (show Dg.val (L.take k)=Dg.val L/\Dg.val (L'.take k')=Dg.val L' from ⟨by rw [hk.out.2,Dg.val_dg],by rw [hk'.out.2,Dg.val_dg]⟩)
 clear hk hk' h h' hlen hlen'
 generalize L.take k=M at *
 generalize L'.take k'=M' at *
 have HL:=ah (cJ hR.len hR'.len)
 rcases Nat.eq_zero_or_pos k with e | e
 ·subst e
  have HZ:=ah (show Dg.val L=0 by rw [<- HV.out.1,List.eq_nil_of_length_eq_zero HL.out.1];rfl)
  go_wp2
  go_ret
  exact ⟨none,0,0,0,rfl,by rw [Dg.dg_zero];exact OwU.nil _ _,ah (by rw [HZ.out,Nat.zero_mul]),bR⟩
 rcases Nat.eq_zero_or_pos k' with e' | e'
 ·subst e'
  have HZ:=ah (show Dg.val L'=0 by rw [<- HV.out.2,List.eq_nil_of_length_eq_zero HL.out.2];rfl)
  have hkb:((k:Int) == 0)=false:=by simp;omega
  go_wp2
  go_ret
  exact ⟨none,0,0,0,rfl,by rw [Dg.dg_zero];exact OwU.nil _ _,ah (by rw [HZ.out,Nat.mul_zero]),bR⟩
 have hkb:((k:Int) == 0)=false:=by simp;omega
 have hkb':((k':Int) == 0)=false:=by simp;omega
 obtain ⟨m,hm⟩:∃ m,m=k+k':=⟨_,rfl⟩
 have hmi:(k:Int)+k'=m:=by omega
 have hmx:m<=8796093022206:=by omega
 have hmk:=make_nat m (by omega)
 have hB0:=(Below.refl w.heap.size w).alloc nR (.cells (madeCells #[.int .u32 0] m) 171)
 have hU0:=UB.made w m
 have HM:=ah hm
 clear hm
 go_wp2_with fail
 generalize w.alloc (.cells (madeCells #[.int .u32 0] m) 171)=W1 at hB0 hU0 ⊢
 obtain ⟨g,hg⟩:∃ g,g=w.heap.size:=⟨_,rfl⟩
 rw [<- hg] at hU0 ⊢
 have HG:=ah hg
 clear hg hmk
 go_loopw [32] (fun iv wr=>∃ (i:Nat) (O:List Nat),iv=.int .i64 i/\i<=k/\UB wr g O/\Hid (O.length=m/\Dg.Wd O/\Dg.vf (Dg.ld O) (i+k')=Dg.vf (Dg.ld M) i*Dg.val M')/\Hid (∀ z,i+k'<=z->Dg.ld O z=0)/\Below w.heap.size w wr) (fun iv _=>k-(intOf iv).toNat)
 case atStart =>
  refine ⟨0,_,rfl,nZ,hU0,ah ⟨by simp,Dg.Wd.zeros _,?_⟩,ah fun z _=>Dg.ld_replicate _ _,hB0⟩
  rw [show Dg.vf (Dg.ld M) 0=0 from rfl,Nat.zero_mul]
  have e:∀ t,Dg.vf (Dg.ld (List.replicate m 0)) t=0:=by
   intro t
   induction t with
   | zero=>rfl
   | succ t ih=>rw [Dg.vf_succ,ih,Dg.ld_replicate];simp
  exact e _
 case round =>
  clear hU0 hB0
  obtain ⟨i,O,rfl,hi,hU,hO,hZ,hB⟩:=hrel
  by_cases hik:i=k
  ·subst hik
   have hO3:=hU.rd hO.out.2.1 hU.lt (k:=m) (by rw [hO.out.1];exact nR) (by rw [hO.out.1];unfold maxLen;omega)
   rw [hO.out.1,List.take_of_length_le (by rw [hO.out.1];exact nR)] at hO3
   go_wp2_with fail
   refine (own_any hO3 (by omega)).mono ?_
   rintro _ W4 ⟨A4,m4,c4,x4,rfl,ho4,hx4,hb4⟩
   go_wp2
   go_ret
   refine ⟨_,_,_,x4,rfl,ho4.base hB.size,ah ?_,hB.trans (hb4.mono hB.size)⟩
   have e1:=hO.out.2.2
   rw [Dg.vf_eq_val (by rw [hO.out.1,HM.out];exact nR),Dg.vf_eq_val (by rw [HL.out.1];exact nR)] at e1
   rw [hx4.out,e1,HV.out.1,HV.out.2]
  ·have hil:i < k:=by omega
   clear hik
   have hili:(i:Int) < (k:Int):=by omega
   obtain ⟨hx,ad,rfl,hbx,hcx⟩:=hR.at_ i _ (Dg.get_of_ld (by rw [HL.out.1];exact hil))
   have hcx:=(hB.cell (p:=ad.add i) (by rw [add_blk];exact hbx)).trans hcx
   obtain ⟨x,ex⟩:∃ x,x=Dg.ld M i:=⟨_,rfl⟩
   rw [<- ex] at hx hcx
   have EX:=ah ex
   clear ex
   have hx0:(0:Int)<=(x:Int):=by omega
   go_wp2_with fail
   go_loopw [8,39] (fun cv jv wr=>∃ (j cy:Nat) (O':List Nat),cv=.int .u64 cy/\jv=.int .i64 j/\j<=k'/\cy < 4294967296/\UB wr g O'/\Hid (O'.length=m/\Dg.Wd O'/\Dg.vf (Dg.ld O') (i+j)+cy*4294967296 ^ (i+j)=Dg.vf (Dg.ld O) (i+j)+x*4294967296 ^ i*Dg.vf (Dg.ld M') j)/\Hid (∀ z,i+j<=z->Dg.ld O' z=Dg.ld O z)/\Below w.heap.size w wr) (fun _ jv _=>k'-(intOf jv).toNat)
   case atStart=>exact ⟨0,0,O,rfl,rfl,nZ,by omega,hU,ah ⟨hO.out.1,hO.out.2.1,by rw [show Dg.vf (Dg.ld M') 0=0 from rfl,Nat.zero_mul,Nat.mul_zero]⟩,ah fun _ _=>rfl,hB⟩
   case round =>
    clear hU hB hcx
    obtain ⟨j,cy,P,rfl,rfl,hj,hcy,hU,hP,hZP,hB⟩:=hrel
    by_cases hjk:j=k'
    ·subst hjk
     obtain ⟨y,hy⟩:∃ y,y=i+j:=⟨_,rfl⟩
     have hyi:(i:Int)+j=(y:Int):=by omega
     have hyl:y < m:=by rw [HM.out];omega
     have hfz:=hU.frozen y
     have hcell:=hU.cell (Dg.get_of_ld (L:=P) (i:=y) (by rw [hP.out.1];exact hyl))
     have HY:=ah hy
     generalize Dg.ld P y=o0 at hcell
     have hU1:UB (wr.setCell ⟨g,y,none⟩ (.int .u32 cy)) g (P.set y cy):=hU.set y cy
     have hB1:=hB.setCell (p:=⟨g,y,none⟩) (by show w.heap.size<=g;have:=HG.out;omega) (.int .u32 cy)
     have hcyi:(cy:Int) % 4294967296=(cy:Int):=by omega
     clear hy
     go_wp2
     go_roundw
     case rel=>exact ⟨i+1,_,by go_num,by omega,hU1,ah ⟨by rw [List.length_set];exact hP.out.1,hP.out.2.1.set y hcy,by
      rw [HY.out]
      exact mul_outer (O0:=O) (by rw [hP.out.1,HM.out];omega) hO.out.2.2 (by have e:=hP.out.2.2;rw [Dg.vf_eq_val (L:=M') (by rw [HL.out.2];exact nR)] at e;rw [<- EX.out];exact e)⟩,ah (fun z hz=>by rw [Dg.ld_set_other _ (by have:=HY.out;omega),hZP.out z (by omega)];exact hZ.out z (by omega)),hB1⟩
     case measure=>simp [intOf];omega
    ·have hjl:j < k':=by omega
     clear hjk
     have hjli:(j:Int) < (k':Int):=by omega
     obtain ⟨hv,ad',rfl,hbv,hcv⟩:=hR'.at_ j _ (Dg.get_of_ld (by rw [HL.out.2];exact hjl))
     have hcv:=(hB.cell (p:=ad'.add j) (by rw [add_blk];exact hbv)).trans hcv
     obtain ⟨v,ev⟩:∃ v,v=Dg.ld M' j:=⟨_,rfl⟩
     rw [<- ev] at hv hcv
     have EV:=ah ev
     obtain ⟨y,hy⟩:∃ y,y=i+j:=⟨_,rfl⟩
     have hyi:(i:Int)+j=(y:Int):=by omega
     have hyl:y < m:=by rw [HM.out];omega
     have hfz:=hU.frozen y
     have hcell:=hU.cell (Dg.get_of_ld (L:=P) (i:=y) (by rw [hP.out.1];exact hyl))
     have HY:=ah hy
     obtain ⟨o0,eo⟩:∃ o,o=Dg.ld P y:=⟨_,rfl⟩
     rw [<- eo] at hcell
     have hol:o0 < 4294967296:=by rw [eo];exact Dg.ld_word hP.out.2.1 y
     have EO:=ah eo
     obtain ⟨r,er⟩:∃ r,r=x*v:=⟨_,rfl⟩
     have hrl:r<=18446744065119617025:=by rw [er];exact mul_bound hx hv
     have hri:(x:Int)*v=(r:Int):=by rw [er];simp
     have ER:=ah er
     have HB:=ah hB
     obtain ⟨T,eT⟩:∃ T,T=r+o0+cy:=⟨_,rfl⟩
     have hw:IntKind.u64.wrap (IntKind.u64.wrap (IntKind.u64.wrap (IntKind.u64.wrap (x:Int)*IntKind.u64.wrap (v:Int))+o0)+cy)=(T:Int):=by
      rw [IntWalk.u64_in (x:Int) (by omega),IntWalk.u64_in (v:Int) (by omega),hri,IntWalk.u64_in (r:Int) (by omega),IntWalk.u64_in ((r:Int)+o0) (by omega),IntWalk.u64_in _ (by omega)]
      omega
     have HW:=ah hw
     have ET:=ah eT
     have hq:((T:Int) / 4294967296)=((T / 4294967296:Nat):Int):=by simp
     have hr:((T:Int) % 4294967296)=((T % 4294967296:Nat):Int):=by simp
     have HQR:=ah (cJ hq hr)
     have hTl:T / 4294967296 < 4294967296:=by omega
     have HU1:=ah (show UB (wr.setCell ⟨g,y,none⟩ (.int .u32 ((T % 4294967296:Nat):Int))) g (P.set y (T % 4294967296)) from hU.set y (T % 4294967296))
     have HB1:=ah (hB.setCell (p:=⟨g,y,none⟩) (by show w.heap.size<=g;have:=HG.out;omega) (.int .u32 ((T % 4294967296:Nat):Int)))
     have HI:=ah (mul_inner (O:=P) (O0:=O) (L':=M') (i:=i) (j:=j) (x:=x) (c:=cy) (T:=T) (by rw [hP.out.1,HM.out];omega) hP.out.2.2 (hZP.out _ nR) (by rw [eT,er,<- EV.out,eo,hy]))
     clear ev hy eo er hx hv hri hw hq hr eT
     go_wp2_with fail
     rw [HW.out,HQR.out.1,HQR.out.2]
     go_roundw
     case rel=>exact ⟨j+1,T / 4294967296,P.set y (T % 4294967296),rfl,by go_num,by omega,hTl,HU1.out,ah ⟨by rw [List.length_set];exact hP.out.1,hP.out.2.1.set y (Nat.mod_lt _ (by omega)),by rw [HY.out];exact HI.out⟩,ah (fun z hz=>by rw [Dg.ld_set_other _ (by have:=HY.out;omega)];exact hZP.out z (by omega)),HB1.out⟩
     case measure=>simp [intOf];omega
theorem inorm_any {s:Bool}{A:Option Addr}{n c:Nat}{z:Int}{w:World}(h:RdZ w w.heap.size s A n c z)(hn:n<=17592186044416) :
  Calls Tryz.prog 251 #[.agg #[.bool s,.slice A n c]] w (RetI z w):=by
 obtain ⟨hZ,hR,hB⟩:=boxed1 w s A n c
 have h1:=h.next hB
 obtain ⟨M,h,hz⟩:=h1.raw
 have HSZ:=ah (Nat.lt_trans (Nat.lt_succ_self _) hR.lt)
 go_enter Tryz.func251,Tryz.ntmps251
 go_wp2_with fail
 generalize (w.alloc (.cells #[.bool s,.slice A n c] 25)).alloc (.cells #[.bool false,.slice none 0 0] 25)=W1 at *
 have HBD:=ah (Below.refl W1.heap.size W1).drew
 have HNO:=ah (norm_any (h.next HBD.out) hn)
 have hc0:=hZ.c0
 have hc1:=hZ.c1
 have HZ:=ah hZ
 go_region_held3 (fun w'=>w'.cell? ⟨w.heap.size,0,none⟩=some (.bool s)/\w'.cell? ⟨w.heap.size,1,none⟩=some (.slice A n c)) (go_keep)
  (first
   | (go_at_call 142;refine HNO.out.mono ?_;rintro _ W3 ⟨A3,m3,c3,x3,rfl,ho3,hx3,hb3⟩;have HB3:=ah (HBD.out.trans hb3);have he0:=(HZ.out.next HB3.out).c0;have he1:=(HZ.out.next HB3.out).c1)
   | (go_at_call 141;refine (make1_any _ ho3).mono ?_;rintro _ W4 ⟨s4,rfl,ho4,hb4⟩;have HB4:=tM HB3 hb4;have hf0:=(HZ.out.next HB4.out).c0;have hf1:=(HZ.out.next HB4.out).c1;have hg0:=(hR.next HB4.out).c0;have hg1:=(hR.next HB4.out).c1;have hh0:=(hR.next HB4.out).fz 0;have hh1:=(hR.next HB4.out).fz 1))
 have HS1:=ah hR.lt
 have hp:=put_int (hR.next HB4.out) (hB.trans (HB4.out.mono hB.size)) (Nat.le_succ _) ho4 (Nat.lt_of_lt_of_le HS1.out HBD.out.size)
 generalize (W4.setCell ⟨w.heap.size+1,0,none⟩ (.bool s4)).setCell ⟨w.heap.size+1,1,none⟩ (.slice A3 m3 c3)=W5 at hp ⊢
 obtain ⟨hZ5,ho5,hB5⟩:=hp
 clear hf0 hf1 hg0 hg1 hh0 hh1 hc0 hc1 he0 he1 hb3 hb4
 go_wp2
 exact bodyPost_ret (by simp [results,Tryz.results251,go_sem,hZ5.c0,hZ5.c1]) rfl ⟨_,_,_,_,_,rfl,ho5.base (nT (Nat.le_of_lt HSZ.out) HBD.out.size),ah (by rw [hx3.out,hz.out]),hB5⟩
theorem imul_any {s s':Bool}{A A':Option Addr}{n c n' c':Nat}{z z':Int}{w:World}(h:RdZ w w.heap.size s A n c z)(h':RdZ w w.heap.size s' A' n' c' z')(hn:n<=4398046511103)(hn':n'<=4398046511103) :
  Calls Tryz.prog 146 #[.agg #[.bool s,.slice A n c],.agg #[.bool s',.slice A' n' c']] w (RetI (z*z') w):=by
 obtain ⟨hZ,hY,hR,hB⟩:=boxed2 w s A n c s' A' n' c'
 obtain ⟨M,h1,hz⟩:=(h.next hB).raw
 obtain ⟨M',h1',hz'⟩:=(h'.next hB).raw
 have HSZ:=ah (show w.heap.size < _ from Nat.lt_trans (Nat.lt_succ_self _) (Nat.lt_trans (Nat.lt_succ_self _) hR.lt))
 go_enter Tryz.func146,Tryz.ntmps146
 go_wp2_with fail
 generalize ((w.alloc (.cells #[.bool s,.slice A n c] 25)).alloc (.cells #[.bool s',.slice A' n' c'] 25)).alloc (.cells #[.bool false,.slice none 0 0] 25)=W1 at *
 have HBD:=ah (Below.refl W1.heap.size W1).drew
 have HMU:=ah (nMul_any (h1.next HBD.out) (h1'.next HBD.out) hn hn')
 have hc0:=hZ.c0
 have hc1:=hZ.c1
 have hd0:=hY.c0
 have hd1:=hY.c1
 have HZ:=ah hZ
 have HY:=ah hY
 have HR:=ah hR
 have hq1:¬ (w.heap.size+1+1=w.heap.size):=by omega
 have hq2:¬ (w.heap.size=w.heap.size+1+1):=by omega
 go_region_held3 (fun w'=>w'.cell? ⟨w.heap.size,0,none⟩=some (.bool s)/\w'.cell? ⟨w.heap.size,1,none⟩=some (.slice A n c)/\w'.cell? ⟨w.heap.size+1,0,none⟩=some (.bool s')/\w'.cell? ⟨w.heap.size+1,1,none⟩=some (.slice A' n' c')) (go_keep)
  (first
   | (go_at_call 195;refine HMU.out.mono ?_;rintro _ W2 ⟨A2,m2,c2,x2,rfl,ho2,hx2,hb2⟩;have HB2:=ah (HBD.out.trans hb2);have hd0:=(HZ.out.next HB2.out).c0;have hd1:=(HZ.out.next HB2.out).c1;have hd2:=(HY.out.next HB2.out).c0;have hd3:=(HY.out.next HB2.out).c1)
   | (go_at_call 141;refine (make1_any (s != s') ho2).mono ?_;rintro _ W4 ⟨s4,rfl,ho4,hb4⟩;have HB4:=tM HB2 hb4;have hf0:=(HZ.out.next HB4.out).c0;have hf1:=(HZ.out.next HB4.out).c1;have hf2:=(HY.out.next HB4.out).c0;have hf3:=(HY.out.next HB4.out).c1;have hg0:=(HR.out.next HB4.out).c0;have hg1:=(HR.out.next HB4.out).c1;have hh0:=(HR.out.next HB4.out).fz 0;have hh1:=(HR.out.next HB4.out).fz 1))
 have HS1:=ah hR.lt
 have HFA:=ah (show Zz.sg (s != s') x2=z*z' by rw [hx2.out,hz.out,hz'.out,Zz.sg_mul])
 clear hf0 hf1 hf2 hf3 hg0 hg1 hh0 hh1 hc0 hc1 hd0 hd1 hd2 hd3 hb2 hb4 hq1 hq2
 have hR4:=hR.next HB4.out
 have hB4:=hB.trans (HB4.out.mono hB.size)
 have hp:=put_int hR4 hB4 (by omega) ho4 (Nat.lt_of_lt_of_le HS1.out HBD.out.size)
 generalize (W4.setCell ⟨w.heap.size+1+1,0,none⟩ (.bool s4)).setCell ⟨w.heap.size+1+1,1,none⟩ (.slice A2 m2 c2)=W9 at hp ⊢
 obtain ⟨hZ9,ho9,hB9⟩:=hp
 go_wp2
 exact bodyPost_ret (by simp [results,Tryz.results146,go_sem,hZ9.c0,hZ9.c1]) rfl ⟨_,_,_,_,_,rfl,ho9.base (nT (Nat.le_of_lt HSZ.out) HBD.out.size),HFA,hB9⟩
structure RdZs (w:World)(B N:Nat)(A:Option Addr)(n c:Nat)(L:List Int):Prop where
 len:L.length=n
 le:n<=c
 mx:c<=maxLen
 at_:∀ (j:Nat) (z:Int),L[j]?=some z->∃ (ad:Addr) (s:Bool) (A':Option Addr) (n' c':Nat),A=some ad/\ad.block < B/\w.cell? (ad.add (j*2))=some (.bool s)/\w.cell? ⟨(ad.add (j*2)).block,(ad.add (j*2)).off+1,none⟩=some (.slice A' n' c')/\RdZ w B s A' n' c' z/\n'<=N
section
variable {w w':World}{B B' N:Nat}{A:Option Addr}{n c:Nat}{L:List Int}
theorem RdZs.below (h:RdZs w B N A n c L)(hb:Below B w w'):RdZs w' B N A n c L :=
 ⟨h.len,h.le,h.mx,fun j z hz=>by
  obtain ⟨ad,s,A',n',c',h1,h2,h3,h4,h5,h6⟩:=h.at_ j z hz
  exact ⟨ad,s,A',n',c',h1,h2,(hb.cell (p:=ad.add (j*2)) (by rw [add_blk];exact h2)).trans h3,(hb.cell (p:=⟨(ad.add (j*2)).block,(ad.add (j*2)).off+1,none⟩) (by show (ad.add (j*2)).block < B;rw [add_blk];exact h2)).trans h4,h5.below hb,h6⟩⟩
theorem RdZs.more (h:RdZs w B N A n c L)(hB:B<=B'):RdZs w B' N A n c L :=
 ⟨h.len,h.le,h.mx,fun j z hz=>by
  obtain ⟨ad,s,A',n',c',h1,h2,h3,h4,h5,h6⟩:=h.at_ j z hz
  exact ⟨ad,s,A',n',c',h1,by omega,h3,h4,h5.more hB,h6⟩⟩
theorem RdZs.next (h:RdZs w w.heap.size N A n c L)(hb:Below w.heap.size w w'):RdZs w' w'.heap.size N A n c L:=(h.below hb).more hb.size
end
theorem foldl_take {f:Int->Int->Int}{a:Int}{L:List Int}{j:Nat}{x:Int}(h:L[j]?=some x):(L.take (j+1)).foldl f a=f ((L.take j).foldl f a) x:=by
 rw [List.take_add_one,h,List.foldl_append]
 rfl
theorem zs_get {L:List Int}{j:Nat}(h:j < L.length):∃ x,L[j]?=some x:=⟨L[j],gE h⟩
theorem folded_gcd {N:Nat}{A:Option Addr}{n c:Nat}{L:List Int}{w:World}(h:RdZs w w.heap.size N A n c L)(hN:N<=1000000000000) :
  Calls Tryz.prog 190 #[.agg #[.bool false,.slice none 0 0],.slice A n c,.func (.func 191) #[] #[]] w (RetI (L.foldl (fun (g x:Int)=>(Int.gcd g x:Int)) 0) w):=by
 have hEN:=enters_of Tryz.func191 (by kernel_rfl) rfl
 have HLEN:=ah h.len
 have hn48:n<=9223372036854775807:=by
  have h1:=h.mx
  have h2:=h.le
  unfold maxLen at h1
  omega
 obtain ⟨hZ,hR,hB⟩:=boxed1 w false none 0 0
 go_enter Tryz.func190,Tryz.ntmps190
 go_wp2_with fail
 generalize (w.alloc (.cells #[.bool false,.slice none 0 0] 25)).alloc (.cells #[.bool false,.slice none 0 0] 25)=W1 at *
 have HS1:=ah hR.lt
 go_loopw [11] (fun iv wr=>∃ (j:Nat) (s:Bool) (A':Option Addr) (n' c':Nat) (y:Int),iv=.int .i64 j/\j<=n/\ZC wr w.heap.size s A' n' c'/\ZC wr (w.heap.size+1) false none 0 0/\Hid (W1.heap.size<=wr.heap.size)/\OwZ wr W1.heap.size s A' n' c' y/\n'<=N/\Hid (y=(L.take j).foldl (fun (g x:Int)=>(Int.gcd g x:Int)) 0)/\Below w.heap.size w wr) (fun iv _=>n-(intOf iv).toNat)
 case atStart=>exact ⟨0,false,none,0,0,0,rfl,nZ,hZ,hR,ah nR,OwZ.zero _ _,nZ,ah rfl,hB⟩
 case round =>
  clear hZ hR hB
  obtain ⟨j,s,A',n',c',y,rfl,hj,hZ,hR,HB1,ho,hn',hy,hB⟩:=hrel
  by_cases hjn:j=n
  ·subst hjn
   have hc0:=hZ.c0
   have hc1:=hZ.c1
   have hr0:=hR.c0
   have hr1:=hR.c1
   have hf0:=hR.fz 0
   have hf1:=hR.fz 1
   go_wp2
   have hp:=put_int hR hB (Nat.le_succ _) ho HS1.out
   generalize (wr.setCell ⟨w.heap.size+1,0,none⟩ (.bool s)).setCell ⟨w.heap.size+1,1,none⟩ (.slice A' n' c')=W5 at hp ⊢
   obtain ⟨hZ5,ho5,hB5⟩:=hp
   exact bodyPost_ret (by simp [results,Tryz.results190,go_sem,hZ5.c0,hZ5.c1]) rfl ⟨_,_,_,_,_,rfl,ho5.base (by have:=HS1.out;omega),ah (by rw [hy.out,List.take_of_length_le (by rw [HLEN.out];exact nR)]),hB5⟩
  ·have hjl:j < n:=by omega
   clear hjn
   obtain ⟨x,hx⟩:=zs_get (L:=L) (j:=j) (by rw [HLEN.out];exact hjl)
   obtain ⟨ad,s2,A2,n2,c2,rfl,hbk,hx0,hx1,hr,hn2⟩:=h.at_ j x hx
   have hx0':=(hB.cell (p:=ad.add (j*2)) (by rw [add_blk];exact hbk)).trans hx0
   have hx1':=(hB.cell (p:=⟨(ad.add (j*2)).block,(ad.add (j*2)).off+1,none⟩) (by show (ad.add (j*2)).block < _;rw [add_blk];exact hbk)).trans hx1
   have hjl':(j:Int) < (n:Int):=by omega
   obtain ⟨W2,HW2⟩:∃ W,W=wr.alloc (.cells #[.bool s2,.slice A2 n2 c2] 25):=⟨_,rfl⟩
   have hX:ZC W2 wr.heap.size s2 A2 n2 c2:=by rw [HW2];exact ZC.new wr s2 A2 n2 c2
   have hb2:Below wr.heap.size wr W2:=by rw [HW2];exact (Below.refl wr.heap.size wr).alloc nR _
   have hZ2:=hZ.next hb2
   have hc0:=hZ2.c0
   have hc1:=hZ2.c1
   have hd0:=hX.c0
   have hd1:=hX.c1
   rw [HW2] at hc0 hc1 hd0 hd1
   have HW2:=ah HW2
   go_wp2_with fail
   clear hc0 hc1 hd0 hd1
   rw [<- HW2.out]
   clear HW2
   have hR2:=hR.next hb2
   have hB2:=hB.trans (hb2.mono hB.size)
   have hr2:=(hr.next hB2)
   have ho2:=ho.next hb2
   refine (igcd_any ho2.rd hr2 (by omega) (by omega)).mono ?_
   rintro _ W3 ⟨s3,A3,m3,c3,z3,rfl,ho3,hz3,hb3⟩
   have hZ3:=hZ2.next hb3
   have hR3:=hR2.next hb3
   have hB3:=hB2.trans (hb3.mono hB2.size)
   have hc0:=hZ3.c0
   have hc1:=hZ3.c1
   have hf0:=hZ3.fz 0
   have hf1:=hZ3.fz 1
   have HS2:=ah (show w.heap.size < W2.heap.size from hZ2.lt)
   have HZL:=ah (show m3<=N by
    rw [ho3.len,hz3.out]
    have e1:=Zz.zl_gcd y x
    have e2:=hr.len
    have e3:=ho.len
    omega)
   have HFO:=ah (show z3=(L.take (j+1)).foldl (fun (g x:Int)=>(Int.gcd g x:Int)) 0 by rw [foldl_take hx,hz3.out,hy.out])
   have HB12:=ah (show W1.heap.size<=W2.heap.size from nT HB1.out hb2.size)
   have HB23:=ah hb3.size
   clear hx hx0 hx1 hx0' hx1' hr hr2 hZ hZ2 hX hR hR2 hb2 hb3 ho ho2 hy hz3
   go_wp2
   have hp:=put_int hZ3 hB3 nR ho3 HS2.out
   have HS5:=ah (show W2.heap.size<=((W3.setCell ⟨w.heap.size,0,none⟩ (.bool s3)).setCell ⟨w.heap.size,1,none⟩ (.slice A3 m3 c3)).heap.size by simpa using HB23.out)
   have hR5:=(hR3.far (p:=⟨w.heap.size,0,none⟩) (by simp) (.bool s3)).far (p:=⟨w.heap.size,1,none⟩) (by simp) (.slice A3 m3 c3)
   generalize (W3.setCell ⟨w.heap.size,0,none⟩ (.bool s3)).setCell ⟨w.heap.size,1,none⟩ (.slice A3 m3 c3)=W5 at hp hR5 HS5 ⊢
   obtain ⟨hZ5,ho5,hB5⟩:=hp
   have HB15:W1.heap.size<=W5.heap.size:=nT HB12.out HS5.out
   go_roundw
   case rel=>exact ⟨j+1,s3,A3,m3,c3,z3,by go_num,by omega,hZ5,hR5,ah HB15,ho5.base HB12.out,HZL.out,HFO.out,hB5⟩
   case measure=>simp [intOf];omega
theorem gcdl_any {N:Nat}{A:Option Addr}{n c:Nat}{L:List Int}{w:World}(h:RdZs w w.heap.size N A n c L)(hN:N<=1000000000000) :
  Calls Tryz.prog 137 #[.slice A n c] w (RetI (L.foldl (fun (g x:Int)=>(Int.gcd g x:Int)) 0) w):=by
 obtain ⟨W1,HW1⟩:∃ W,W=w.alloc (.cells #[.bool false,.slice none 0 0] 25):=⟨_,rfl⟩
 have hR:ZC W1 w.heap.size false none 0 0:=by rw [HW1];exact ZC.new w false none 0 0
 have hB:Below w.heap.size w W1:=by rw [HW1];exact (Below.refl w.heap.size w).alloc nR _
 have HW1:=ah HW1
 have h1:=h.next hB
 go_enter Tryz.func137,Tryz.ntmps137
 go_wp2_with fail
 rw [<- HW1.out]
 clear HW1
 refine (folded_gcd h1 hN).mono ?_
 rintro _ W3 ⟨s3,A3,m3,c3,z3,rfl,ho3,hz3,hb3⟩
 have hR3:=hR.next hb3
 have hB3:=hB.trans (hb3.mono hB.size)
 have HS1:=ah hR.lt
 have hc0:=hR3.c0
 have hc1:=hR3.c1
 have hf0:=hR3.fz 0
 have hf1:=hR3.fz 1
 clear hb3 hR h1 h
 go_wp2
 have hp:=put_int hR3 hB3 nR ho3 HS1.out
 generalize (W3.setCell ⟨w.heap.size,0,none⟩ (.bool s3)).setCell ⟨w.heap.size,1,none⟩ (.slice A3 m3 c3)=W5 at hp ⊢
 obtain ⟨hZ5,ho5,hB5⟩:=hp
 exact bodyPost_ret (by simp [results,Tryz.results137,go_sem,hZ5.c0,hZ5.c1]) rfl ⟨_,_,_,_,_,rfl,ho5.base (Nat.le_of_lt HS1.out),hz3,hB5⟩
abbrev Ent:=Bool × Option Addr × Nat × Nat
def zc (e:Ent):List Value:=[.bool e.1,.slice e.2.1 e.2.2.1 e.2.2.2]
def zcs (E:List Ent):List Value:=E.flatMap zc
theorem zcs_cons (e:Ent)(E:List Ent):zcs (e :: E)=zc e ++ zcs E:=by simp [zcs]
theorem zcs_append (E F:List Ent):zcs (E ++ F)=zcs E ++ zcs F:=by simp [zcs]
theorem zcs_one (e:Ent):zcs [e]=[.bool e.1,.slice e.2.1 e.2.2.1 e.2.2.2]:=rfl
theorem zcs_len (E:List Ent):(zcs E).length=E.length*2:=by
 induction E with
 | nil=>rfl
 | cons e E ih=>rw [zcs_cons,List.length_append,ih];simp [zc];omega
theorem zcs_at:∀ (E:List Ent) (j:Nat) (e:Ent),E[j]?=some e->(zcs E)[j*2]?=some (.bool e.1)/\(zcs E)[j*2+1]?=some (.slice e.2.1 e.2.2.1 e.2.2.2)
 | [],_,_,h=>by simp at h
 | x :: E, 0, e, h => by
   simp at h
   subst h
   exact ⟨rfl,rfl⟩
 | x :: E, j + 1, e, h => by
   have ih:=zcs_at E j e (by simpa using h)
   rw [zcs_cons]
   have e1:(zc x ++ zcs E)[(j+1)*2]?=(zcs E)[j*2]?:=by
    rw [List.getElem?_append_right (by simp [zc];omega)]
    congr 1
    simp [zc]
    omega
   have e2:(zc x ++ zcs E)[(j+1)*2+1]?=(zcs E)[j*2+1]?:=by
    rw [List.getElem?_append_right (by simp [zc];omega)]
    congr 1
    simp [zc]
    omega
   rw [e1,e2]
   exact ih
def Ents (w:World)(b:Nat)(E:List Ent)(L:List Int):Prop:=E.length=L.length/\∀ (j:Nat) (e:Ent) (z:Int),E[j]?=some e->L[j]?=some z->OwZ w b e.1 e.2.1 e.2.2.1 e.2.2.2 z
def OwZs (w:World)(b:Nat)(A:Option Addr)(n c:Nat)(L:List Int):Prop :=
 ∃ E:List Ent,w.ownsRow b 25 2 (.slice A n c) n (zcs E)/\E.length=n/\Ents w b E L
section
variable {w w':World}{b b':Nat}{A:Option Addr}{n c:Nat}{L:List Int}{E:List Ent}
theorem Ents.next (h:Ents w b E L)(hb:Below w.heap.size w w'):Ents w' b E L:=⟨h.1,fun j e z he hz=>(h.2 j e z he hz).next hb⟩
theorem Ents.base (h:Ents w b E L)(hb:b'<=b):Ents w b' E L:=⟨h.1,fun j e z he hz=>(h.2 j e z he hz).base hb⟩
theorem Ents.snoc (h:Ents w b E L){e:Ent}{z:Int}(he:OwZ w b e.1 e.2.1 e.2.2.1 e.2.2.2 z):Ents w b (E ++ [e]) (L ++ [z]):=by
 refine ⟨by rw [List.length_append,List.length_append,h.1];rfl,fun j e' z' h1 h2=>?_⟩
 rcases Nat.lt_or_ge j E.length with hj | hj
 ·rw [List.getElem?_append_left hj] at h1
  rw [List.getElem?_append_left (by rw [<- h.1];exact hj)] at h2
  exact h.2 j e' z' h1 h2
 ·rw [List.getElem?_append_right hj] at h1
  rw [List.getElem?_append_right (by rw [<- h.1];exact hj)] at h2
  rw [<- h.1] at h2
  have hj0:j-E.length=0:=by
   rcases Nat.eq_zero_or_pos (j-E.length) with e0 | e0
   ·exact e0
   ·rw [gN (by simp;omega)] at h1;cases h1
  rw [hj0] at h1 h2
  simp at h1 h2
  subst h1 h2
  exact he
theorem OwZs.len (h:OwZs w b A n c L):L.length=n:=by
 obtain ⟨E,_,h2,h3⟩:=h
 rw [<- h3.1,h2]
theorem OwZs.nil (w:World)(b:Nat):OwZs w b none 0 0 []:=⟨[],World.ownsRow_nil _ _ _ _,rfl,rfl,fun j e z he _=>by simp at he⟩
theorem OwZs.form (h:OwZs w b A n c L):(A=none/\n=0/\c=0) ∨ ∃ g,A=some ⟨g,0,none⟩/\b<=g/\g < w.heap.size/\n<=c/\c<=maxLen:=by
 obtain ⟨E,h,_,_⟩:=h
 rcases h.2 with ⟨h1,h2⟩ | ⟨g,cap,cur,h1,h2,h3,h4,h5,_⟩
 ·injection h1 with h1 h1' h1''
  exact .inl ⟨h1,h2,h1''⟩
 ·injection h1 with h1 h1' h1''
  subst h1''
  exact .inr ⟨g,h1,h2,(Array.getElem?_eq_some_iff.1 h3).1,h4,h5⟩
theorem row_next {e:TypeId}{k:Nat}{v:Value}{xs:List Value}(h:w.ownsRow b e k v n xs)(hb:Below w.heap.size w w'):w'.ownsRow b e k v n xs:=by
 refine ⟨h.1,?_⟩
 rcases h.2 with h0 | ⟨g,cap,cur,h1,h2,h3,h4⟩
 ·exact .inl h0
 ·exact .inr ⟨g,cap,cur,h1,h2,(hb.block g (Array.getElem?_eq_some_iff.1 h3).1).trans h3,h4⟩
theorem row_base {e:TypeId}{k:Nat}{v:Value}{xs:List Value}(h:w.ownsRow b e k v n xs)(hb:b'<=b):w.ownsRow b' e k v n xs:=by
 refine ⟨h.1,?_⟩
 rcases h.2 with h0 | ⟨g,cap,cur,h1,h2,h3⟩
 ·exact .inl h0
 ·exact .inr ⟨g,cap,cur,h1,by omega,h3⟩
theorem OwZs.next (h:OwZs w b A n c L)(hb:Below w.heap.size w w'):OwZs w' b A n c L:=by
 obtain ⟨E,h1,h2,h3⟩:=h
 exact ⟨E,row_next h1 hb,h2,h3.next hb⟩
theorem OwZs.base (h:OwZs w b A n c L)(hb:b'<=b):OwZs w b' A n c L:=by
 obtain ⟨E,h1,h2,h3⟩:=h
 exact ⟨E,row_base h1 hb,h2,h3.base hb⟩
theorem OwZs.rd {N:Nat}(h:OwZs w b A n c L)(hN:∀ z ∈ L,Zz.zl z<=N):RdZs w w.heap.size N A n c L:=by
 have hl:=h.len
 rcases h.form with ⟨rfl,rfl,rfl⟩ | ⟨g,rfl,h1,h2,h3,h4⟩
 ·refine ⟨hl,nR,nZ,fun j z hz=>?_⟩
  rw [List.eq_nil_of_length_eq_zero hl] at hz
  simp at hz
 ·obtain ⟨E,hr,hE,hel⟩:=h
  refine ⟨hl,h3,h4,fun j z hz=>?_⟩
  have hj:j < L.length:=by
   rcases Nat.lt_or_ge j L.length with h5 | h5
   ·exact h5
   ·rw [gN h5] at hz;cases hz
  have hjE:j < E.length:=by rw [hel.1];exact hj
  have he:=gE hjE
  have hz':=hel.2 j _ z he hz
  obtain ⟨c0,c1⟩:=zcs_at E j _ he
  have e1:(⟨g,0,none⟩:Addr).add (j*2)=⟨g,j*2,none⟩:=add_base g _
  refine ⟨_,_,_,_,_,rfl,h2,?_,?_,hz'.rd,?_⟩
  ·rw [e1,hr.cellAt (j*2) (by omega)];exact c0
  ·rw [e1]
   show w.cell? ⟨g,j*2+1,none⟩=_
   rw [hr.cellAt (j*2+1) (by omega)]
   exact c1
  ·rw [hz'.len];exact hN z (gM hz)
theorem own_other {k m g:Nat}{M:List Nat}{A:Option Addr}{cur:Array Value}{f:Nat × Nat}(h:OwU w b A k m M)(hg:w.heap[g]?=some (.cells cur 25 f)){w1:World}(hb:∀ i,i < w.heap.size->i ≠ g->w1.heap[i]?=w.heap[i]?):OwU w1 b A k m M:=by
 refine ⟨⟨h.own.1,?_⟩,h.wd⟩
 rcases h.own.2 with h0 | ⟨g2,cap,cur2,h1,h2,h3,h4⟩
 ·exact .inl h0
 ·have hne:g2 ≠ g:=by
   rintro rfl
   rw [hg] at h3
   simp at h3
  exact .inr ⟨g2,cap,cur2,h1,h2,(hb g2 (Array.getElem?_eq_some_iff.1 h3).1 hne).trans h3,h4⟩
theorem zs_more {wb w1:World}{v':Value}{e:Ent}{z:Int}{t:TypeId}(he:OwZ w b e.1 e.2.1 e.2.2.1 e.2.2.2 z)(hwb:wb=w.alloc (.cells #[.bool e.1,.slice e.2.1 e.2.2.1 e.2.2.2] t)){E:List Ent}(hE:wb.ownsRow b 25 2 (.slice A n c) n (zcs E))(hEl:E.length=n)(hEn:Ents w b E L)
  (hown':w1.ownsRow b 25 2 v' (n+1) (zcs E ++ [.bool e.1,.slice e.2.1 e.2.2.1 e.2.2.2])) (hg:wb.grownBy w1 (Value.slice A n c).ownBlock) :
  ∃ (A':Option Addr) (c':Nat),v'=.slice A' (n+1) c'/\OwZs w1 b A' (n+1) c' (L ++ [z]):=by
 obtain ⟨A',c',rfl⟩:=row_sl hown'
 have hba:Below w.heap.size w wb:=by rw [hwb];exact (Below.refl w.heap.size w).alloc nR _
 have key:∀ {s:Bool} {B:Option Addr} {k m:Nat} {y:Int},OwZ w b s B k m y->OwZ w1 b s B k m y:=by
  intro s B k m y hy
  have hy2:=hy.next hba
  refine ⟨?_,hy2.sgn⟩
  rcases hE.2 with ⟨h1,h2⟩ | ⟨g,cap,cur,h1,h2,h3,_⟩
  ·refine hy2.own.next (bR.grown hg nR fun k hk=>?_)
   rw [h1] at hk
   cases hk
  ·refine own_other hy2.own h3 fun i hi hne=>hg.block i hi ?_
   rw [h1]
   intro e0
   cases e0
   exact hne rfl
 refine ⟨A',c',rfl,E ++ [e],?_,by rw [List.length_append,hEl];rfl,?_⟩
 ·rw [zcs_append,zcs_one];exact hown'
 ·have h2:=hEn.snoc he
  exact ⟨h2.1,fun j e' z' h3 h4=>key (h2.2 j e' z' h3 h4)⟩
end
def RetL (L:List Int)(w:World)(e:Ending)(w':World):Prop :=
 ∃ (A:Option Addr) (n c:Nat) (M:List Int),e=.returned (.slice A n c)/\OwZs w' w.heap.size A n c M/\Hid (M=L)/\Below w.heap.size w w'
theorem infoZ:(Tryz.prog.info? 25).map (fun i=>(i.zero,i.size,i.bytes))=some (some (.agg #[.bool false,.slice none 0 0]),2,32):=by kernel_rfl
theorem own_block {w:World}{base:Nat}{e:TypeId}{size:Nat}{v:Value}{n:Nat}{xs:List Value}(h:w.ownsRow base e size v n xs):∀ k,v.ownBlock=some k->base<=k:=by
 intro k hk
 rcases h.2 with ⟨rfl,_⟩ | ⟨g,cap,cur,rfl,hb,_⟩
 ·cases hk
 ·cases hk;exact hb
theorem zs_at {w:World}{B N:Nat}{A:Option Addr}{n c:Nat}{L:List Int}(h:RdZs w B N A n c L){j:Nat}(hj:j < n) :
  ∃ (ad:Addr) (s:Bool) (A':Option Addr) (n' c':Nat) (z:Int),A=some ad/\ad.block < B/\w.cell? (ad.add (j*2))=some (.bool s)/\w.cell? ⟨(ad.add (j*2)).block,(ad.add (j*2)).off+1,none⟩=some (.slice A' n' c')/\RdZ w B s A' n' c' z/\n'<=N/\Hid (L[j]?=some z):=by
 obtain ⟨z,hz⟩:=zs_get (L:=L) (j:=j) (by rw [h.len];exact hj)
 obtain ⟨ad,s,A',n',c',h1,h2,h3,h4,h5,h6⟩:=h.at_ j z hz
 exact ⟨ad,s,A',n',c',z,h1,h2,h3,h4,h5,h6,ah hz⟩
theorem zs_cells {w w':World}{B:Nat}{ad:Addr}{j:Nat}{s:Bool}{A':Option Addr}{n' c':Nat}(hb:Below B w w')(h2:ad.block < B)(h3:w.cell? (ad.add (j*2))=some (.bool s))(h4:w.cell? ⟨(ad.add (j*2)).block,(ad.add (j*2)).off+1,none⟩=some (.slice A' n' c')) :
  w'.cell? (ad.add (j*2))=some (.bool s)/\w'.cell? ⟨(ad.add (j*2)).block,(ad.add (j*2)).off+1,none⟩=some (.slice A' n' c') :=
 ⟨(hb.cell (p:=ad.add (j*2)) (by rw [add_blk];exact h2)).trans h3,(hb.cell (p:=⟨(ad.add (j*2)).block,(ad.add (j*2)).off+1,none⟩) (by show (ad.add (j*2)).block < B;rw [add_blk];exact h2)).trans h4⟩
theorem zcell_new (w:World)(x y:Value)(t:TypeId):∀ j u,[x,y][j]?=some u->(w.alloc (.cells #[x,y] t)).cell? ((⟨w.heap.size,0,none⟩:Addr).add j)=some u:=by
 intro j u hj
 match j,hj with
 | 0,hj=>simp at hj;subst hj;simp [Addr.add]
 | 1,hj=>simp at hj;subst hj;simp [Addr.add]
 | (j+2),hj=>simp at hj
theorem map_snoc {f:Int->Int}{L:List Int}{j:Nat}{z:Int}(h:L[j]?=some z):(L.take j).map f ++ [f z]=(L.take (j+1)).map f:=by
 rw [List.take_add_one,h]
 simp
theorem mapped_any {f N:Nat}(φ:Int->Int){A:Option Addr}{n c:Nat}{L:List Int}{w:World}(h:RdZs w w.heap.size N A n c L)(hn:n<=4398046511103)(heg:∀ args w,(callFunc f args).run Tryz.prog w=.ok (.enter f args) w)
  (hdo:∀ (W:World) (s:Bool) (A:Option Addr) (m c:Nat) (z:Int),Below w.heap.size w W->RdZ W W.heap.size s A m c z->m<=N->Calls Tryz.prog f #[.agg #[.bool s,.slice A m c]] W (RetI (φ z) W)) :
  Calls Tryz.prog 250 #[.slice A n c,.func (.func f) #[] #[]] w (RetL (L.map φ) w):=by
 have HD:=ah hdo
 have HLEN:=ah h.len
 obtain ⟨i0,hi,hz0,hz1,hz2⟩:=info_parts infoZ
 clear hdo
 go_enter Tryz.func250,Tryz.ntmps250
 go_wp2_with fail
 go_loopw [5,10] (fun ov iv wr=>∃ (j c':Nat) (A':Option Addr) (M:List Int),ov=.slice A' j c'/\iv=.int .i64 j/\j<=n/\OwZs wr w.heap.size A' j c' M/\Hid (M=(L.take j).map φ)/\Below w.heap.size w wr) (fun _ iv _=>n-(intOf iv).toNat)
 case atStart=>exact ⟨0,0,none,[],rfl,rfl,nZ,OwZs.nil _ _,ah rfl,bR⟩
 case round =>
  obtain ⟨j,c',A',M,rfl,rfl,hj,ho,hM,hB⟩:=hrel
  by_cases hjn:j=n
  ·subst hjn
   go_wp2
   go_ret
   exact ⟨_,_,_,_,rfl,ho,ah (by rw [hM.out,List.take_of_length_le (by rw [HLEN.out];exact nR)]),hB⟩
  ·have hjl:j < n:=by omega
   clear hjn
   have hjli:(j:Int) < (n:Int):=by omega
   obtain ⟨ad,s,A1,n1,c1,z,rfl,hbk,hx0,hx1,hr,hn1,hz⟩:=zs_at h hjl
   obtain ⟨hy0,hy1⟩:=zs_cells hB hbk hx0 hx1
   obtain ⟨W2,HW2⟩:∃ W,W=wr.alloc (.cells #[.bool s,.slice A1 n1 c1] 25):=⟨_,rfl⟩
   have hb2:Below wr.heap.size wr W2:=by rw [HW2];exact (Below.refl wr.heap.size wr).alloc nR _
   have HW2:=ah HW2
   have HO:=ah (ho.next hb2)
   have hB2:=hB.trans (hb2.mono hB.size)
   have HDO:=ah (HD.out W2 s A1 n1 c1 z hB2 (hr.next hB2) hn1)
   go_wp2_with fail
   rw [<- HW2.out]
   clear HW2 hy0 hy1 ho
   clear HW2
   refine HDO.out.mono ?_
   rintro _ W3 ⟨s3,A3,m3,c3,z3,rfl,ho3,hz3,hb3⟩
   have hB3:=hB2.trans (hb3.mono hB2.size)
   have HO3:=HO.out.next hb3
   obtain ⟨E,hE,hEl,hEn⟩:=HO3
   have HO4:=ah (ho3.base hB2.size)
   have HE:=ah hE
   have HEN:=ah (cJ hEl hEn)
   have HM2:=ah (show M ++ [z3]=(L.take (j+1)).map φ by rw [hM.out,hz3.out];exact map_snoc hz.out)
   clear hE hEl hEn hx0 hx1 hr hb2 hb3 ho3
   go_wp2_with (at_builtin;refine wpList_append_own _ rfl _ _ 65 rfl w.heap.size 25 i0 (.agg #[.bool false,.slice none 0 0]) 2 32 Tryz.underlying65 hi hz0 hz1 hz2 rfl (by decide) _ _ _ rfl (HE.out.alloc _) ⟨W3.heap.size,0,none⟩ 1 1 [.bool s3,.slice A3 m3 c3] rfl rfl (zcell_new _ _ _ _) (by simp [Value.oneCell']) (by unfold maxLen;omega) (by omega) (by have:=hB3.size;simp;omega) ?_;intro v' w1 hown' hgrow _)
   have hmore:=zs_more (e:=(s3,A3,m3,c3)) (z:=z3) HO4.out rfl (HE.out.alloc _) HEN.out.1 HEN.out.2 hown' hgrow
   have HB5:=ah ((hB3.alloc hB3.size (.cells #[.bool s3,.slice A3 m3 c3] 25)).grown hgrow (by have:=hB3.size;simp;omega) (own_block HE.out))
   obtain ⟨A5,c5,rfl,ho5⟩:=hmore
   clear hown' hgrow HE HEN HO4 hB3 hB2 hB
   go_wp2
   go_roundw
   case rel=>exact ⟨j+1,c5,A5,M ++ [z3],rfl,by go_num,by omega,ho5,HM2,HB5.out⟩
   case measure=>simp [intOf];omega
end Go.Proofs.YtjnklbfhelbjgaaGreat
namespace Pz
def co (L:List Int)(i:Nat):Int:=L.getD i 0
def Nz (L:List Int):Prop:=∀ h:L ≠ [],L.getLast h ≠ 0
theorem co_ge {L:List Int}{i:Nat}(h:L.length ≤ i):co L i=0:=by simp [co,h]
theorem co_nil (i:Nat):co [] i=0:=by simp [co]
theorem co_get {L:List Int}{i:Nat}{z:Int}(h:L[i]?=some z):co L i=z:=by simp [co,List.getD_eq_getElem?_getD,h]
theorem get_co {L:List Int}{i:Nat}(h:i < L.length):L[i]?=some (co L i):=by simp [co,h]
theorem mem_co {L:List Int}{z:Int}(h:z ∈ L):∃ i,i < L.length ∧ co L i=z:=by
 obtain ⟨i,hi⟩:=List.getElem?_of_mem h
 refine ⟨i,?_,co_get hi⟩
 rcases Nat.lt_or_ge i L.length with h1 | h1
 ·exact h1
 ·rw [List.getElem?_eq_none h1] at hi;cases hi
theorem co_take {L:List Int}{k i:Nat}(h:i < k):co (L.take k) i=co L i:=by
 simp only [co,List.getD_eq_getElem?_getD,List.getElem?_take_of_lt h]
theorem co_take_all {L:List Int}{k:Nat}(h:∀ i,k ≤ i → co L i=0)(i:Nat):co (L.take k) i=co L i:=by
 rcases Nat.lt_or_ge i k with h1 | h1
 ·exact co_take h1
 ·rw [h i h1];exact co_ge (by rw [List.length_take];omega)
theorem nz_nil:Nz []:=fun h=>absurd rfl h
theorem nz_take {L:List Int}{k:Nat}(hk:k ≤ L.length)(h:k=0 ∨ co L (k-1) ≠ 0):Nz (L.take k):=by
 intro hne
 have hk0:k ≠ 0:=by rintro rfl;simp at hne
 have hl:=h.resolve_left hk0
 rw [List.getLast_eq_getElem]
 simp only [List.length_take,Nat.min_eq_left hk,List.getElem_take]
 have e:=get_co (L:=L) (i:=k-1) (by omega)
 rw [List.getElem?_eq_getElem (by omega)] at e
 injection e with e
 rw [e]
 exact hl
theorem nz_top {L:List Int}(h:Nz L)(h0:0 < L.length):co L (L.length-1) ≠ 0:=by
 have hne:L ≠ []:=by rintro rfl;simp at h0
 have e:=h hne
 rw [List.getLast_eq_getElem] at e
 have e2:=get_co (L:=L) (i:=L.length-1) (by omega)
 rw [List.getElem?_eq_getElem (by omega)] at e2
 injection e2 with e2
 rw [← e2]
 exact e
theorem nz_len {L:List Int}(h:Nz L){k:Nat}(hk:∀ i,k ≤ i → co L i=0):L.length ≤ k:=by
 apply Classical.byContradiction
 intro hc
 exact nz_top h (by omega) (hk _ (by omega))
def IsP (f:Nat → Int)(M:List Int):Prop:=Nz M ∧ ∀ i,co M i=f i
theorem IsP.congr {f g:Nat → Int}{L:List Int}(h:IsP f L)(e:∀ i,f i=g i):IsP g L:=⟨h.1,fun i=>by rw [h.2,e]⟩
theorem IsP.len {f:Nat → Int}{L:List Int}(h:IsP f L){k:Nat}(hk:∀ i,k ≤ i → f i=0):L.length ≤ k:=nz_len h.1 fun i hi=>by rw [h.2];exact hk i hi
end Pz
namespace Go.Proofs.YtjnklbfhelbjgaaGreat
open Go.RowKit Go.IntWalk
attribute [local go_sem ↓] Go.wp_at_zero Go.wp_at_succ
def RetP (f:Nat->Int)(w:World)(e:Ending)(w':World):Prop :=
 ∃ (A:Option Addr) (n c:Nat) (M:List Int),e=.returned (.slice A n c)/\OwZs w' w.heap.size A n c M/\Hid (Pz.IsP f M)/\Below w.heap.size w w'
theorem RdZs.take {w:World}{B N:Nat}{A:Option Addr}{n c:Nat}{L:List Int}(h:RdZs w B N A n c L){k:Nat}(hk:k<=n):RdZs w B N A k c (L.take k) :=
 ⟨by rw [List.length_take,h.len];omega,nT hk h.le,h.mx,fun j z hz=>by
  have hj:j < k:=by
   rcases Nat.lt_or_ge j k with h1 | h1
   ·exact h1
   ·rw [gN (by rw [List.length_take];omega)] at hz;cases hz
  rw [List.getElem?_take_of_lt hj] at hz
  exact h.at_ j z hz⟩
theorem znorm_any {N:Nat}{A:Option Addr}{n c:Nat}{L:List Int}{w:World}(h:RdZs w w.heap.size N A n c L)(hn:n<=4398046511103)(hN:N<=17592186044416) :
  Calls Tryz.prog 240 #[.slice A n c] w (RetP (Pz.co L) w):=by
 have HLEN:=ah h.len
 have hle:=h.le
 have hmx:=h.mx
 have hEN:=enters_of Tryz.func251 (by kernel_rfl) rfl
 go_enter Tryz.func240,Tryz.ntmps240
 go_wp2_with fail
 go_loopw [3] (fun kv wr=>∃ k:Nat,kv=.int .i64 k/\k<=n/\Hid (∀ i,k<=i->Pz.co L i=0)/\Below w.heap.size w wr) (fun kv _=>(intOf kv).toNat)
 case atStart=>exact ⟨n,rfl,nR,ah fun i hi=>Pz.co_ge (by rw [HLEN.out];exact hi),bR⟩
 case round =>
  obtain ⟨k,rfl,hk,hZ,hB⟩:=hrel
  rcases Nat.eq_zero_or_pos k with h0 | h0
  ·subst h0
   go_wp2_with fail
   refine (mapped_any (N:=N) id ((h.next hB).take nZ) (by omega) hEN (fun W s A m c z _ hr hm=>inorm_any hr (by omega))).mono ?_
   rintro _ W4 ⟨A4,n4,c4,M4,rfl,ho4,hM4,hb4⟩
   go_wp2
   go_ret
   exact ⟨_,_,_,M4,rfl,ho4.base hB.size,ah (by rw [hM4.out,List.map_id];exact ⟨Pz.nz_take nZ (.inl rfl),Pz.co_take_all hZ.out⟩),hB.trans (hb4.mono hB.size)⟩
  ·obtain ⟨j,rfl⟩:∃ j,k=j+1:=⟨k-1,by omega⟩
   obtain ⟨ad,s,A1,n1,c1,z,rfl,hbk,hx0,hx1,hr,hn1,hz⟩:=zs_at h (show j < n by omega)
   obtain ⟨hy0,hy1⟩:=zs_cells hB hbk hx0 hx1
   go_wp2_with fail
   refine (sign_any (hr.next hB) (by omega)).mono ?_
   rintro _ W2 ⟨kz,rfl,hkz,hb2⟩
   have HB2:=ah (hB.trans (hb2.mono hB.size))
   have HZ:=ah (show kz=0 ↔ Pz.co L j=0 by rw [hkz.out,Int.sign_eq_zero_iff_zero,Pz.co_get hz.out])
   clear hb2 hy0 hy1
   by_cases hk0:kz=0
   ·have HC:=ah (HZ.out.1 hk0)
    subst hk0
    go_wp2
    go_roundw
    case rel=>exact ⟨j,by go_num,by omega,ah fun i hi=>by
     rcases Nat.lt_or_ge j i with h1 | h1
     ·exact hZ.out i h1
     ·rw [show i=j by omega];exact HC.out,HB2.out⟩
    case measure=>simp [intOf]
   ·have HC:=ah (mt HZ.out.2 hk0)
    have hkb:(kz == 0)=false:=by simpa using hk0
    clear hk0
    go_wp2_with fail
    refine (mapped_any (N:=N) id ((h.next HB2.out).take hk) (by omega) hEN (fun W s A m c z _ hr hm=>inorm_any hr (by omega))).mono ?_
    rintro _ W4 ⟨A4,n4,c4,M4,rfl,ho4,hM4,hb4⟩
    go_wp2
    go_ret
    exact ⟨_,_,_,M4,rfl,ho4.base HB2.out.size,ah (by rw [hM4.out,List.map_id];exact ⟨Pz.nz_take (by rw [HLEN.out];exact hk) (.inr HC.out),Pz.co_take_all hZ.out⟩),HB2.out.trans (hb4.mono HB2.out.size)⟩
end Go.Proofs.YtjnklbfhelbjgaaGreat
