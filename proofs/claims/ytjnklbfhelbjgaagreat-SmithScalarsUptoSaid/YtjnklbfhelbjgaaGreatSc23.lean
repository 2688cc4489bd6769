/- Sc23. -/
import Derived.Test.YtjnklbfhelbjgaaGreatSc18
import Derived.Test.YtjnklbfhelbjgaaGreatSc21
import Derived.Deep.RegionHeld3
import Derived.Deep.DrawnRows
import Derived.Test.YtjnklbfhelbjgaaGreatSc00
set_option maxRecDepth 100000
set_option maxHeartbeats 32000000
set_option linter.all false
namespace Go.Proofs.YtjnklbfhelbjgaaGreat
open Go.RowKit Go.IntWalk
attribute [local go_sem ↓] Go.wp_at_zero Go.wp_at_succ
abbrev M2.tiny (M:M2):Prop:=Tiny M.a/\Tiny M.b/\Tiny M.c/\Tiny M.d
def M2.add (M:M2)(i:Int)(f:List Rat):M2:=if i=0 then ⟨padd M.a (pmul f M.c),padd M.b (pmul f M.d),M.c,M.d⟩ else ⟨M.a,M.b,padd M.c (pmul f M.a),padd M.d (pmul f M.b)⟩
abbrev M2.addOK (M:M2)(i:Int)(f:List Rat):Prop:=M.tiny/\Tiny f/\(i=0->Tiny (pmul f M.c)/\Tiny (pmul f M.d))/\(i=1->Tiny (pmul f M.a)/\Tiny (pmul f M.b))
theorem add_to {b b1 t:Nat}{i j:Int}{M:M2}{f:List Rat}{Af:Option Addr}{nf cf:Nat}{w:World}(h:Tb w b t M)(hb:b<=w.heap.size)(hf:OwQp w b1 Af nf cf f)(hok:M.addOK i f)(hij:(i=0/\j=1) ∨ (i=1/\j=0)) :
  Calls Tryz.prog 279 #[.agg #[.int .i64 i,.int .i64 j,.slice Af nf cf],.pointer (some ⟨t,0,none⟩)] w (RetT b t (M.add i f) w):=by
 obtain ⟨gr,cr,g0,c0,g1,c1,⟨xa,xn,xc⟩,⟨ya,yn,yc⟩,⟨za,zn,zc⟩,⟨ua,un,uc⟩,h⟩:=h
 have HOK:=ah hok
 have HTN:=ah hok.1
 have HBB:=ah hb
 clear hok hb
 rcases hij with ⟨rfl,rfl⟩ | ⟨rfl,rfl⟩
 ·obtain ⟨W1,HW1⟩:∃ W,W=w.alloc (.cells #[.int .i64 0,.int .i64 1,.slice Af nf cf] 226):=⟨_,rfl⟩
  have hb1:Below w.heap.size w W1:=by rw [HW1];exact bA
  have hX:PX W1 w.heap.size 226 [.int .i64 0,.int .i64 1,.slice Af nf cf]:=by rw [HW1];exact PX.new w _ [.int .i64 0,.int .i64 1,.slice Af nf cf]
  obtain ⟨gb,hgb⟩:∃ g,g=w.heap.size:=⟨_,rfl⟩
  rw [<- hgb] at hX
  have HT0:=ah (h.next hb1)
  have HF0:=ah (hf.next hb1)
  have HX0:=ah hX
  have HV0:=ah (show b<=W1.heap.size/\Below b w W1/\KeepS w W1 from ⟨nT HBB.out hb1.size,hb1.mono HBB.out,.below hb1⟩)
  have k1':(w.alloc (.cells #[.int .i64 0,.int .i64 1,.slice Af nf cf] 226)).cell? ⟨t,1,none⟩=some (.int .i64 2):=by rw [<- HW1];exact HT0.out.hd.cell rfl
  have HW1:=ah HW1
  clear h hf hb1 hX
  go_enter Tryz.func279,Tryz.ntmps279
  go_wp2_with fail
  rw [<- HW1.out,<- hgb]
  clear HW1 hgb
  clear HW1 k1'
  refine wp_loop_rounds 3 ?_
  rw [rounds_succ]
  go_upto_region 4 with fail
  have HA0:=ah (show ∀ W,Below W1.heap.size W1 W->OwQp W b1 Af nf cf f/\PX W gb 226 [.int .i64 0,.int .i64 1,.slice Af nf cf]/\T2 W b t gr cr g0 c0 g1 c1 (xa,xn,xc) (ya,yn,yc) (za,zn,zc) (ua,un,uc) ⟨M.a,M.b,M.c,M.d⟩ from fun W hb=>⟨HF0.out.next hb,HX0.out.next hb,HT0.out.next hb⟩)
  have HC0:=ah (show ∀ W,Below W1.heap.size W1 W->W.cell? ⟨gb,2,none⟩=some (.slice Af nf cf)/\W.cell? ⟨gb,1,none⟩=some (.int .i64 1)/\W.cell? ⟨t,0,none⟩=some (.slice (some ⟨gr,0,none⟩) 2 cr)/\W.cell? ⟨gr,1,none⟩=some (.slice (some ⟨g1,0,none⟩) 2 c1)/\W.cell? ⟨g1,0,none⟩=some (.slice za zn zc) from fun W hb=>⟨(HA0.out W hb).2.1.cell rfl,(HA0.out W hb).2.1.cell rfl,(HA0.out W hb).2.2.hd.cell rfl,(HA0.out W hb).2.2.rw.cell rfl,(HA0.out W hb).2.2.r1.cell rfl⟩)
  have HBD:=ah (Below.refl W1.heap.size W1).drew
  have HBA:=ah (show ∀ o,Below W1.heap.size W1 (W1.alloc o).drew from fun o=>((Below.refl W1.heap.size W1).alloc nR _).drew)
  have HPS:=ah (show RdPs (W1.alloc (.cells #[.slice Af nf cf,.slice za zn zc] 73)).drew (W1.alloc (.cells #[.slice Af nf cf,.slice za zn zc] 73)).drew.heap.size 1 1048576 (some ⟨W1.heap.size,0,none⟩) 2 2 [f.map pr,(M.c).map pr] from (ps_two (K:=1048576) (HF0.out.rd HOK.out.2.1.qs) (HT0.out.ec.rd HTN.out.2.2.1.qs) (HF0.out.small HOK.out.2.1) (HT0.out.ec.small HTN.out.2.2.1) rfl).next bR.drew)
  go_region_held3 (fun W=>W.cell? ⟨gb,2,none⟩=some (.slice Af nf cf)/\W.cell? ⟨gb,1,none⟩=some (.int .i64 1)/\W.cell? ⟨t,0,none⟩=some (.slice (some ⟨gr,0,none⟩) 2 cr)/\W.cell? ⟨gr,1,none⟩=some (.slice (some ⟨g1,0,none⟩) 2 c1)/\W.cell? ⟨g1,0,none⟩=some (.slice za zn zc))
   (first | exact HC0.out _ HB0.out | exact HC0.out _ (HBA.out _) | exact HC0.out _ HBD.out)
   (first
    | (go_at_call 127;refine (pmul_any HPS.out HOK.out.2.1 HTN.out.2.2.1).mono ?_;rintro _ P0 ⟨A0,n0,l0,rfl,ho0,hb0⟩;have HB0:Hid (Below W1.heap.size W1 P0):=ah ((HBA.out _).trans (hb0.mono (HBA.out _).size));have HO0:=ah ho0;clear ho0 hb0))
  have hS0:=HO0.out.base (b':=b) (by have h1:=HV0.out.1;have h2:=(HBA.out (.cells #[.slice Af nf cf,.slice za zn zc] 73)).size;omega)
  have HQ0:=ah (show ∀ W,Below P0.heap.size P0 W->OwQp W b A0 n0 l0 (pmul f (M.c))/\T2 W b t gr cr g0 c0 g1 c1 (xa,xn,xc) (ya,yn,yc) (za,zn,zc) (ua,un,uc) ⟨M.a,M.b,M.c,M.d⟩/\PX W gb 226 [.int .i64 0,.int .i64 1,.slice Af nf cf]/\OwQp W b1 Af nf cf f from fun W hb=>⟨hS0.next hb,(HA0.out _ HB0.out).2.2.next hb,(HA0.out _ HB0.out).2.1.next hb,(HA0.out _ HB0.out).1.next hb⟩)
  have HS0:=ah (show ∀ W,Below P0.heap.size P0 W->W.cell? ⟨gb,0,none⟩=some (.int .i64 0)/\W.cell? ⟨t,0,none⟩=some (.slice (some ⟨gr,0,none⟩) 2 cr)/\W.cell? ⟨gr,0,none⟩=some (.slice (some ⟨g0,0,none⟩) 2 c0) from fun W hb=>⟨(HQ0.out W hb).2.2.1.cell rfl,(HQ0.out W hb).2.1.hd.cell rfl,(HQ0.out W hb).2.1.rw.cell rfl⟩)
  have HCD:=ah (Below.refl P0.heap.size P0).drew
  clear hS0 HBA HBD HPS
  go_upto_region 5 with fail
  have hg:=(HQ0.out _ HCD.out).2.1.r0.cell (i:=0) (v:=.slice xa xn xc) rfl
  refine wp_region_held_drew (S:=fun W=>W.cell? ⟨gb,0,none⟩=some (.int .i64 0)/\W.cell? ⟨t,0,none⟩=some (.slice (some ⟨gr,0,none⟩) 2 cr)/\W.cell? ⟨gr,0,none⟩=some (.slice (some ⟨g0,0,none⟩) 2 c0)) (by kernel_rfl) (HS0.out _ HCD.out) (fun hHeld=>?_)
  refine tk 0 ?_
  refine tk 1 ?_
  refine tk 2 ?_
  refine tk 3 ?_
  refine tk 4 ?_
  refine tk 5 ?_
  refine tk 6 ?_
  refine tk 7 ?_
  refine tk 8 ?_
  refine tk 9 ?_
  refine tk 10 ?_
  refine tk 11 ?_
  refine tk 12 ?_
  refine tk 13 ?_
  refine tk 14 ?_
  refine tk 15 ?_
  refine tk 16 ?_
  refine tk 17 ?_
  refine tk 18 ?_
  refine tk 20 ?_
  refine wpAnyH_ready (rs:=[19]) (by kernel_rfl) (by simp) ?_
  refine AllReadyH.cons rfl (fun K hK=>?_) AllReadyH.nil
  go_simp
  refine hK.out _ _ (HS0.out _ HCD.out) (fun hHeld=>?_)
  clear hK K
  (try simp only [Act.put,List.setIfInBounds_toArray,List.set_cons_zero,List.set_cons_succ])
  refine wpAnyH_ready (rs:=[21]) (by kernel_rfl) (by simp) ?_
  refine AllReadyH.cons rfl (fun K hK=>?_) AllReadyH.nil
  go_simp
  refine (padd_any (HQ0.out _ HCD.out).2.1.ea (HQ0.out _ HCD.out).1 HTN.out.1 (HOK.out.2.2.1 rfl).1).mono ?_
  rintro _ Q0 ⟨B0,m0,q0,rfl,ho0,hb0⟩
  have HE0:Hid (Below P0.heap.size P0 Q0):=tM HCD hb0
  have HP0:=ah (ho0.base (b':=b) (by have h1:=HV0.out.1;have h3:=HB0.out.size;have h4:=HCD.out.size;omega))
  have f0:=(HQ0.out _ HE0.out).2.1.r0.frozen 0
  have e0:=(HQ0.out _ HE0.out).2.1.r0.cell (i:=0) (v:=.slice xa xn xc) rfl
  clear ho0 hb0 hg
  go_wp2_with fail
  refine hK.out _ _ (HS0.out _ HE0.out) (fun hHeld=>?_)
  clear hK K
  (try simp only [Act.put,List.setIfInBounds_toArray,List.set_cons_zero,List.set_cons_succ])
  refine tk 22 ?_
  refine tk 23 ?_
  refine tk 24 ?_
  refine tk 25 ?_
  have hT:=(HQ0.out _ HE0.out).2.1.put0 (e:=(B0,m0,q0)) HP0.out
  have hX:=(HQ0.out _ HE0.out).2.2.1.far (p:=⟨g0,0,none⟩) ((HQ0.out _ HE0.out).2.2.1.ne (HQ0.out _ HE0.out).2.1.r0 (by decide)) (.slice B0 m0 q0)
  have hK:=(HQ0.out _ HE0.out).2.1.r0.keepS (.inl rfl) 0 (.slice B0 m0 q0)
  have HT1:=ah (show T2 (Q0.setCell ⟨g0,0,none⟩ (.slice B0 m0 q0)) b t gr cr g0 c0 g1 c1 (B0,m0,q0) (ya,yn,yc) (za,zn,zc) (ua,un,uc) ⟨padd (M.a) (pmul f (M.c)),M.b,M.c,M.d⟩ from hT)
  have HX1:=ah (show PX (Q0.setCell ⟨g0,0,none⟩ (.slice B0 m0 q0)) gb 226 [.int .i64 0,.int .i64 1,.slice Af nf cf] from hX)
  have HF1:=ah (show OwQp (Q0.setCell ⟨g0,0,none⟩ (.slice B0 m0 q0)) b1 Af nf cf f from (HQ0.out _ HE0.out).2.2.2.keep hK.q)
  have HV1:=ah (show b<=(Q0.setCell ⟨g0,0,none⟩ (.slice B0 m0 q0)).heap.size/\Below b w (Q0.setCell ⟨g0,0,none⟩ (.slice B0 m0 q0))/\KeepS w (Q0.setCell ⟨g0,0,none⟩ (.slice B0 m0 q0)) from by
   have h1:=HV0.out.1
   have h2:=HB0.out.size
   have h3:=HE0.out.size
   have h4:=(HV0.out.2.1.trans (HB0.out.mono h1)).trans (HE0.out.mono (by omega))
   refine ⟨by rw [World.size_setCell];omega,h4.setCell (p:=⟨g0,0,none⟩) HT0.out.b0 _,?_⟩
   exact ((HV0.out.2.2.trans (.below HB0.out)).trans (.below HE0.out)).trans hK)
  clear hT hX hK
  refine wpAnyH_ready (rs:=[26]) (by kernel_rfl) (by simp) ?_
  refine AllReadyH.cons rfl (fun K hK=>?_) AllReadyH.nil
  go_simp
  refine hK.out _ _ ⟨HX1.out.cell rfl,HT1.out.hd.cell rfl,HT1.out.rw.cell rfl⟩ (fun hHeld=>?_)
  clear hK K
  (try simp only [Act.put,List.setIfInBounds_toArray,List.set_cons_zero,List.set_cons_succ])
  refine wpAnyH_done (by kernel_rfl) ?_ _
  obtain ⟨U0,HU0⟩:∃ W,W=(Q0.setCell ⟨g0,0,none⟩ (.slice B0 m0 q0)):=⟨_,rfl⟩
  rw [<- HU0] at HT1 HX1 HF1 HV1 ⊢
  clear HU0 e0 f0 hHeld
  go_upto_region 6 with fail
  go_wp2_with fail
  rw [rounds_succ]
  go_upto_region 4 with fail
  have HA1:=ah (show ∀ W,Below U0.heap.size U0 W->OwQp W b1 Af nf cf f/\PX W gb 226 [.int .i64 0,.int .i64 1,.slice Af nf cf]/\T2 W b t gr cr g0 c0 g1 c1 (B0,m0,q0) (ya,yn,yc) (za,zn,zc) (ua,un,uc) ⟨padd (M.a) (pmul f (M.c)),M.b,M.c,M.d⟩ from fun W hb=>⟨HF1.out.next hb,HX1.out.next hb,HT1.out.next hb⟩)
  have HC1:=ah (show ∀ W,Below U0.heap.size U0 W->W.cell? ⟨gb,2,none⟩=some (.slice Af nf cf)/\W.cell? ⟨gb,1,none⟩=some (.int .i64 1)/\W.cell? ⟨t,0,none⟩=some (.slice (some ⟨gr,0,none⟩) 2 cr)/\W.cell? ⟨gr,1,none⟩=some (.slice (some ⟨g1,0,none⟩) 2 c1)/\W.cell? ⟨g1,1,none⟩=some (.slice ua un uc) from fun W hb=>⟨(HA1.out W hb).2.1.cell rfl,(HA1.out W hb).2.1.cell rfl,(HA1.out W hb).2.2.hd.cell rfl,(HA1.out W hb).2.2.rw.cell rfl,(HA1.out W hb).2.2.r1.cell rfl⟩)
  have HBD:=ah (Below.refl U0.heap.size U0).drew
  have HBA:=ah (show ∀ o,Below U0.heap.size U0 (U0.alloc o).drew from fun o=>((Below.refl U0.heap.size U0).alloc nR _).drew)
  have HPS:=ah (show RdPs (U0.alloc (.cells #[.slice Af nf cf,.slice ua un uc] 73)).drew (U0.alloc (.cells #[.slice Af nf cf,.slice ua un uc] 73)).drew.heap.size 1 1048576 (some ⟨U0.heap.size,0,none⟩) 2 2 [f.map pr,(M.d).map pr] from (ps_two (K:=1048576) (HF1.out.rd HOK.out.2.1.qs) (HT1.out.ed.rd HTN.out.2.2.2.qs) (HF1.out.small HOK.out.2.1) (HT1.out.ed.small HTN.out.2.2.2) rfl).next bR.drew)
  go_region_held3 (fun W=>W.cell? ⟨gb,2,none⟩=some (.slice Af nf cf)/\W.cell? ⟨gb,1,none⟩=some (.int .i64 1)/\W.cell? ⟨t,0,none⟩=some (.slice (some ⟨gr,0,none⟩) 2 cr)/\W.cell? ⟨gr,1,none⟩=some (.slice (some ⟨g1,0,none⟩) 2 c1)/\W.cell? ⟨g1,1,none⟩=some (.slice ua un uc))
   (first | exact HC1.out _ HB1.out | exact HC1.out _ (HBA.out _) | exact HC1.out _ HBD.out)
   (first
    | (go_at_call 127;refine (pmul_any HPS.out HOK.out.2.1 HTN.out.2.2.2).mono ?_;rintro _ P1 ⟨A1,n1,l1,rfl,ho1,hb1⟩;have HB1:Hid (Below U0.heap.size U0 P1):=ah ((HBA.out _).trans (hb1.mono (HBA.out _).size));have HO1:=ah ho1;clear ho1 hb1))
  have hS1:=HO1.out.base (b':=b) (by have h1:=HV1.out.1;have h2:=(HBA.out (.cells #[.slice Af nf cf,.slice ua un uc] 73)).size;omega)
  have HQ1:=ah (show ∀ W,Below P1.heap.size P1 W->OwQp W b A1 n1 l1 (pmul f (M.d))/\T2 W b t gr cr g0 c0 g1 c1 (B0,m0,q0) (ya,yn,yc) (za,zn,zc) (ua,un,uc) ⟨padd (M.a) (pmul f (M.c)),M.b,M.c,M.d⟩/\PX W gb 226 [.int .i64 0,.int .i64 1,.slice Af nf cf]/\OwQp W b1 Af nf cf f from fun W hb=>⟨hS1.next hb,(HA1.out _ HB1.out).2.2.next hb,(HA1.out _ HB1.out).2.1.next hb,(HA1.out _ HB1.out).1.next hb⟩)
  have HS1:=ah (show ∀ W,Below P1.heap.size P1 W->W.cell? ⟨gb,0,none⟩=some (.int .i64 0)/\W.cell? ⟨t,0,none⟩=some (.slice (some ⟨gr,0,none⟩) 2 cr)/\W.cell? ⟨gr,0,none⟩=some (.slice (some ⟨g0,0,none⟩) 2 c0) from fun W hb=>⟨(HQ1.out W hb).2.2.1.cell rfl,(HQ1.out W hb).2.1.hd.cell rfl,(HQ1.out W hb).2.1.rw.cell rfl⟩)
  have HCD:=ah (Below.refl P1.heap.size P1).drew
  clear hS1 HBA HBD HPS
  go_upto_region 5 with fail
  have hg:=(HQ1.out _ HCD.out).2.1.r0.cell (i:=1) (v:=.slice ya yn yc) rfl
  refine wp_region_held_drew (S:=fun W=>W.cell? ⟨gb,0,none⟩=some (.int .i64 0)/\W.cell? ⟨t,0,none⟩=some (.slice (some ⟨gr,0,none⟩) 2 cr)/\W.cell? ⟨gr,0,none⟩=some (.slice (some ⟨g0,0,none⟩) 2 c0)) (by kernel_rfl) (HS1.out _ HCD.out) (fun hHeld=>?_)
  refine tk 0 ?_
  refine tk 1 ?_
  refine tk 2 ?_
  refine tk 3 ?_
  refine tk 4 ?_
  refine tk 5 ?_
  refine tk 6 ?_
  refine tk 7 ?_
  refine tk 8 ?_
  refine tk 9 ?_
  refine tk 10 ?_
  refine tk 11 ?_
  refine tk 12 ?_
  refine tk 13 ?_
  refine tk 14 ?_
  refine tk 15 ?_
  refine tk 16 ?_
  refine tk 17 ?_
  refine tk 18 ?_
  refine tk 20 ?_
  refine wpAnyH_ready (rs:=[19]) (by kernel_rfl) (by simp) ?_
  refine AllReadyH.cons rfl (fun K hK=>?_) AllReadyH.nil
  go_simp
  refine hK.out _ _ (HS1.out _ HCD.out) (fun hHeld=>?_)
  clear hK K
  (try simp only [Act.put,List.setIfInBounds_toArray,List.set_cons_zero,List.set_cons_succ])
  refine wpAnyH_ready (rs:=[21]) (by kernel_rfl) (by simp) ?_
  refine AllReadyH.cons rfl (fun K hK=>?_) AllReadyH.nil
  go_simp
  refine (padd_any (HQ1.out _ HCD.out).2.1.eb (HQ1.out _ HCD.out).1 HTN.out.2.1 (HOK.out.2.2.1 rfl).2).mono ?_
  rintro _ Q1 ⟨B1,m1,q1,rfl,ho1,hb1⟩
  have HE1:Hid (Below P1.heap.size P1 Q1):=tM HCD hb1
  have HP1:=ah (ho1.base (b':=b) (by have h1:=HV1.out.1;have h3:=HB1.out.size;have h4:=HCD.out.size;omega))
  have f1:=(HQ1.out _ HE1.out).2.1.r0.frozen 1
  have e1:=(HQ1.out _ HE1.out).2.1.r0.cell (i:=1) (v:=.slice ya yn yc) rfl
  clear ho1 hb1 hg
  go_wp2_with fail
  refine hK.out _ _ (HS1.out _ HE1.out) (fun hHeld=>?_)
  clear hK K
  (try simp only [Act.put,List.setIfInBounds_toArray,List.set_cons_zero,List.set_cons_succ])
  refine tk 22 ?_
  refine tk 23 ?_
  refine tk 24 ?_
  refine tk 25 ?_
  have hT:=(HQ1.out _ HE1.out).2.1.put1 (e:=(B1,m1,q1)) HP1.out
  have hX:=(HQ1.out _ HE1.out).2.2.1.far (p:=⟨g0,1,none⟩) ((HQ1.out _ HE1.out).2.2.1.ne (HQ1.out _ HE1.out).2.1.r0 (by decide)) (.slice B1 m1 q1)
  have hK:=(HQ1.out _ HE1.out).2.1.r0.keepS (.inl rfl) 1 (.slice B1 m1 q1)
  have HT2:=ah (show T2 (Q1.setCell ⟨g0,1,none⟩ (.slice B1 m1 q1)) b t gr cr g0 c0 g1 c1 (B0,m0,q0) (B1,m1,q1) (za,zn,zc) (ua,un,uc) ⟨padd (M.a) (pmul f (M.c)),padd (M.b) (pmul f (M.d)),M.c,M.d⟩ from hT)
  have HX2:=ah (show PX (Q1.setCell ⟨g0,1,none⟩ (.slice B1 m1 q1)) gb 226 [.int .i64 0,.int .i64 1,.slice Af nf cf] from hX)
  have HF2:=ah (show OwQp (Q1.setCell ⟨g0,1,none⟩ (.slice B1 m1 q1)) b1 Af nf cf f from (HQ1.out _ HE1.out).2.2.2.keep hK.q)
  have HV2:=ah (show b<=(Q1.setCell ⟨g0,1,none⟩ (.slice B1 m1 q1)).heap.size/\Below b w (Q1.setCell ⟨g0,1,none⟩ (.slice B1 m1 q1))/\KeepS w (Q1.setCell ⟨g0,1,none⟩ (.slice B1 m1 q1)) from by
   have h1:=HV1.out.1
   have h2:=HB1.out.size
   have h3:=HE1.out.size
   have h4:=(HV1.out.2.1.trans (HB1.out.mono h1)).trans (HE1.out.mono (by omega))
   refine ⟨by rw [World.size_setCell];omega,h4.setCell (p:=⟨g0,1,none⟩) HT1.out.b0 _,?_⟩
   exact ((HV1.out.2.2.trans (.below HB1.out)).trans (.below HE1.out)).trans hK)
  clear hT hX hK
  refine wpAnyH_ready (rs:=[26]) (by kernel_rfl) (by simp) ?_
  refine AllReadyH.cons rfl (fun K hK=>?_) AllReadyH.nil
  go_simp
  refine hK.out _ _ ⟨HX2.out.cell rfl,HT2.out.hd.cell rfl,HT2.out.rw.cell rfl⟩ (fun hHeld=>?_)
  clear hK K
  (try simp only [Act.put,List.setIfInBounds_toArray,List.set_cons_zero,List.set_cons_succ])
  refine wpAnyH_done (by kernel_rfl) ?_ _
  obtain ⟨U1,HU1⟩:∃ W,W=(Q1.setCell ⟨g0,1,none⟩ (.slice B1 m1 q1)):=⟨_,rfl⟩
  rw [<- HU1] at HT2 HX2 HF2 HV2 ⊢
  clear HU1 e1 f1 hHeld
  go_upto_region 6 with fail
  go_wp2_with fail
  rw [rounds_succ]
  go_wp2
  go_returns
  exact ⟨rfl,⟨_,_,_,_,_,_,_,_,_,_,HT2.out⟩,HV2.out.2⟩
 ·obtain ⟨W1,HW1⟩:∃ W,W=w.alloc (.cells #[.int .i64 1,.int .i64 0,.slice Af nf cf] 226):=⟨_,rfl⟩
  have hb1:Below w.heap.size w W1:=by rw [HW1];exact bA
  have hX:PX W1 w.heap.size 226 [.int .i64 1,.int .i64 0,.slice Af nf cf]:=by rw [HW1];exact PX.new w _ [.int .i64 1,.int .i64 0,.slice Af nf cf]
  obtain ⟨gb,hgb⟩:∃ g,g=w.heap.size:=⟨_,rfl⟩
  rw [<- hgb] at hX
  have HT0:=ah (h.next hb1)
  have HF0:=ah (hf.next hb1)
  have HX0:=ah hX
  have HV0:=ah (show b<=W1.heap.size/\Below b w W1/\KeepS w W1 from ⟨nT HBB.out hb1.size,hb1.mono HBB.out,.below hb1⟩)
  have k1':(w.alloc (.cells #[.int .i64 1,.int .i64 0,.slice Af nf cf] 226)).cell? ⟨t,1,none⟩=some (.int .i64 2):=by rw [<- HW1];exact HT0.out.hd.cell rfl
  have HW1:=ah HW1
  clear h hf hb1 hX
  go_enter Tryz.func279,Tryz.ntmps279
  go_wp2_with fail
  rw [<- HW1.out,<- hgb]
  clear HW1 hgb
  clear HW1 k1'
  refine wp_loop_rounds 3 ?_
  rw [rounds_succ]
  go_upto_region 4 with fail
  have HA0:=ah (show ∀ W,Below W1.heap.size W1 W->OwQp W b1 Af nf cf f/\PX W gb 226 [.int .i64 1,.int .i64 0,.slice Af nf cf]/\T2 W b t gr cr g0 c0 g1 c1 (xa,xn,xc) (ya,yn,yc) (za,zn,zc) (ua,un,uc) ⟨M.a,M.b,M.c,M.d⟩ from fun W hb=>⟨HF0.out.next hb,HX0.out.next hb,HT0.out.next hb⟩)
  have HC0:=ah (show ∀ W,Below W1.heap.size W1 W->W.cell? ⟨gb,2,none⟩=some (.slice Af nf cf)/\W.cell? ⟨gb,1,none⟩=some (.int .i64 0)/\W.cell? ⟨t,0,none⟩=some (.slice (some ⟨gr,0,none⟩) 2 cr)/\W.cell? ⟨gr,0,none⟩=some (.slice (some ⟨g0,0,none⟩) 2 c0)/\W.cell? ⟨g0,0,none⟩=some (.slice xa xn xc) from fun W hb=>⟨(HA0.out W hb).2.1.cell rfl,(HA0.out W hb).2.1.cell rfl,(HA0.out W hb).2.2.hd.cell rfl,(HA0.out W hb).2.2.rw.cell rfl,(HA0.out W hb).2.2.r0.cell rfl⟩)
  have HBD:=ah (Below.refl W1.heap.size W1).drew
  have HBA:=ah (show ∀ o,Below W1.heap.size W1 (W1.alloc o).drew from fun o=>((Below.refl W1.heap.size W1).alloc nR _).drew)
  have HPS:=ah (show RdPs (W1.alloc (.cells #[.slice Af nf cf,.slice xa xn xc] 73)).drew (W1.alloc (.cells #[.slice Af nf cf,.slice xa xn xc] 73)).drew.heap.size 1 1048576 (some ⟨W1.heap.size,0,none⟩) 2 2 [f.map pr,(M.a).map pr] from (ps_two (K:=1048576) (HF0.out.rd HOK.out.2.1.qs) (HT0.out.ea.rd HTN.out.1.qs) (HF0.out.small HOK.out.2.1) (HT0.out.ea.small HTN.out.1) rfl).next bR.drew)
  go_region_held3 (fun W=>W.cell? ⟨gb,2,none⟩=some (.slice Af nf cf)/\W.cell? ⟨gb,1,none⟩=some (.int .i64 0)/\W.cell? ⟨t,0,none⟩=some (.slice (some ⟨gr,0,none⟩) 2 cr)/\W.cell? ⟨gr,0,none⟩=some (.slice (some ⟨g0,0,none⟩) 2 c0)/\W.cell? ⟨g0,0,none⟩=some (.slice xa xn xc))
   (first | exact HC0.out _ HB0.out | exact HC0.out _ (HBA.out _) | exact HC0.out _ HBD.out)
   (first
    | (go_at_call 127;refine (pmul_any HPS.out HOK.out.2.1 HTN.out.1).mono ?_;rintro _ P0 ⟨A0,n0,l0,rfl,ho0,hb0⟩;have HB0:Hid (Below W1.heap.size W1 P0):=ah ((HBA.out _).trans (hb0.mono (HBA.out _).size));have HO0:=ah ho0;clear ho0 hb0))
  have hS0:=HO0.out.base (b':=b) (by have h1:=HV0.out.1;have h2:=(HBA.out (.cells #[.slice Af nf cf,.slice xa xn xc] 73)).size;omega)
  have HQ0:=ah (show ∀ W,Below P0.heap.size P0 W->OwQp W b A0 n0 l0 (pmul f (M.a))/\T2 W b t gr cr g0 c0 g1 c1 (xa,xn,xc) (ya,yn,yc) (za,zn,zc) (ua,un,uc) ⟨M.a,M.b,M.c,M.d⟩/\PX W gb 226 [.int .i64 1,.int .i64 0,.slice Af nf cf]/\OwQp W b1 Af nf cf f from fun W hb=>⟨hS0.next hb,(HA0.out _ HB0.out).2.2.next hb,(HA0.out _ HB0.out).2.1.next hb,(HA0.out _ HB0.out).1.next hb⟩)
  have HS0:=ah (show ∀ W,Below P0.heap.size P0 W->W.cell? ⟨gb,0,none⟩=some (.int .i64 1)/\W.cell? ⟨t,0,none⟩=some (.slice (some ⟨gr,0,none⟩) 2 cr)/\W.cell? ⟨gr,1,none⟩=some (.slice (some ⟨g1,0,none⟩) 2 c1) from fun W hb=>⟨(HQ0.out W hb).2.2.1.cell rfl,(HQ0.out W hb).2.1.hd.cell rfl,(HQ0.out W hb).2.1.rw.cell rfl⟩)
  have HCD:=ah (Below.refl P0.heap.size P0).drew
  clear hS0 HBA HBD HPS
  go_upto_region 5 with fail
  have hg:=(HQ0.out _ HCD.out).2.1.r1.cell (i:=0) (v:=.slice za zn zc) rfl
  refine wp_region_held_drew (S:=fun W=>W.cell? ⟨gb,0,none⟩=some (.int .i64 1)/\W.cell? ⟨t,0,none⟩=some (.slice (some ⟨gr,0,none⟩) 2 cr)/\W.cell? ⟨gr,1,none⟩=some (.slice (some ⟨g1,0,none⟩) 2 c1)) (by kernel_rfl) (HS0.out _ HCD.out) (fun hHeld=>?_)
  refine tk 0 ?_
  refine tk 1 ?_
  refine tk 2 ?_
  refine tk 3 ?_
  refine tk 4 ?_
  refine tk 5 ?_
  refine tk 6 ?_
  refine tk 7 ?_
  refine tk 8 ?_
  refine tk 9 ?_
  refine tk 10 ?_
  refine tk 11 ?_
  refine tk 12 ?_
  refine tk 13 ?_
  refine tk 14 ?_
  refine tk 15 ?_
  refine tk 16 ?_
  refine tk 17 ?_
  refine tk 18 ?_
  refine tk 20 ?_
  refine wpAnyH_ready (rs:=[19]) (by kernel_rfl) (by simp) ?_
  refine AllReadyH.cons rfl (fun K hK=>?_) AllReadyH.nil
  go_simp
  refine hK.out _ _ (HS0.out _ HCD.out) (fun hHeld=>?_)
  clear hK K
  (try simp only [Act.put,List.setIfInBounds_toArray,List.set_cons_zero,List.set_cons_succ])
  refine wpAnyH_ready (rs:=[21]) (by kernel_rfl) (by simp) ?_
  refine AllReadyH.cons rfl (fun K hK=>?_) AllReadyH.nil
  go_simp
  refine (padd_any (HQ0.out _ HCD.out).2.1.ec (HQ0.out _ HCD.out).1 HTN.out.2.2.1 (HOK.out.2.2.2 rfl).1).mono ?_
  rintro _ Q0 ⟨B0,m0,q0,rfl,ho0,hb0⟩
  have HE0:Hid (Below P0.heap.size P0 Q0):=tM HCD hb0
  have HP0:=ah (ho0.base (b':=b) (by have h1:=HV0.out.1;have h3:=HB0.out.size;have h4:=HCD.out.size;omega))
  have f0:=(HQ0.out _ HE0.out).2.1.r1.frozen 0
  have e0:=(HQ0.out _ HE0.out).2.1.r1.cell (i:=0) (v:=.slice za zn zc) rfl
  clear ho0 hb0 hg
  go_wp2_with fail
  refine hK.out _ _ (HS0.out _ HE0.out) (fun hHeld=>?_)
  clear hK K
  (try simp only [Act.put,List.setIfInBounds_toArray,List.set_cons_zero,List.set_cons_succ])
  refine tk 22 ?_
  refine tk 23 ?_
  refine tk 24 ?_
  refine tk 25 ?_
  have hT:=(HQ0.out _ HE0.out).2.1.put2 (e:=(B0,m0,q0)) HP0.out
  have hX:=(HQ0.out _ HE0.out).2.2.1.far (p:=⟨g1,0,none⟩) ((HQ0.out _ HE0.out).2.2.1.ne (HQ0.out _ HE0.out).2.1.r1 (by decide)) (.slice B0 m0 q0)
  have hK:=(HQ0.out _ HE0.out).2.1.r1.keepS (.inl rfl) 0 (.slice B0 m0 q0)
  have HT1:=ah (show T2 (Q0.setCell ⟨g1,0,none⟩ (.slice B0 m0 q0)) b t gr cr g0 c0 g1 c1 (xa,xn,xc) (ya,yn,yc) (B0,m0,q0) (ua,un,uc) ⟨M.a,M.b,padd (M.c) (pmul f (M.a)),M.d⟩ from hT)
  have HX1:=ah (show PX (Q0.setCell ⟨g1,0,none⟩ (.slice B0 m0 q0)) gb 226 [.int .i64 1,.int .i64 0,.slice Af nf cf] from hX)
  have HF1:=ah (show OwQp (Q0.setCell ⟨g1,0,none⟩ (.slice B0 m0 q0)) b1 Af nf cf f from (HQ0.out _ HE0.out).2.2.2.keep hK.q)
  have HV1:=ah (show b<=(Q0.setCell ⟨g1,0,none⟩ (.slice B0 m0 q0)).heap.size/\Below b w (Q0.setCell ⟨g1,0,none⟩ (.slice B0 m0 q0))/\KeepS w (Q0.setCell ⟨g1,0,none⟩ (.slice B0 m0 q0)) from by
   have h1:=HV0.out.1
   have h2:=HB0.out.size
   have h3:=HE0.out.size
   have h4:=(HV0.out.2.1.trans (HB0.out.mono h1)).trans (HE0.out.mono (by omega))
   refine ⟨by rw [World.size_setCell];omega,h4.setCell (p:=⟨g1,0,none⟩) HT0.out.b1 _,?_⟩
   exact ((HV0.out.2.2.trans (.below HB0.out)).trans (.below HE0.out)).trans hK)
  clear hT hX hK
  refine wpAnyH_ready (rs:=[26]) (by kernel_rfl) (by simp) ?_
  refine AllReadyH.cons rfl (fun K hK=>?_) AllReadyH.nil
  go_simp
  refine hK.out _ _ ⟨HX1.out.cell rfl,HT1.out.hd.cell rfl,HT1.out.rw.cell rfl⟩ (fun hHeld=>?_)
  clear hK K
  (try simp only [Act.put,List.setIfInBounds_toArray,List.set_cons_zero,List.set_cons_succ])
  refine wpAnyH_done (by kernel_rfl) ?_ _
  obtain ⟨U0,HU0⟩:∃ W,W=(Q0.setCell ⟨g1,0,none⟩ (.slice B0 m0 q0)):=⟨_,rfl⟩
  rw [<- HU0] at HT1 HX1 HF1 HV1 ⊢
  clear HU0 e0 f0 hHeld
  go_upto_region 6 with fail
  go_wp2_with fail
  rw [rounds_succ]
  go_upto_region 4 with fail
  have HA1:=ah (show ∀ W,Below U0.heap.size U0 W->OwQp W b1 Af nf cf f/\PX W gb 226 [.int .i64 1,.int .i64 0,.slice Af nf cf]/\T2 W b t gr cr g0 c0 g1 c1 (xa,xn,xc) (ya,yn,yc) (B0,m0,q0) (ua,un,uc) ⟨M.a,M.b,padd (M.c) (pmul f (M.a)),M.d⟩ from fun W hb=>⟨HF1.out.next hb,HX1.out.next hb,HT1.out.next hb⟩)
  have HC1:=ah (show ∀ W,Below U0.heap.size U0 W->W.cell? ⟨gb,2,none⟩=some (.slice Af nf cf)/\W.cell? ⟨gb,1,none⟩=some (.int .i64 0)/\W.cell? ⟨t,0,none⟩=some (.slice (some ⟨gr,0,none⟩) 2 cr)/\W.cell? ⟨gr,0,none⟩=some (.slice (some ⟨g0,0,none⟩) 2 c0)/\W.cell? ⟨g0,1,none⟩=some (.slice ya yn yc) from fun W hb=>⟨(HA1.out W hb).2.1.cell rfl,(HA1.out W hb).2.1.cell rfl,(HA1.out W hb).2.2.hd.cell rfl,(HA1.out W hb).2.2.rw.cell rfl,(HA1.out W hb).2.2.r0.cell rfl⟩)
  have HBD:=ah (Below.refl U0.heap.size U0).drew
  have HBA:=ah (show ∀ o,Below U0.heap.size U0 (U0.alloc o).drew from fun o=>((Below.refl U0.heap.size U0).alloc nR _).drew)
  have HPS:=ah (show RdPs (U0.alloc (.cells #[.slice Af nf cf,.slice ya yn yc] 73)).drew (U0.alloc (.cells #[.slice Af nf cf,.slice ya yn yc] 73)).drew.heap.size 1 1048576 (some ⟨U0.heap.size,0,none⟩) 2 2 [f.map pr,(M.b).map pr] from (ps_two (K:=1048576) (HF1.out.rd HOK.out.2.1.qs) (HT1.out.eb.rd HTN.out.2.1.qs) (HF1.out.small HOK.out.2.1) (HT1.out.eb.small HTN.out.2.1) rfl).next bR.drew)
  go_region_held3 (fun W=>W.cell? ⟨gb,2,none⟩=some (.slice Af nf cf)/\W.cell? ⟨gb,1,none⟩=some (.int .i64 0)/\W.cell? ⟨t,0,none⟩=some (.slice (some ⟨gr,0,none⟩) 2 cr)/\W.cell? ⟨gr,0,none⟩=some (.slice (some ⟨g0,0,none⟩) 2 c0)/\W.cell? ⟨g0,1,none⟩=some (.slice ya yn yc))
   (first | exact HC1.out _ HB1.out | exact HC1.out _ (HBA.out _) | exact HC1.out _ HBD.out)
   (first
    | (go_at_call 127;refine (pmul_any HPS.out HOK.out.2.1 HTN.out.2.1).mono ?_;rintro _ P1 ⟨A1,n1,l1,rfl,ho1,hb1⟩;have HB1:Hid (Below U0.heap.size U0 P1):=ah ((HBA.out _).trans (hb1.mono (HBA.out _).size));have HO1:=ah ho1;clear ho1 hb1))
  have hS1:=HO1.out.base (b':=b) (by have h1:=HV1.out.1;have h2:=(HBA.out (.cells #[.slice Af nf cf,.slice ya yn yc] 73)).size;omega)
  have HQ1:=ah (show ∀ W,Below P1.heap.size P1 W->OwQp W b A1 n1 l1 (pmul f (M.b))/\T2 W b t gr cr g0 c0 g1 c1 (xa,xn,xc) (ya,yn,yc) (B0,m0,q0) (ua,un,uc) ⟨M.a,M.b,padd (M.c) (pmul f (M.a)),M.d⟩/\PX W gb 226 [.int .i64 1,.int .i64 0,.slice Af nf cf]/\OwQp W b1 Af nf cf f from fun W hb=>⟨hS1.next hb,(HA1.out _ HB1.out).2.2.next hb,(HA1.out _ HB1.out).2.1.next hb,(HA1.out _ HB1.out).1.next hb⟩)
  have HS1:=ah (show ∀ W,Below P1.heap.size P1 W->W.cell? ⟨gb,0,none⟩=some (.int .i64 1)/\W.cell? ⟨t,0,none⟩=some (.slice (some ⟨gr,0,none⟩) 2 cr)/\W.cell? ⟨gr,1,none⟩=some (.slice (some ⟨g1,0,none⟩) 2 c1) from fun W hb=>⟨(HQ1.out W hb).2.2.1.cell rfl,(HQ1.out W hb).2.1.hd.cell rfl,(HQ1.out W hb).2.1.rw.cell rfl⟩)
  have HCD:=ah (Below.refl P1.heap.size P1).drew
  clear hS1 HBA HBD HPS
  go_upto_region 5 with fail
  have hg:=(HQ1.out _ HCD.out).2.1.r1.cell (i:=1) (v:=.slice ua un uc) rfl
  refine wp_region_held_drew (S:=fun W=>W.cell? ⟨gb,0,none⟩=some (.int .i64 1)/\W.cell? ⟨t,0,none⟩=some (.slice (some ⟨gr,0,none⟩) 2 cr)/\W.cell? ⟨gr,1,none⟩=some (.slice (some ⟨g1,0,none⟩) 2 c1)) (by kernel_rfl) (HS1.out _ HCD.out) (fun hHeld=>?_)
  refine tk 0 ?_
  refine tk 1 ?_
  refine tk 2 ?_
  refine tk 3 ?_
  refine tk 4 ?_
  refine tk 5 ?_
  refine tk 6 ?_
  refine tk 7 ?_
  refine tk 8 ?_
  refine tk 9 ?_
  refine tk 10 ?_
  refine tk 11 ?_
  refine tk 12 ?_
  refine tk 13 ?_
  refine tk 14 ?_
  refine tk 15 ?_
  refine tk 16 ?_
  refine tk 17 ?_
  refine tk 18 ?_
  refine tk 20 ?_
  refine wpAnyH_ready (rs:=[19]) (by kernel_rfl) (by simp) ?_
  refine AllReadyH.cons rfl (fun K hK=>?_) AllReadyH.nil
  go_simp
  refine hK.out _ _ (HS1.out _ HCD.out) (fun hHeld=>?_)
  clear hK K
  (try simp only [Act.put,List.setIfInBounds_toArray,List.set_cons_zero,List.set_cons_succ])
  refine wpAnyH_ready (rs:=[21]) (by kernel_rfl) (by simp) ?_
  refine AllReadyH.cons rfl (fun K hK=>?_) AllReadyH.nil
  go_simp
  refine (padd_any (HQ1.out _ HCD.out).2.1.ed (HQ1.out _ HCD.out).1 HTN.out.2.2.2 (HOK.out.2.2.2 rfl).2).mono ?_
  rintro _ Q1 ⟨B1,m1,q1,rfl,ho1,hb1⟩
  have HE1:Hid (Below P1.heap.size P1 Q1):=tM HCD hb1
  have HP1:=ah (ho1.base (b':=b) (by have h1:=HV1.out.1;have h3:=HB1.out.size;have h4:=HCD.out.size;omega))
  have f1:=(HQ1.out _ HE1.out).2.1.r1.frozen 1
  have e1:=(HQ1.out _ HE1.out).2.1.r1.cell (i:=1) (v:=.slice ua un uc) rfl
  clear ho1 hb1 hg
  go_wp2_with fail
  refine hK.out _ _ (HS1.out _ HE1.out) (fun hHeld=>?_)
  clear hK K
  (try simp only [Act.put,List.setIfInBounds_toArray,List.set_cons_zero,List.set_cons_succ])
  refine tk 22 ?_
  refine tk 23 ?_
  refine tk 24 ?_
  refine tk 25 ?_
  have hT:=(HQ1.out _ HE1.out).2.1.put3 (e:=(B1,m1,q1)) HP1.out
  have hX:=(HQ1.out _ HE1.out).2.2.1.far (p:=⟨g1,1,none⟩) ((HQ1.out _ HE1.out).2.2.1.ne (HQ1.out _ HE1.out).2.1.r1 (by decide)) (.slice B1 m1 q1)
  have hK:=(HQ1.out _ HE1.out).2.1.r1.keepS (.inl rfl) 1 (.slice B1 m1 q1)
  have HT2:=ah (show T2 (Q1.setCell ⟨g1,1,none⟩ (.slice B1 m1 q1)) b t gr cr g0 c0 g1 c1 (xa,xn,xc) (ya,yn,yc) (B0,m0,q0) (B1,m1,q1) ⟨M.a,M.b,padd (M.c) (pmul f (M.a)),padd (M.d) (pmul f (M.b))⟩ from hT)
  have HX2:=ah (show PX (Q1.setCell ⟨g1,1,none⟩ (.slice B1 m1 q1)) gb 226 [.int .i64 1,.int .i64 0,.slice Af nf cf] from hX)
  have HF2:=ah (show OwQp (Q1.setCell ⟨g1,1,none⟩ (.slice B1 m1 q1)) b1 Af nf cf f from (HQ1.out _ HE1.out).2.2.2.keep hK.q)
  have HV2:=ah (show b<=(Q1.setCell ⟨g1,1,none⟩ (.slice B1 m1 q1)).heap.size/\Below b w (Q1.setCell ⟨g1,1,none⟩ (.slice B1 m1 q1))/\KeepS w (Q1.setCell ⟨g1,1,none⟩ (.slice B1 m1 q1)) from by
   have h1:=HV1.out.1
   have h2:=HB1.out.size
   have h3:=HE1.out.size
   have h4:=(HV1.out.2.1.trans (HB1.out.mono h1)).trans (HE1.out.mono (by omega))
   refine ⟨by rw [World.size_setCell];omega,h4.setCell (p:=⟨g1,1,none⟩) HT1.out.b1 _,?_⟩
   exact ((HV1.out.2.2.trans (.below HB1.out)).trans (.below HE1.out)).trans hK)
  clear hT hX hK
  refine wpAnyH_ready (rs:=[26]) (by kernel_rfl) (by simp) ?_
  refine AllReadyH.cons rfl (fun K hK=>?_) AllReadyH.nil
  go_simp
  refine hK.out _ _ ⟨HX2.out.cell rfl,HT2.out.hd.cell rfl,HT2.out.rw.cell rfl⟩ (fun hHeld=>?_)
  clear hK K
  (try simp only [Act.put,List.setIfInBounds_toArray,List.set_cons_zero,List.set_cons_succ])
  refine wpAnyH_done (by kernel_rfl) ?_ _
  obtain ⟨U1,HU1⟩:∃ W,W=(Q1.setCell ⟨g1,1,none⟩ (.slice B1 m1 q1)):=⟨_,rfl⟩
  rw [<- HU1] at HT2 HX2 HF2 HV2 ⊢
  clear HU1 e1 f1 hHeld
  go_upto_region 6 with fail
  go_wp2_with fail
  rw [rounds_succ]
  go_wp2
  go_returns
  exact ⟨rfl,⟨_,_,_,_,_,_,_,_,_,_,HT2.out⟩,HV2.out.2⟩
end Go.Proofs.YtjnklbfhelbjgaaGreat
