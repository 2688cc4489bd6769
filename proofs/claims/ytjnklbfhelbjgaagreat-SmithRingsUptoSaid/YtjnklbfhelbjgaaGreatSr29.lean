/- Sr29. -/
import Derived.Test.YtjnklbfhelbjgaaGreatSr28
import Derived.Test.YtjnklbfhelbjgaaGreatSr21
import Derived.Test.YtjnklbfhelbjgaaGreatSr20
import Derived.Test.YtjnklbfhelbjgaaGreatSr12
import Derived.Test.YtjnklbfhelbjgaaGreatRows
import Derived.WalkKit
import Derived.ProofKit
import Derived.OpenShut
import Derived.JoinedCond
import Derived.Test.YtjnklbfhelbjgaaGreatSr00
import Derived.ChangeSlices
import Derived.Test.YtjnklbfhelbjgaaGreatSr03
import Derived.Lib.SmallJoins
import Derived.Test.YtjnklbfhelbjgaaGreatSr06
import Derived.Deep.Slices
import Derived.DataShut
import Derived.Test.YtjnklbfhelbjgaaGreatSr10
import Derived.Test.YtjnklbfhelbjgaaGreatSr11
set_option maxRecDepth 100000
set_option maxHeartbeats 32000000
set_option linter.all false
namespace Go.Proofs.YtjnklbfhelbjgaaGreat
open Go.RowKit Go.IntWalk
attribute [local go_sem ↓] Go.wp_at_zero Go.wp_at_succ
def RetYes18 (w:World)(e:Ending)(w':World):Prop:=e=.returned (.bool true)/\Below w.heap.size w w'
theorem awake_any (w:World):Calls Tryz.prog 17 #[] w (RetYes18 w):=by
 go_enter Tryz.func17,Tryz.ntmps17
 obtain ⟨X0a,HX0a⟩:∃ W,W=w.alloc (.cells #[.int .i64 2,.int .i64 0] 2):=⟨_,rfl⟩
 obtain ⟨X0b,HX0b⟩:∃ W,W=X0a.alloc (.cells #[.int .i64 0,.int .i64 2] 2):=⟨_,rfl⟩
 have hs1:X0a.heap.size=w.heap.size+1:=by rw [HX0a];simp
 have hs2:X0b.heap.size=w.heap.size+2:=by rw [HX0b,World.size_alloc,hs1]
 obtain ⟨X0c,HX0c⟩:∃ W,W=X0b.alloc (.cells #[.slice (some ⟨w.heap.size,0,none⟩) 2 2,.slice (some ⟨w.heap.size+1,0,none⟩) 2 2] 97):=⟨_,rfl⟩
 have hb1:Below w.heap.size w X0a:=by rw [HX0a];exact bA
 have hb2:Below X0a.heap.size X0a X0b:=by rw [HX0b];exact bA
 have hb3:Below X0b.heap.size X0b X0c:=by rw [HX0c];exact bA
 have HP0:=ah (show PX X0c w.heap.size 2 [.int .i64 2,.int .i64 0] by
  have h1:PX X0a w.heap.size 2 [.int .i64 2,.int .i64 0]:=by rw [HX0a];exact PX.new w _ [.int .i64 2,.int .i64 0]
  exact (h1.next hb2).next hb3)
 have HP1:=ah (show PX X0c (w.heap.size+1) 2 [.int .i64 0,.int .i64 2] by
  have h1:PX X0b X0a.heap.size 2 [.int .i64 0,.int .i64 2]:=by rw [HX0b];exact PX.new X0a _ [.int .i64 0,.int .i64 2]
  rw [hs1] at h1
  exact h1.next hb3)
 have HP2:=ah (show PX X0c (w.heap.size+2) 97 [.slice (some ⟨w.heap.size,0,none⟩) 2 2,.slice (some ⟨w.heap.size+1,0,none⟩) 2 2] by
  rw [HX0c,<- hs2]
  exact PX.new X0b _ [.slice (some ⟨w.heap.size,0,none⟩) 2 2,.slice (some ⟨w.heap.size+1,0,none⟩) 2 2])
 have HBX0c:=ah (show Below w.heap.size w X0c from (Below.refl w.heap.size w).trans ((hb1.trans ((hb2.trans (hb3.mono hb2.size)).mono hb1.size)).mono (Below.refl w.heap.size w).size))
 rw [HX0b,HX0a] at HX0c
 have HX0c:=ah HX0c
 clear hb1 hb2 hb3 hs1 hs2 HX0a HX0b
 go_wp2_with fail
 rw [<- HX0c.out]
 clear HX0c
 clear HX0c
 refine (table_two (w:=X0c) (ga:=w.heap.size+2) (g0:=w.heap.size) (g1:=w.heap.size+1) HP2.out HP0.out HP1.out (by decide) (by decide) (by decide) (by decide)).mono ?_
 rintro _ M0 ⟨s,A,n,c,G,r,k,rfl,hoz,hom,hb⟩
 have HZM:=ah (cJ hoz hom)
 have HBM0:=tM HBX0c hb
 clear hoz hom hb HP0 HP1 HP2
 go_wp2_with fail
 refine (factors_A HZM.out.1 HZM.out.2).mono ?_
 rintro _ F0 ⟨A0,n0,c0,rfl,ho,hb⟩
 obtain rfl:n0=2:=ho.len.symm
 have HBF0:=tM HBM0 hb
 have HL0:=ah (show ∀ W,Below F0.heap.size F0 W->OwPs W M0.heap.size A0 2 c0 [xA.a,xA.d] from fun W hb=>ho.next hb)
 clear ho hb HZM
 obtain ⟨X1a,HX1a⟩:∃ W,W=F0.alloc (.cells #[.int .i64 2,.int .i64 0] 2):=⟨_,rfl⟩
 obtain ⟨X1b,HX1b⟩:∃ W,W=X1a.alloc (.cells #[.int .i64 0,.int .i64 3] 2):=⟨_,rfl⟩
 have hs1:X1a.heap.size=F0.heap.size+1:=by rw [HX1a];simp
 have hs2:X1b.heap.size=F0.heap.size+2:=by rw [HX1b,World.size_alloc,hs1]
 obtain ⟨X1c,HX1c⟩:∃ W,W=X1b.alloc (.cells #[.slice (some ⟨F0.heap.size,0,none⟩) 2 2,.slice (some ⟨F0.heap.size+1,0,none⟩) 2 2] 97):=⟨_,rfl⟩
 have hb1:Below F0.heap.size F0 X1a:=by rw [HX1a];exact bA
 have hb2:Below X1a.heap.size X1a X1b:=by rw [HX1b];exact bA
 have hb3:Below X1b.heap.size X1b X1c:=by rw [HX1c];exact bA
 have HP0:=ah (show PX X1c F0.heap.size 2 [.int .i64 2,.int .i64 0] by
  have h1:PX X1a F0.heap.size 2 [.int .i64 2,.int .i64 0]:=by rw [HX1a];exact PX.new F0 _ [.int .i64 2,.int .i64 0]
  exact (h1.next hb2).next hb3)
 have HP1:=ah (show PX X1c (F0.heap.size+1) 2 [.int .i64 0,.int .i64 3] by
  have h1:PX X1b X1a.heap.size 2 [.int .i64 0,.int .i64 3]:=by rw [HX1b];exact PX.new X1a _ [.int .i64 0,.int .i64 3]
  rw [hs1] at h1
  exact h1.next hb3)
 have HP2:=ah (show PX X1c (F0.heap.size+2) 97 [.slice (some ⟨F0.heap.size,0,none⟩) 2 2,.slice (some ⟨F0.heap.size+1,0,none⟩) 2 2] by
  rw [HX1c,<- hs2]
  exact PX.new X1b _ [.slice (some ⟨F0.heap.size,0,none⟩) 2 2,.slice (some ⟨F0.heap.size+1,0,none⟩) 2 2])
 have HQX:=ah (show Below F0.heap.size F0 X1c from hb1.trans ((hb2.trans (hb3.mono hb2.size)).mono hb1.size))
 have HBX1c:=ah (show Below w.heap.size w X1c from HBF0.out.trans ((hb1.trans ((hb2.trans (hb3.mono hb2.size)).mono hb1.size)).mono HBF0.out.size))
 rw [HX1b,HX1a] at HX1c
 have HX1c:=ah HX1c
 clear hb1 hb2 hb3 hs1 hs2 HX1a HX1b
 go_wp2_with fail
 rw [<- HX1c.out]
 clear HX1c
 clear HX1c
 refine (table_two (w:=X1c) (ga:=F0.heap.size+2) (g0:=F0.heap.size) (g1:=F0.heap.size+1) HP2.out HP0.out HP1.out (by decide) (by decide) (by decide) (by decide)).mono ?_
 rintro _ M1 ⟨s,A,n,c,G,r,k,rfl,hoz,hom,hb⟩
 have HZM:=ah (cJ hoz hom)
 have HBQ:=ah (show Below F0.heap.size F0 M1 from HQX.out.trans (hb.mono HQX.out.size))
 have HBM1:=tM HBX1c hb
 clear hoz hom hb HP0 HP1 HP2
 go_wp2_with fail
 refine (factors_B HZM.out.1 HZM.out.2).mono ?_
 rintro _ F1 ⟨A1,n1,c1,rfl,ho,hb⟩
 obtain rfl:n1=1:=ho.len.symm
 have HBF1:=tM HBM1 hb
 have HL1:=ah (show ∀ W,Below F1.heap.size F1 W->OwPs W M1.heap.size A1 1 c1 [xE.d] from fun W hb=>ho.next hb)
 have HBF01:=ah (show Below F0.heap.size F0 F1 from (HBQ.out).trans (hb.mono HBQ.out.size))
 clear ho hb HZM
 obtain ⟨ga,P0,m0,l0,L0,rfl,_,j0,hq0,hL0⟩:=opl_at (HL0.out _ HBF01.out) (show 0 < 2 by decide)
 obtain ⟨ga',P1,m1,l1,L1,e,_,j1,hq1,hL1⟩:=opl_at (HL0.out _ HBF01.out) (show 1 < 2 by decide)
 injection e with e
 injection e with e
 subst e
 obtain ⟨gb,P2,m2,l2,L2,rfl,_,j2,hq2,hL2⟩:=opl_at (HL1.out F1 bR) (show 0 < 1 by decide)
 obtain rfl:L0=xA.a:=by simpa using hL0.out.symm
 obtain rfl:L1=xA.d:=by simpa using hL1.out.symm
 obtain rfl:L2=xE.d:=by simpa using hL2.out.symm
 have hga:ga < F1.heap.size:=World.block_lt_of_cell? F1 ⟨ga,0,none⟩ j0
 have hgb:gb < F1.heap.size:=World.block_lt_of_cell? F1 ⟨gb,0,none⟩ j2
 have HC:=ah (show ∀ W,Below F1.heap.size F1 W->W.cell? ⟨ga,0,none⟩=some (.slice P0 m0 l0)/\W.cell? ⟨ga,1,none⟩=some (.slice P1 m1 l1)/\W.cell? ⟨gb,0,none⟩=some (.slice P2 m2 l2) from fun W hb=>⟨(hb.cell (p:=⟨ga,0,none⟩) hga).trans j0,(hb.cell (p:=⟨ga,1,none⟩) hga).trans j1,(hb.cell (p:=⟨gb,0,none⟩) hgb).trans j2⟩)
 have HO:=ah (show ∀ W,Below F1.heap.size F1 W->OwQp W M0.heap.size P0 m0 l0 xA.a/\OwQp W M0.heap.size P1 m1 l1 xA.d/\OwQp W M1.heap.size P2 m2 l2 xE.d from fun W hb=>⟨hq0.next hb,hq1.next hb,hq2.next hb⟩)
 clear hq0 hq1 hq2 hL0 hL1 hL2 hga hgb j0 j1 j2
 go_upto_region 3 with fail
 have HBD:=ah (Below.refl F1.heap.size F1).drew
 have HBA:=ah (show ∀ o,Below F1.heap.size F1 (F1.alloc o).drew from fun o=>((Below.refl F1.heap.size F1).alloc nR _).drew)
 have HRK:=ah (show RdK (F1.alloc (.cells #[.int .i64 (-2),.int .i64 1] 2)).drew (F1.alloc (.cells #[.int .i64 (-2),.int .i64 1] 2)).drew.heap.size (some ⟨F1.heap.size,0,none⟩) 2 2 [-2,1] from (RdK.new F1 _ [-2,1] (by decide) (by decide) rfl rfl).next bR.drew)
 have HRA:=ah (show ∀ V:World,RdK (V.alloc (.cells #[.int .i64 (-2),.int .i64 1] 2)) (V.alloc (.cells #[.int .i64 (-2),.int .i64 1] 2)).heap.size (some ⟨V.heap.size,0,none⟩) 2 2 [-2,1] from fun V=>RdK.new V _ [-2,1] (by decide) (by decide) rfl rfl)
 have HRB:=ah (show ∀ V:World,RdK (V.alloc (.cells #[.int .i64 6,.int .i64 (-5),.int .i64 1] 2)) (V.alloc (.cells #[.int .i64 6,.int .i64 (-5),.int .i64 1] 2)).heap.size (some ⟨V.heap.size,0,none⟩) 3 3 [6,-5,1] from fun V=>RdK.new V _ [6,-5,1] (by decide) (by decide) rfl rfl)
 have HAL:=ah (show ∀ (V:World) o,Below F1.heap.size F1 V->Below F1.heap.size F1 (V.alloc o) from fun V o hb=>hb.alloc hb.size o)
 have E1:=ah (show xA.a.map ofQ=(([-2,1]:List Int).map fun z:Int=>(z:Rat)).map ofQ from by decide +kernel)
 have E2:=ah (show xA.d.map ofQ=(([-2,1]:List Int).map fun z:Int=>(z:Rat)).map ofQ from by decide +kernel)
 have E3:=ah (show xE.d.map ofQ=(([6,-5,1]:List Int).map fun z:Int=>(z:Rat)).map ofQ from by decide +kernel)
 go_region_held3 (fun W=>W.cell? ⟨ga,0,none⟩=some (.slice P0 m0 l0)/\W.cell? ⟨ga,1,none⟩=some (.slice P1 m1 l1)/\W.cell? ⟨gb,0,none⟩=some (.slice P2 m2 l2))
  (first | exact HC.out _ HBS3.out | exact HC.out _ HBP3.out | exact HC.out _ (HAL.out _ _ HBS2.out) | exact HC.out _ HBS2.out | exact HC.out _ HBP2.out | exact HC.out _ (HAL.out _ _ HBS1.out) | exact HC.out _ HBS1.out | exact HC.out _ HBP1.out | exact HC.out _ (HBA.out _) | exact HC.out _ HBD.out)
  (first
   | (go_at_call 16;refine (num18_any _ _).mono ?_;rintro _ _ ⟨rfl,rfl⟩)
   | (go_at_call 62;have hx:=HBS2.out;clear hx;refine (lpoly18_any (HRB.out _) (by decide)).mono ?_;rintro _ WP3 ⟨B3,d3,f3,M3,rfl,hp,hM,hbp⟩;obtain rfl:=hM.out;have HBP3:Hid (Below F1.heap.size F1 WP3):=ah ((HAL.out _ _ HBS2.out).trans (hbp.mono (HAL.out _ _ HBS2.out).size));have HP3:=ah hp;clear hp hM hbp)
   | (go_at_call 62;have hx:=HBS1.out;clear hx;refine (lpoly18_any (HRA.out _) (by decide)).mono ?_;rintro _ WP2 ⟨B2,d2,f2,M2,rfl,hp,hM,hbp⟩;obtain rfl:=hM.out;have HBP2:Hid (Below F1.heap.size F1 WP2):=ah ((HAL.out _ _ HBS1.out).trans (hbp.mono (HAL.out _ _ HBS1.out).size));have HP2:=ah hp;clear hp hM hbp)
   | (go_at_call 62;refine (lpoly18_any HRK.out (by decide)).mono ?_;rintro _ WP1 ⟨B1,d1,f1,M1',rfl,hp,hM,hbp⟩;obtain rfl:=hM.out;have HBP1:Hid (Below F1.heap.size F1 WP1):=ah ((HBA.out _).trans (hbp.mono (HBA.out _).size));have HP1:=ah hp;clear hp hM hbp)
   | (go_at_call 58;have hx:=HBP3.out;clear hx;refine (same09_any (HO.out _ HBP3.out).2.2.rq HP3.out.rq).mono ?_;rintro _ WS3 ⟨v,rfl,hv,hbs⟩;obtain rfl:v=true:=hv.out.2 E3.out;have HBS3:=tM HBP3 hbs;clear hv hbs)
   | (go_at_call 58;have hx:=HBP2.out;clear hx;refine (same09_any (HO.out _ HBP2.out).2.1.rq HP2.out.rq).mono ?_;rintro _ WS2 ⟨v,rfl,hv,hbs⟩;obtain rfl:v=true:=hv.out.2 E2.out;have HBS2:=tM HBP2 hbs;clear hv hbs)
   | (go_at_call 58;refine (same09_any (HO.out _ HBP1.out).1.rq HP1.out.rq).mono ?_;rintro _ WS1 ⟨v,rfl,hv,hbs⟩;obtain rfl:v=true:=hv.out.2 E1.out;have HBS1:=tM HBP1 hbs;clear hv hbs))
 all_goals
  have HBE:=tM HBF1 HBS3.out
  go_wp2
  go_ret
  exact ⟨rfl,HBE.out⟩
theorem bnd_ex:∀ l:List (List Rat),∃ K N,∀ L ∈ l,L.length<=K/\rsz (L.map ofQ)<=N
 | []=>⟨0,0,fun L h=>by cases h⟩
 | x :: l => by
   obtain ⟨K,N,h⟩:=bnd_ex l
   refine ⟨max K x.length,max N (rsz (x.map ofQ)),fun L hL=>?_⟩
   rcases List.mem_cons.1 hL with rfl | h2
   ·exact ⟨Nat.le_max_right _ _,Nat.le_max_right _ _⟩
   ·exact ⟨nT (h L h2).1 (Nat.le_max_left _ _),nT (h L h2).2 (Nat.le_max_left _ _)⟩
theorem OwPp.ex {w:World}{b n c:Nat}{A:Option Addr}{MM:List (List (List Rat))}(h:OwPp w b A n c MM)(hJ:∀ LL ∈ MM,LL.length<=1048576):∃ N K,RdRpp w w.heap.size N K 1048576 A n c (MM.map (·.map (·.map ofQ))):=by
 obtain ⟨K,N,h1⟩:=bnd_ex MM.flatten
 exact ⟨N,K,OwPp.rpp h fun LL hL=>⟨hJ LL hL,fun L hl=>h1 L (List.mem_flatten.2 ⟨LL,hL,hl⟩)⟩⟩
theorem ofQ_tab {LL MM:List (List (List Rat))}:LL.map (·.map (·.map ofQ))=MM.map (·.map (·.map ofQ)) ↔ LL=MM :=
 ⟨fun e=>(List.map_inj_right fun _ _ h1=>(List.map_inj_right fun _ _ h2=>ofQ_list h2).1 h1).1 e,fun e=>by rw [e]⟩
theorem same18_own {w:World}{b b' n c n' c':Nat}{A A':Option Addr}{LL MM:List (List (List Rat))}(h:OwPp w b A n c LL)(h':OwPp w b' A' n' c' MM)(hF:LL.length<=1048576/\MM.length<=1048576)(hJ:∀ L ∈ LL,L.length<=1048576)(hJ':∀ L ∈ MM,L.length<=1048576) :
  Calls Tryz.prog 28 #[.slice A n c,.slice A' n' c'] w (RetBo (LL=MM) w):=by
 obtain ⟨N,K,h1⟩:=h.ex hJ
 obtain ⟨N',K',h2⟩:=h'.ex hJ'
 refine (same18_any h1 h2 (by rw [<- h.len];exact hF.1) (by rw [<- h'.len];exact hF.2) nR nR).mono ?_
 rintro e w' ⟨v,h3,h4,h5⟩
 exact ⟨v,h3,ah (h4.out.trans ofQ_tab),h5⟩
theorem told18_err {A B:Option Addr}{c m d:Nat}{z:Int}{w:World}(h0:z ≠ 0) :
  Calls Tryz.prog 26 #[.slice A 0 c,.int .i64 z,.slice B m d,.int .i64 z] w (fun e w'=>e=.returned (.bool true)/\w'=w):=by
 have hz1:¬z=0:=h0
 have hz:(z == 0)=false:=by simp;exact h0
 go_enter Tryz.func26,Tryz.ntmps26
 go_wp2_with fail
 refine (num18_any z w).mono ?_
 rintro _ W1 ⟨rfl,h1⟩
 rw [h1]
 clear h1
 go_wp2
 go_ret
 exact ⟨rfl,rfl⟩
theorem told18_ok {b b' n c n' c':Nat}{A A':Option Addr}{MM:List (List (List Rat))}{w:World}(h:OwPp w b A n c MM)(h':OwPp w b' A' n' c' MM)(hF:MM.length<=1048576)(hJ:∀ L ∈ MM,L.length<=1048576) :
  Calls Tryz.prog 26 #[.slice A n c,.int .i64 0,.slice A' n' c',.int .i64 0] w (RetYes18 w):=by
 have HS:=ah (same18_own h h' ⟨hF,hF⟩ hJ hJ)
 clear h h' hF hJ
 go_enter Tryz.func26,Tryz.ntmps26
 go_wp2_with fail
 refine (num18_any 0 w).mono ?_
 rintro _ W1 ⟨rfl,h1⟩
 rw [h1]
 clear h1
 go_wp2_with fail
 refine HS.out.mono ?_
 clear HS
 rintro _ W2 ⟨v,rfl,hv,hb⟩
 obtain rfl:v=true:=by simpa using hv.out
 have HB:=ah hb
 clear hv hb
 go_wp2
 go_ret
 exact ⟨rfl,HB.out⟩
theorem rpp_sizes {N K J:Nat}{A:Option Addr}{n c:Nat}{PP:List (List (List RawQ))}{w:World}(h:RdRpp w w.heap.size N K J A n c PP):∀ RR ∈ PP,RR.length<=J/\∀ R ∈ RR,R.length<=K/\rsz R<=N:=fun RR hR=>by
 obtain ⟨A1,n1,c1,h1,h2⟩:=rq_one h hR
 refine ⟨by rw [h1.len];exact h2,fun R hr=>?_⟩
 obtain ⟨A2,n2,c2,h3,h4,h5⟩:=rq_two h1 hr
 exact ⟨by rw [h3.len];exact h4,h5⟩
theorem own_raw {N K J:Nat}{A A':Option Addr}{n c b n' c':Nat}{PP:List (List (List RawQ))}{w W:World}(h:RdRpp w w.heap.size N K J A n c PP)(ho:OwRpp W b A' n' c' PP):∀ V,Below W.heap.size W V->RdRpp V V.heap.size N K J A' n' c' PP:=fun _ hb=>OwRpp.rpp (OwL.next stayRpp ho hb) (rpp_sizes h)
theorem rings_any {N K J N' K' J':Nat}{A B:Option Addr}{n c m d:Nat}{PA PB:List (List (List RawQ))}{z:Int}{w:World}(h:RdRpp w w.heap.size N K J A n c PA)(h':RdRpp w w.heap.size N' K' J' B m d PB)
  (hn:n<=1048576/\m<=1048576) (hJ:J<=1048576/\J'<=1048576) (hK:K<=1048576/\K'<=1048576) (hN:N<=1000000000/\N'<=1000000000) (h1N:1<=N/\1<=N') :
  Calls Tryz.prog 6 #[.slice A n c,.slice B m d,.int .i64 z] w (RetYes18 w):=by
 have HX:=ah (show ∀ W,Below w.heap.size w W->RdRpp W W.heap.size N K J A n c PA/\RdRpp W W.heap.size N' K' J' B m d PB from fun W hb=>⟨h.next hb,h'.next hb⟩)
 have HN:=ah (show (n<=1048576/\m<=1048576)/\(J<=1048576/\J'<=1048576)/\(K<=1048576/\K'<=1048576)/\(N<=1000000000/\N'<=1000000000)/\(1<=N/\1<=N') from ⟨hn,hJ,hK,hN,h1N⟩)
 have HL:=ah (cJ h.len h'.len)
 clear h h' hn hJ hK hN h1N
 go_enter Tryz.func6,Tryz.ntmps6
 go_wp2_with fail
 refine (own18_any (HX.out w bR).1 HN.out.1.1 HN.out.2.1.1 HN.out.2.2.1.1 HN.out.2.2.2.1.1).mono ?_
 rintro _ W1 ⟨A1,n1,c1,rfl,ho1,hb1⟩
 have HO1:=ah (own_raw (HX.out w bR).1 ho1)
 have HL1:=ah (show n1=n by rw [<- OwL.len ho1,HL.out.1])
 have HB1:=ah hb1
 clear ho1 hb1
 go_wp2_with fail
 refine (own18_any (HX.out _ HB1.out).2 HN.out.1.2 HN.out.2.1.2 HN.out.2.2.1.2 HN.out.2.2.2.1.2).mono ?_
 rintro _ W2 ⟨A2,n2,c2,rfl,ho2,hb2⟩
 have HO2:=ah (own_raw (HX.out _ HB1.out).2 ho2)
 have HL2:=ah (show n2=m by rw [<- OwL.len ho2,HL.out.2])
 have HXX:=ah (show ∀ W,Below W2.heap.size W2 W->RdRpp W W.heap.size N K J A1 n1 c1 PA/\RdRpp W W.heap.size N' K' J' A2 n2 c2 PB from fun W hb=>⟨HO1.out W (hb2.trans (hb.mono hb2.size)),HO2.out W hb⟩)
 have HB2:=tM HB1 hb2
 have HNX:=ah (show n1<=1048576/\n2<=1048576 by rw [HL1.out,HL2.out];exact HN.out.1)
 clear ho2 hb2 HO1 HO2
 go_wp2_with fail
 refine (smMul_any (HXX.out W2 bR).1 (HXX.out W2 bR).2 HNX.out HN.out.2.1 HN.out.2.2.1 HN.out.2.2.2.1 HN.out.2.2.2.2).mono ?_
 rintro _ W3 ⟨A3,n3,c3,M3,k3,rfl,ho3,hV3,hb3⟩
 have HO3:=ah ho3
 have HL3:=ah (show M3.length=n3 from OwL.len ho3)
 have HV3:=hV3
 have HB3:=ah hb3
 clear ho3 hV3 hb3
 go_wp2_with fail
 refine (smEqual_any (HXX.out W3 HB3.out).1 (HXX.out W3 HB3.out).2 HNX.out HN.out.2.1 HN.out.2.2.1 HN.out.2.2.2.1 HN.out.2.2.2.2).mono ?_
 rintro _ W4 ⟨v4,k4,rfl,hE4,hb4⟩
 have HE4:=hE4
 have HB4:=tM HB3 hb4
 have HB34:=ah hb4
 clear hE4 hb4
 go_wp2_with fail
 refine (Identity_any z W4).mono ?_
 rintro _ W5 ⟨A5,n5,c5,M5,k5,rfl,ho5,hI5,hb5⟩
 have HO5:=ah ho5
 have HI5:=hI5
 have HL5:=ah (show M5.length=n5 from OwL.len ho5)
 have HB45:=ah hb5
 have HB5:=tM HB4 hb5
 clear ho5 hI5 hb5
 go_upto_region 5 with fail
 go_cut [42] from 37 to 42 (fun cv V=>cv=.bool (decide (z < 0 ∨ 24 < z))/\V=W5)
 case first =>
  by_cases hz:z < 0
  ·have hd:decide (z < 0 ∨ 24 < z)=true:=decide_eq_true (.inl hz)
   go_wp2
   go_meet
   exact ⟨by rw [hd],rfl⟩
  ·by_cases hz2:24 < z
   ·have hd:decide (z < 0 ∨ 24 < z)=true:=decide_eq_true (.inr hz2)
    go_wp2
    go_meet
    exact ⟨by rw [hd],rfl⟩
   ·have hd:decide (z < 0 ∨ 24 < z)=false:=decide_eq_false (fun e=>e.elim hz hz2)
    go_wp2
    go_meet
    exact ⟨by rw [hd],rfl⟩
 obtain ⟨rfl,hwc⟩:=hcut
 rw [hwc]
 clear hwc
 go_upto_if 42 with fail
 go_cut [] from 42 to 53 (fun V=>Below W5.heap.size W5 V)
 case first =>
  by_cases h0:z < 0 ∨ 24 < z
  ·obtain ⟨rfl,rfl⟩:M5=[]/\k5=1:=by
    rcases HI5.out with ⟨_,h2⟩ | ⟨h1,_⟩
    ·exact h2
    ·exact absurd h0 h1
   obtain rfl:n5=0:=HL5.out.symm
   rw [decide_eq_true h0]
   clear h0
   go_wp2_with fail
   refine (told18_err (z:=1) (by decide)).mono ?_
   rintro _ W6 ⟨rfl,h1⟩
   rw [h1]
   clear h1
   have HBR:=ah (Below.refl W5.heap.size W5)
   go_wp2
   go_meet
   exact HBR.out
  ·obtain ⟨rfl,rfl⟩:M5=idT z.toNat/\k5=0:=by
    rcases HI5.out with ⟨h1,_⟩ | ⟨_,h2⟩
    ·exact absurd h1 h0
    ·exact h2
   rw [decide_eq_false h0]
   obtain ⟨q,hq⟩:∃ q:Nat,z=(q:Int):=⟨z.toNat,by omega⟩
   have HQ:=ah (show q<=24/\z.toNat=q by omega)
   subst hq
   clear h0
   go_wp2_with fail
   refine (identity18_any q (by have:=HQ.out.1;omega) W5).mono ?_
   rintro _ W6 ⟨A6,n6,c6,rfl,ho6,hb6⟩
   have HO6:=ah (show OwPp W6 W5.heap.size A6 n6 c6 (idT (q:Int).toNat) by rw [HQ.out.2];exact ho6)
   have HO56:=ah (OwL.next stayPp HO5.out hb6)
   have HB6:=ah hb6
   clear ho6 hb6
   go_wp2_with fail
   have HFI:=ah (idT_fine (n:=(q:Int).toNat) (by have:=HQ.out;omega))
   refine (told18_ok HO56.out HO6.out HFI.out.rows HFI.out.cols).mono ?_
   rintro _ W7 ⟨rfl,hb7⟩
   have HB7:=tM HB6 hb7
   clear hb7
   go_wp2
   go_meet
   exact HB7.out
 case rest =>
  have HBC:=ah hcut
  have HB6:=tM HB5 HBC.out
  have HBW:=tM HB2 HB6.out
  have HO36:=ah (OwL.next stayPp HO3.out (HB34.out.trans ((HB45.out.trans (HBC.out.mono HB45.out.size)).mono HB34.out.size)))
  clear hcut
  obtain ⟨wz,rfl⟩:∃ V,V=wc:=⟨_,rfl⟩
  go_wp2_with fail
  refine (fit18_any (HX.out _ HBW.out).1 HN.out.1.1 HN.out.2.1.1 HN.out.2.2.1.1 HN.out.2.2.2.1.1 HN.out.2.2.2.2.1).mono ?_
  rintro _ W7 ⟨kk,rfl,hf,hb7⟩
  have HF7:=hf
  have HB7:=ah hb7
  clear hf hb7
  go_upto_if 56 with fail
  go_cut [15] from 56 to 59 (fun cv V=>∃ kk:Int,cv=.int .i64 kk/\Hid (BothV PA PB kk)/\Below wz.heap.size wz V)
  case first =>
   by_cases h0:kk=0
   ·subst h0
    go_wp2_with fail
    refine (fit18_any (HX.out _ (HBW.out.trans (HB7.out.mono HBW.out.size))).2 HN.out.1.2 HN.out.2.1.2 HN.out.2.2.1.2 HN.out.2.2.2.1.2 HN.out.2.2.2.2.2).mono ?_
    rintro _ W8 ⟨kk,rfl,hf,hb8⟩
    have HF8:=ah (show BothV PA PB kk from .inr ⟨HF7.out,hf.out⟩)
    have HB8:=tM HB7 hb8
    clear hf hb8
    go_wp2
    go_meet
    exact ⟨kk,rfl,HF8,HB8.out⟩
   ·have h1:(kk == 0)=false:=by simp;exact h0
    have HF8:=ah (show BothV PA PB kk from .inl ⟨HF7.out,h0⟩)
    go_wp2
    go_meet
    exact ⟨kk,rfl,HF8,HB7.out⟩
  case rest =>
   obtain ⟨kk,rfl,hV,hbc⟩:=hcut
   have HV:=hV
   have HB9:=tM HBW hbc
   have HO39:=ah (OwL.next stayPp HO36.out hbc)
   have HXX9:=ah (show ∀ W,Below wc.heap.size wc W->RdRpp W W.heap.size N K J A1 n1 c1 PA/\RdRpp W W.heap.size N' K' J' A2 n2 c2 PB from fun W hb=>HXX.out W ((HB6.out.trans (hbc.mono HB6.out.size)).trans (hb.mono (nT HB6.out.size hbc.size))))
   clear hV hbc
   have HX9:=ah (show ∀ W,Below wc.heap.size wc W->RdRpp W W.heap.size N K J A n c PA/\RdRpp W W.heap.size N' K' J' B m d PB from fun W hb=>HX.out W (HB9.out.trans (hb.mono HB9.out.size)))
   by_cases h0:kk=0
   case neg =>
    have hk1:¬kk=0:=h0
    have hk2:(kk == 0)=false:=by simp;exact h0
    have HK0:=ah h0
    obtain ⟨rfl,rfl⟩:M3=[]/\k3=kk:=by
     rcases HV3.out with ⟨_,h2,h3⟩ | ⟨h1,_⟩ | ⟨h1,_⟩
     ·exact ⟨h3,h2.uniq HV.out⟩
     ·exact absurd (HV.out.uniq h1) h0
     ·exact absurd (HV.out.uniq h1) h0
    obtain rfl:n3=0:=HL3.out.symm
    obtain ⟨rfl,rfl⟩:k4=k3/\v4=false:=by
     have e1:=HE4.out.1.uniq HV.out
     rcases HE4.out.2 with ⟨_,h2⟩ | ⟨h2,_⟩
     ·exact ⟨e1,h2⟩
     ·exact absurd (e1.symm.trans h2) h0
    clear h0
    go_wp2_with fail
    refine (told18_err HK0.out).mono ?_
    rintro _ W10 ⟨rfl,h1⟩
    rw [h1]
    clear h1
    go_wp2_with fail
    refine (num18_any _ wc).mono ?_
    rintro _ W11 ⟨rfl,h1⟩
    rw [h1]
    clear h1
    go_wp2_with fail
    refine (awake_any wc).mono ?_
    rintro _ W12 ⟨rfl,hb⟩
    have HF:=tM HB9 hb
    clear hb
    go_wp2
    go_ret
    exact ⟨rfl,HF.out⟩
   case pos =>
    subst h0
    obtain ⟨rfl,he4⟩:k4=0/\(v4=true ↔ nn PA=nn PB):=by
     have e1:=HE4.out.1.uniq HV.out
     rcases HE4.out.2 with ⟨h2,_⟩ | ⟨_,h2⟩
     ·exact absurd e1 h2
     ·exact ⟨e1,h2⟩
    have HQ4:=ah he4
    have HZ:=ah (cJ HV.out.zero.1.zero HV.out.zero.2.zero)
    have HFA:=ah (show Fine N (nn PA) from fine_nn (HX9.out wc bR).1 HZ.out.1.1 HN.out.1.1 HN.out.2.1.1 HN.out.2.2.1.1 HN.out.2.2.2.2.1)
    have HFB:=ah (show Fine N' (nn PB) from fine_nn (HX9.out wc bR).2 HZ.out.2.1 HN.out.1.2 HN.out.2.1.2 HN.out.2.2.1.2 HN.out.2.2.2.2.2)
    clear he4
    go_wp2_with fail
    refine (num18_any 0 wc).mono ?_
    rintro _ W10 ⟨rfl,h1⟩
    rw [h1]
    clear h1
    go_wp2_with fail
    refine (rNorm18_any (HX9.out wc bR).1 HZ.out.1.1 HN.out.1.1 HN.out.2.1.1 HN.out.2.2.1.1 HN.out.2.2.2.1.1).mono ?_
    rintro _ W11 ⟨A11,n11,c11,rfl,ho11,hb11⟩
    have HO11:=ah ho11
    have HB11:=ah hb11
    clear ho11 hb11
    go_wp2_with fail
    refine (rNorm18_any (HX9.out _ HB11.out).2 HZ.out.2.1 HN.out.1.2 HN.out.2.1.2 HN.out.2.2.1.2 HN.out.2.2.2.1.2).mono ?_
    rintro _ W12 ⟨A12,n12,c12,rfl,ho12,hb12⟩
    have HO12:=ah (cJ (OwL.next stayPp HO11.out hb12) ho12)
    have HB12:=tM HB11 hb12
    clear ho12 hb12
    go_wp2_with fail
    refine (same18_own HO12.out.1 HO12.out.2 ⟨HFA.out.rows,HFB.out.rows⟩ HFA.out.cols HFB.out.cols).mono ?_
    rintro _ W13 ⟨v13,rfl,hv13,hb13⟩
    obtain rfl:v4=v13:=by
     have h1:=HQ4.out.trans hv13.out.symm
     cases v4 <;> cases v13 <;> simp at h1 ⊢
    have HB13:=tM HB12 hb13
    have HO313:=ah (OwL.next stayPp HO39.out HB13.out)
    have hvv:(v4 != v4)=false:=by cases v4 <;> rfl
    clear hv13 hb13
    go_wp2_with fail
    refine (colsR_any (HX9.out _ HB13.out).1 HN.out.1.1).mono ?_
    rintro _ W14 ⟨y,rfl,hy,hb14⟩
    have HY:=ah (show y=(colq (nn PA):Int) by rw [hy.out,rcol_nn])
    have HB14:=tM HB13 hb14
    have HO314:=ah (OwL.next stayPp HO313.out hb14)
    have HLB:=ah (show (nn PB).length=m by rw [nn,List.length_map,HL.out.2])
    clear hy hb14 hvv
    by_cases hne:colq (nn PA)=m
    ·have hyi:y=(m:Int):=by rw [HY.out];omega
     have HCE:=ah (show colq (nn PA)=(nn PB).length by rw [hne,HLB.out])
     obtain ⟨rfl,rfl⟩:M3=mulT (nn PA) (nn PB)/\k3=0:=by
      rcases HV3.out with ⟨h1,h2,_⟩ | ⟨_,h1,_⟩ | ⟨_,_,h2⟩
      ·exact absurd (h2.uniq HV.out) h1
      ·exact absurd HCE.out h1
      ·exact h2
     subst hyi
     clear hne
     go_wp2_with fail
     refine (mul18_any (HX9.out _ HB14.out).1 (HX9.out _ HB14.out).2 HN.out.2.2.1 HN.out.2.2.2.1 HV.out.zero.1 HV.out.zero.2 HCE.out).mono ?_
     rintro _ W15 ⟨A15,n15,c15,rfl,ho15,hb15⟩
     have HO15:=ah (cJ (OwL.next stayPp HO314.out hb15) ho15)
     have HB15:=tM HB14 hb15
     have HFM:=ah (mulT_fine (fit_sm HV.out.zero.1) (fit_sm HV.out.zero.2) (by
      have h1:=HZ.out.1.2.2
      have h2:=HZ.out.2.2.2
      unfold Bigg at h1 h2
      omega))
     clear ho15 hb15
     go_wp2_with fail
     refine (told18_ok HO15.out.1 HO15.out.2 HFM.out.rows HFM.out.cols).mono ?_
     rintro _ W16 ⟨rfl,hb16⟩
     have HB16:=tM HB15 hb16
     clear hb16
     go_wp2_with fail
     refine (same18_any (HXX9.out _ HB16.out).1 (HX9.out _ HB16.out).1 HNX.out.1 HN.out.1.1 HN.out.2.1.1 HN.out.2.1.1).mono ?_
     rintro _ W17 ⟨v17,rfl,hv17,hb17⟩
     obtain rfl:v17=true:=by simpa using hv17.out
     have HB17:=tM HB16 hb17
     clear hv17 hb17
     go_wp2_with fail
     refine (same18_any (HXX9.out _ HB17.out).2 (HX9.out _ HB17.out).2 HNX.out.2 HN.out.1.2 HN.out.2.1.2 HN.out.2.1.2).mono ?_
     rintro _ W18 ⟨v18,rfl,hv18,hb18⟩
     obtain rfl:v18=true:=by simpa using hv18.out
     have HB18:=tM HB17 hb18
     clear hv18 hb18
     go_wp2_with fail
     refine (awake_any W18).mono ?_
     rintro _ W19 ⟨rfl,hb19⟩
     have HF:=ah (HB9.out.trans ((HB18.out.trans (hb19.mono HB18.out.size)).mono HB9.out.size))
     clear hb19
     go_wp2
     go_ret
     exact ⟨rfl,HF.out⟩
    ·have hyi:¬y=(m:Int):=by rw [HY.out];omega
     have hyb:(y == (m:Int))=false:=by simp;exact hyi
     have HCE:=ah (show colq (nn PA) ≠ (nn PB).length by rw [HLB.out];exact hne)
     obtain ⟨rfl,rfl⟩:M3=[]/\k3=2:=by
      rcases HV3.out with ⟨h1,h2,_⟩ | ⟨_,_,h2⟩ | ⟨_,h1,_⟩
      ·exact absurd (h2.uniq HV.out) h1
      ·exact h2
      ·exact absurd h1 HCE.out
     obtain rfl:n3=0:=HL3.out.symm
     clear hne
     go_wp2_with fail
     refine (told18_err (z:=2) (by decide)).mono ?_
     rintro _ W15 ⟨rfl,h1⟩
     rw [h1]
     clear h1
     go_wp2_with fail
     refine (awake_any W14).mono ?_
     rintro _ W16 ⟨rfl,hb16⟩
     have HF:=ah (HB9.out.trans ((HB14.out.trans (hb16.mono HB14.out.size)).mono HB9.out.size))
     clear hb16
     go_wp2
     go_ret
     exact ⟨rfl,HF.out⟩
theorem walk_SmithRings {A B:Option Addr}{n c m d:Nat}{PA PB:List (List (List RawQ))}{w:World}(h:RdRpp w w.heap.size 1048576 1048576 1048576 A n c PA)(hn:n<=1048576)(h':RdRpp w w.heap.size 1048576 1048576 1048576 B m d PB)(hm:m<=1048576)(z:Int) :
  Calls Tryz.prog 6 #[.slice A n c,.slice B m d,.int .i64 z] w (RetYes18 w) :=
 rings_any h h' ⟨hn,hm⟩ ⟨nR,nR⟩ ⟨nR,nR⟩ (by decide) (by decide)
end Go.Proofs.YtjnklbfhelbjgaaGreat
namespace Go.Proofs.YtjnklbfhelbjgaaGreat
open Go.ChangeShapes Go.WideShapes Go.ChangeAt Go.RowKit
theorem own:ownKnob Tryz.prog.godebug=none:=by kernel_rfl
theorem c32:Tryz.prog.cellsOf 171=1:=by kernel_rfl
section
variable {H:Type}{enc:TypeId × Value->H}{P:Program}
theorem post_of_below {f:Func}{s:ChangeSpec}{apart fresh handsOn again:Bool}{W W':World}{args:Array Value}{v:Value}{ds gs:List (DataW H)}{before pa pv:List MemPlace}
  (hW:DataW.Whole enc P f.params.toList s.vars apart W args.toList ds gs before)
  (hres:∀ (b:Nat) (sp:Nat->Bool) (hd:Bool),DataW.TrodAll enc P W' b sp hd f.resultTypes.toList (v.resultList f.resultTypes.size) (s.fn H (ds ++ gs)).results [])
  (hargs:∀ sp:Nat->Bool,(∀ p ∈ before,sp p.block=true)->DataW.TrodAll enc P W' 0 sp true f.params.toList args.toList (s.fn H (ds ++ gs)).args pa)
  (hvars:∀ sp:Nat->Bool,(∀ p ∈ before,sp p.block=true)->DataW.TrodVars enc P W' sp s.vars (s.fn H (ds ++ gs)).vars pv)
  (hps:before=pa ++ pv) (hb:Below W.heap.size W W')
  (hok:∀ (j:Nat) (t:TypeId) (r:Value),f.resultTypes[j]?=some t->(v.resultList f.resultTypes.size)[j]?=some r->Value.okWide P W' .any 0 t r) :
  s.post enc P f apart fresh handsOn again W args v W':=by
 have hlt:∀ p ∈ before,p.block < W.heap.size:=fun p hp=>hW.lt p hp
 have hold:∀ p ∈ before,(fun b=>decide (b < W.heap.size)) p.block=true:=fun p hp=>by simpa using hlt p hp
 refine ⟨ds,gs,before,[],pa,pv,hW,hres _ _ _,hargs _ hold,hvars _ hold,World.keptBut_mono (fun p hp=>⟨hp,?_⟩) (hb.frame (· ∈ before)),fun _=>?_⟩
 ·rw [hps,List.mem_append] at hp
  exact Or.inr hp
 ·obtain ⟨_,_,_,_,_,hz,hn⟩:=hW
  refine ⟨hok,_,_,([] ++ pa) ++ pv,⟨[] ++ pa,pv,trodAll_append (hargs _ (fun _ _=>rfl)) (hres _ _ _),hvars _ (fun _ _=>rfl),rfl,?_,?_⟩,?_⟩
  ·intro b off hp
   have hin:MemPlace.cell b off ∈ before:=by rw [hps];simpa using hp
   rw [hb.frozen (hlt _ hin)]
   exact hz b off hin
  ·intro ha
   have:=hn ha
   rw [hps] at this
   simpa using this
  ·intro p hp _
   rw [hps]
   simpa using hp
end
end Go.Proofs.YtjnklbfhelbjgaaGreat
namespace Go.Proofs.YtjnklbfhelbjgaaGreat
open Go.ChangeShapes Go.WideShapes Go.ChangeAt Go.RowKit
theorem bulk_one {H:Type}(d:DataW H):1<=Rows.uptoBulk d:=by
 cases d with
 | lit l=>cases l <;> simp [Rows.uptoBulk]
 | nil=>simp [Rows.uptoBulk]
 | ptr d=>simp [Rows.uptoBulk]
 | slice elems spare=>simp [Rows.uptoBulk]
 | agg parts=>simp [Rows.uptoBulk]
 | iface t d=>simp [Rows.uptoBulk]
 | map entries=>simp [Rows.uptoBulk]
 | held h=>simp [Rows.uptoBulk]
theorem bulk_len {H:Type}(l:List (DataW H)):l.length<=Rows.uptoBulkAll l:=by
 induction l with
 | nil=>simp [Rows.uptoBulkAll]
 | cons x r ih=>have:=bulk_one x;simp only [Rows.uptoBulkAll,List.length_cons];omega
theorem bulk_part {H:Type}{d:DataW H}{l:List (DataW H)}(h:d ∈ l):Rows.uptoBulk d<=Rows.uptoBulkAll l:=by
 induction l with
 | nil=>cases h
 | cons x r ih =>
   simp only [Rows.uptoBulkAll]
   cases List.mem_cons.1 h with
   | inl e=>subst e;omega
   | inr e=>have:=ih e;omega
theorem bulk_le {H:Type}{d:DataW H}{l:List (DataW H)}(hk:Rows.uptoSmall H l=true)(h:d ∈ l):Rows.uptoBulk d<=1048576:=by
 exact nT (bulk_part h) (of_decide_eq_true (p:=Rows.uptoBulkAll l<=1048576) hk)
theorem cell_in {w:World}{a:Addr}{v:Value}(h:w.cell? a=some v):a.block < w.heap.size:=by
 apply Classical.byContradiction
 intro hlt
 have hn:w.heap[a.block]?=none:=Array.getElem?_eq_none (by omega)
 simp [World.cell?,hn] at h
section
variable {H:Type}{enc:TypeId × Value->H}{W:World}
def Stays (enc:TypeId × Value->H)(W:World)(t:TypeId)(cs:List Value)(d:DataW H)(ps:List MemPlace):Prop :=
 ∀ (W':World) (sp:Nat->Bool),Below W.heap.size W W'->(∀ p ∈ ps,sp p.block=true)->∃ n,DataW.trod enc Tryz.prog W' 0 sp true n t cs=some (d,ps)
theorem open_nat {fuel:Nat}{cs:List Value}{y:DataW H × List MemPlace}(hd:DataW.trod enc Tryz.prog W 0 (fun _=>true) true fuel 23 cs=some y) :
  ∃ (A:Option Addr) (n c:Nat) (L:List Nat),cs=[.slice A n c]/\RdU W W.heap.size A n c L/\n<=Rows.uptoBulk y.1/\Stays enc W 23 cs y.1 y.2:=by
 have ht:=Tryz.underlying23
 rcases open_ints ht Tryz.underlying171 c32 hd with ⟨rfl,rfl⟩ | ⟨a',len,cap,zs,rfl,hb,hl,hm,hz,rfl,hcell,hwf⟩
 ·exact ⟨none,0,0,[],rfl,RdU.nil _ _ _ _ nZ,nZ,fun W' sp _ _=>⟨1,by simp [DataW.trod,ht]⟩⟩
 ·have hz':zs.length=cap:=by simpa using hz
  refine ⟨some a',len,cap,(zs.take len).map Int.toNat,rfl,⟨by simp;omega,hl,hm,fun j u hu=>?_⟩,?_,fun W' sp hB hsp=>?_⟩
  ·have hj:j < len:=by
    rcases Nat.lt_or_ge j len with h3 | h3
    ·exact h3
    ·rw [gN (by simp;omega)] at hu;cases hu
   have hjz:j < zs.length:=by omega
   have he:zs.getD j 0=zs[j]:=by simp [List.getD,hjz]
   have hw:=hwf _ (List.getElem_mem hjz)
   have hbd:=bounds_u32 hw
   rw [List.getElem?_map,List.getElem?_take_of_lt hj,gE hjz] at hu
   simp at hu
   have hc:=hcell j hjz
   have hb':=cell_in hc
   rw [block_add] at hb'
   refine ⟨by omega,a',rfl,hb',?_⟩
   rw [hc,he,<- hu]
   congr 2
   omega
  ·have h3:=bulk_len (lits (H:=H) .u32 (zs.take len))
   have h4:(lits (H:=H) .u32 (zs.take len)).length=len:=by simp [lits];omega
   simp only [Rows.uptoBulk]
   omega
  ·refine ⟨_,shut_ints 0 ht Tryz.underlying171 c32 nZ hl hm ?_ (fun i hi=>?_) hwf⟩
   ·rw [hz']
    by_cases hs:sp a'.block=true
    ·rw [if_pos hs]
    ·rw [if_neg hs]
     rcases Nat.eq_zero_or_pos cap with h3 | h3
     ·omega
     ·exact absurd (hsp (.cell a'.block (a'.off+0)) (by unfold MemPlace.row;exact List.mem_map.2 ⟨0,by simp;omega,rfl⟩)) hs
   ·have hc:=hcell i hi
    have hb':=cell_in hc
    exact (hB.cell (p:=a'.add i) hb').trans hc
theorem two_cells {cs:List Value}(h:cs.length=2):∃ a b,cs=[a,b]:=by
 match cs,h with
 | [a,b],_=>exact ⟨a,b,rfl⟩
theorem four_cells {cs:List Value}(h:cs.length=4):∃ a b c d,cs=[a,b,c,d]:=by
 match cs,h with
 | [a,b,c,d],_=>exact ⟨a,b,c,d,rfl⟩
theorem cInt:Tryz.prog.cellsOf 25=2:=by kernel_rfl
theorem cBool:Tryz.prog.cellsOf 4=1:=by kernel_rfl
theorem cNat:Tryz.prog.cellsOf 23=1:=by kernel_rfl
end
section
variable {H:Type}{enc:TypeId × Value->H}{W:World}
theorem cells_below {W':World}{a:Addr}{n:Nat}{cs:List Value}(h:W.cells? 0 a n=some cs)(hB:Below W.heap.size W W'):W'.cells? 0 a n=some cs:=by
 obtain ⟨h1,h2,h3⟩:=World.cells?_some h
 refine World.cells?_of_each h1 h2 fun i hi=>?_
 have e:=h3 i hi
 rw [gE (by omega)] at e ⊢
 exact (hB.cell (p:=a.add i) (cell_in e)).trans e
theorem stays_slice {t e:TypeId}{a:Addr}{len cap:Nat}{D:Nat->DataW H}{Pl:Nat->List MemPlace}(ht:Tryz.prog.underlying t=some (.slice e))(hc:0 < Tryz.prog.cellsOf e)(hl:len<=cap)(hm:cap<=maxLen)
  (hx:∀ i,i < cap->∃ cs,W.cells? 0 (a.add (i*Tryz.prog.cellsOf e)) (Tryz.prog.cellsOf e)=some cs/\Stays enc W e cs (D i) (Pl i)) :
  Stays enc W t [.slice (some a) len cap] (.slice ((List.range len).map D) ((List.range (cap-len)).map fun j=>D (len+j))) (MemPlace.row a (cap*Tryz.prog.cellsOf e) ++ (List.range cap).flatMap Pl):=by
 intro W' sp hB hsp
 have each:∀ i,i < cap->∃ cs n,W'.cells? 0 (a.add (i*Tryz.prog.cellsOf e)) (Tryz.prog.cellsOf e)=some cs/\DataW.trod enc Tryz.prog W' 0 sp true n e cs=some (D i,Pl i):=fun i hi=>by
  obtain ⟨cs,h1,h2⟩:=hx i hi
  obtain ⟨n,hn⟩:=h2 W' sp hB fun p hp=>hsp p (List.mem_append_right _ (List.mem_flatMap.2 ⟨i,by simpa using hi,hp⟩))
  exact ⟨cs,n,cells_below h1 hB,hn⟩
 cases hs:sp a.block with
 | true=>exact Go.Deep.shut_slice_whole_cells ht nZ hl hm hs D Pl each
 | false =>
   have h0:cap=0:=by
    rcases Nat.eq_zero_or_pos cap with h | h
    ·exact h
    ·have hr:MemPlace.cell a.block (a.off+0) ∈ MemPlace.row a (cap*Tryz.prog.cellsOf e):=by
      unfold MemPlace.row
      exact List.mem_map.2 ⟨0,by simpa using Nat.mul_pos h hc,rfl⟩
     have:=hsp _ (List.mem_append_left _ hr)
     rw [show (MemPlace.cell a.block (a.off+0)).block=a.block from rfl,hs] at this
     cases this
   subst h0
   obtain rfl:len=0:=by omega
   have:=Go.Deep.shut_slice_cells (enc:=enc) (P:=Tryz.prog) (w:=W') (base:=0) (spare:=sp) (held:=true) (a:=a) ht nZ (Nat.le_refl 0) hm hs D Pl (fun i hi=>by omega)
   simpa using this
theorem bulk_elem {len:Nat}{D:Nat->DataW H}{l:List (DataW H)}{i:Nat}(hi:i < len):Rows.uptoBulk (D i)<=Rows.uptoBulk (.slice ((List.range len).map D) l):=by
 have h:=bulk_part (H:=H) (d:=D i) (l:=(List.range len).map D) (List.mem_map.2 ⟨i,by simpa using hi,rfl⟩)
 simp only [Rows.uptoBulk]
 omega
theorem bulk_many {D:Nat->DataW H}{k:Nat}:∀ (l:List Nat),(∀ i ∈ l,k<=Rows.uptoBulk (D i))->k*l.length<=Rows.uptoBulkAll (l.map D)
 | [],_=>by simp
 | x :: l, h => by
   have h1:=bulk_many l fun i hi=>h i (by simp [hi])
   have h2:=h x (by simp)
   simp only [List.map_cons,List.length_cons,Rows.uptoBulkAll,Nat.mul_succ]
   omega
end
section
variable {H:Type}{enc:TypeId × Value->H}{W:World}
theorem cRat:Tryz.prog.cellsOf 47=4:=by kernel_rfl
theorem bulk_sum {D:Nat->DataW H}{k:Nat->Nat}:∀ (l:List Nat),(∀ i ∈ l,k i<=Rows.uptoBulk (D i))->(l.map k).sum<=Rows.uptoBulkAll (l.map D)
 | [],_=>by simp
 | x :: l, h => by
   have h1:=bulk_sum l fun i hi=>h i (by simp [hi])
   have h2:=h x (by simp)
   simp only [List.map_cons,List.sum_cons,Rows.uptoBulkAll]
   omega
theorem open_int4 {fuel:Nat}{cs:List Value}{y:DataW H × List MemPlace}(hd:DataW.trod enc Tryz.prog W 0 (fun _=>true) true fuel 25 cs=some y) :
  ∃ (s:Bool) (A:Option Addr) (n c:Nat) (M:List Nat),cs=[.bool s,.slice A n c]/\RdU W W.heap.size A n c M/\n+2<=Rows.uptoBulk y.1/\Stays enc W 25 cs y.1 y.2:=by
 obtain ⟨y0,y1,n,rfl,hl,h0,h1⟩:=trod_struct2 Tryz.underlying25 hd
 rw [cInt] at hl
 obtain ⟨c0,c1,rfl⟩:=two_cells hl
 have h0':DataW.trod enc Tryz.prog W 0 (fun _=>true) true n 4 [c0]=some y0:=by simpa [cBool] using h0
 have h1':DataW.trod enc Tryz.prog W 0 (fun _=>true) true n 23 [c1]=some y1:=by simpa [cNat] using h1
 obtain ⟨b,e,rfl⟩:=DataW.trod_bool Tryz.underlying4 h0'
 obtain ⟨A,m,c,L,e1,hR,hm,hS⟩:=open_nat h1'
 simp at e e1
 subst e e1
 refine ⟨b,A,m,c,_,rfl,hR,?_,fun W' sp hB hsp=>?_⟩
 ·have h2:=bulk_one y1.1
  simp only [Rows.uptoBulk,Rows.uptoBulkAll]
  omega
 obtain ⟨k,hk⟩:=hS W' sp hB (fun p hp=>hsp p (by simp [hp]))
 refine ⟨k+1+1,?_⟩
 have ht:=trod_struct2_mk (enc:=enc) (w:=W') (base:=0) (spare:=sp) (held:=true) (n:=k+1) (cs:=[.bool b,.slice A m c]) (y0:=(.lit (.bool b),[])) (y1:=y1) Tryz.underlying25 (by simp [cInt])
  (by simp [cBool,DataW.trod,Tryz.underlying4]) (by simpa [cNat] using DataW.trod_le (Nat.le_succ k) hk)
 exact ht
theorem open_rat4 {fuel:Nat}{cs:List Value}{y:DataW H × List MemPlace}(hd:DataW.trod enc Tryz.prog W 0 (fun _=>true) true fuel 47 cs=some y) :
  ∃ (s:Bool) (A:Option Addr) (n c:Nat) (M:List Nat) (s':Bool) (A':Option Addr) (n' c':Nat) (M':List Nat),cs=[.bool s,.slice A n c,.bool s',.slice A' n' c']/\RdU W W.heap.size A n c M/\RdU W W.heap.size A' n' c' M'/\n+n'+5<=Rows.uptoBulk y.1/\Stays enc W 47 cs y.1 y.2:=by
 obtain ⟨y0,y1,n,rfl,hl,h0,h1⟩:=trod_struct2 Tryz.underlying47 hd
 rw [cRat] at hl
 obtain ⟨c0,c1,c2,c3,rfl⟩:=four_cells hl
 have h0':DataW.trod enc Tryz.prog W 0 (fun _=>true) true n 25 [c0,c1]=some y0:=by simpa [cInt] using h0
 have h1':DataW.trod enc Tryz.prog W 0 (fun _=>true) true n 25 [c2,c3]=some y1:=by simpa [cInt] using h1
 obtain ⟨s,A,m,c,M,e,hR,hm,hS⟩:=open_int4 h0'
 obtain ⟨s',A',m',c',M',e',hR',hm',hS'⟩:=open_int4 h1'
 simp at e e'
 obtain ⟨rfl,rfl⟩:=e
 obtain ⟨rfl,rfl⟩:=e'
 refine ⟨s,A,m,c,M,s',A',m',c',M',rfl,hR,hR',?_,fun W' sp hB hsp=>?_⟩
 ·simp only [Rows.uptoBulk,Rows.uptoBulkAll]
  omega
 obtain ⟨k,hk⟩:=hS W' sp hB (fun p hp=>hsp p (by simp [hp]))
 obtain ⟨k',hk'⟩:=hS' W' sp hB (fun p hp=>hsp p (by simp [hp]))
 refine ⟨max k k'+1,?_⟩
 exact trod_struct2_mk (enc:=enc) (w:=W') (base:=0) (spare:=sp) (held:=true) (n:=max k k') (cs:=[.bool s,.slice A m c,.bool s',.slice A' m' c']) (y0:=y0) (y1:=y1) Tryz.underlying47 (by simp [cRat])
  (by simpa [cInt] using DataW.trod_le (Nat.le_max_left k k') hk) (by simpa [cInt] using DataW.trod_le (Nat.le_max_right k k') hk')
theorem cells_four {w:World}{a:Addr}{x y z u:Value}(h:w.cells? 0 a 4=some [x,y,z,u]):w.cell? a=some x/\w.cell? (a.add 1)=some y/\w.cell? (a.add 2)=some z/\w.cell? (a.add 3)=some u:=by
 obtain ⟨_,_,h3⟩:=World.cells?_some h
 have h0:=h3 0 (by omega)
 have h1:=h3 1 (by omega)
 have h2:=h3 2 (by omega)
 have h4:=h3 3 (by omega)
 simp at h0 h1 h2 h4
 refine ⟨?_,h1,h2,h4⟩
 have e:a.add 0=a:=by unfold Addr.add;simp
 rwa [e] at h0
theorem sum_five (l:List Nat)(f:Nat->Nat):(l.map fun i=>f i+5).sum=(l.map f).sum+5*l.length:=by
 induction l with
 | nil=>rfl
 | cons x l ih=>simp only [List.map_cons,List.sum_cons,ih,List.length_cons];omega
theorem open_qpoly {fuel:Nat}{cs:List Value}{y:DataW H × List MemPlace}(hd:DataW.trod enc Tryz.prog W 0 (fun _=>true) true fuel 73 cs=some y) :
  ∃ (A:Option Addr) (n c:Nat) (R:List RawQ),cs=[.slice A n c]/\RdRQ W W.heap.size A n c R/\(A=none->n=0/\c=0)/\5*n+rsz R<=Rows.uptoBulk y.1/\Stays enc W 73 cs y.1 y.2:=by
 have ht:=Tryz.underlying73
 rcases Go.Deep.open_slice ht hd with ⟨rfl,rfl⟩ | ⟨a,len,cap,m,n,D,Pl,rfl,hb,hl,hm,hmm,rfl,hx⟩
 ·exact ⟨none,0,0,[],rfl,⟨rfl,nR,nZ,fun j r hr=>by simp at hr⟩,fun _=>⟨rfl,rfl⟩,by simp [rsz],fun W' sp _ _=>⟨1,by simp [DataW.trod,ht]⟩⟩
 ·simp only [if_true] at hmm
  subst hmm
  rw [cRat] at hx
  obtain ⟨f,hf⟩:=Go.Deep.choose_lt (α:=(Bool × Option Addr × Nat × Nat × List Nat) × (Bool × Option Addr × Nat × Nat × List Nat)) (p:=fun i r=>W.cells? 0 (a.add (i*4)) 4=some [.bool r.1.1,.slice r.1.2.1 r.1.2.2.1 r.1.2.2.2.1,.bool r.2.1,.slice r.2.2.1 r.2.2.2.1 r.2.2.2.2.1]/\RdU W W.heap.size r.1.2.1 r.1.2.2.1 r.1.2.2.2.1 r.1.2.2.2.2/\RdU W W.heap.size r.2.2.1 r.2.2.2.1 r.2.2.2.2.1 r.2.2.2.2.2/\r.1.2.2.1+r.2.2.2.1+5<=Rows.uptoBulk (D i)/\Stays enc W 47 [.bool r.1.1,.slice r.1.2.1 r.1.2.2.1 r.1.2.2.2.1,.bool r.2.1,.slice r.2.2.1 r.2.2.2.1 r.2.2.2.2.1] (D i) (Pl i)) (fun i hi=>by
   obtain ⟨cs',h1,h2⟩:=hx i hi
   obtain ⟨s,A,k,c,M,s',A',k',c',M',rfl,h3,h4,h5,h6⟩:=open_rat4 h2
   exact ⟨((s,A,k,c,M),(s',A',k',c',M')),h1,h3,h4,h5,h6⟩)
  refine ⟨some a,len,m,(List.range len).map fun i=>(((f i).1.1,(f i).1.2.2.2.2),((f i).2.1,(f i).2.2.2.2.2)),rfl,⟨by simp,hl,hm,fun j r hr=>?_⟩,(fun e=>by cases e),?_,?_⟩
  ·have hj:j < len:=by
    rcases Nat.lt_or_ge j len with h3 | h3
    ·exact h3
    ·rw [gN (by simpa using h3)] at hr;cases hr
   rw [List.getElem?_map,List.getElem?_range hj] at hr
   simp at hr
   subst hr
   obtain ⟨h1,h2,h3,_,_⟩:=hf j (by omega)
   obtain ⟨k0,k1,k2,k3⟩:=cells_four h1
   have hbl:=cell_in k0
   rw [block_add] at hbl
   exact ⟨a,_,_,_,_,_,_,rfl,hbl,k0,by rw [<- k1];congr 1,by rw [<- k2];congr 1,by rw [<- k3];congr 1,h2,h3⟩
  ·have h:=bulk_sum (H:=H) (D:=D) (k:=fun i=>(f i).1.2.2.1+(f i).2.2.2.1+5) (List.range len) (fun i hi=>(hf i (by have:=List.mem_range.1 hi;omega)).2.2.2.1)
   rw [sum_five (List.range len) (fun i=>(f i).1.2.2.1+(f i).2.2.2.1),List.length_range] at h
   have e:rsz ((List.range len).map fun i=>(((f i).1.1,(f i).1.2.2.2.2),((f i).2.1,(f i).2.2.2.2.2)))=((List.range len).map fun i=>(f i).1.2.2.1+(f i).2.2.2.1).sum:=by
    unfold rsz
    rw [List.map_map]
    congr 1
    refine List.map_congr_left fun i hi=>?_
    obtain ⟨_,h2,h3,_,_⟩:=hf i (by have:=List.mem_range.1 hi;omega)
    show (f i).1.2.2.2.2.length+(f i).2.2.2.2.2.length=_
    rw [h2.len,h3.len]
   rw [e]
   simp only [Rows.uptoBulk]
   omega
  ·refine stays_slice ht (by rw [cRat];omega) hl hm fun i hi=>?_
   rw [cRat]
   exact ⟨_,(hf i hi).1,(hf i hi).2.2.2.2⟩
end
theorem RdRp.wide {w:World}{B N K N' K':Nat}{A:Option Addr}{n c:Nat}{RR:List (List RawQ)}(h:RdRp w B N K A n c RR)(hN:N<=N')(hK:K<=K'):RdRp w B N' K' A n c RR :=
 ⟨h.len,h.le,h.mx,fun j R hj=>by
  obtain ⟨ad,A1,n1,c1,h1,h2,h3,h4,h5,h6⟩:=h.at_ j R hj
  exact ⟨ad,A1,n1,c1,h1,h2,h3,h4,nT h5 hK,nT h6 hN⟩⟩
theorem RdRpp.wide {w:World}{B N K J N' K' J':Nat}{A:Option Addr}{n c:Nat}{PP:List (List (List RawQ))}(h:RdRpp w B N K J A n c PP)(hN:N<=N')(hK:K<=K')(hJ:J<=J'):RdRpp w B N' K' J' A n c PP :=
 ⟨h.len,h.le,h.mx,fun j R hj=>by
  obtain ⟨ad,A1,n1,c1,h1,h2,h3,h4,h5⟩:=h.at_ j R hj
  exact ⟨ad,A1,n1,c1,h1,h2,h3,h4.wide hN hK,nT h5 hJ⟩⟩
section
variable {H:Type}{enc:TypeId × Value->H}{W:World}
theorem cPol:Tryz.prog.cellsOf 73=1:=by kernel_rfl
theorem cPols:Tryz.prog.cellsOf 30=1:=by kernel_rfl
theorem cell_one {a:Addr}{v:Value}{i:Nat}(h1:W.cells? 0 (a.add (i*1)) 1=some [v]):W.cell? (a.add i)=some v:=by
 obtain ⟨_,_,hc⟩:=World.cells?_some h1
 have h0:=hc 0 (by omega)
 simp at h0
 have e:(a.add i).add 0=a.add i:=by unfold Addr.add;simp
 rwa [e] at h0
theorem open_prow {fuel:Nat}{cs:List Value}{y:DataW H × List MemPlace}(hd:DataW.trod enc Tryz.prog W 0 (fun _=>true) true fuel 30 cs=some y) :
  ∃ (A:Option Addr) (n c:Nat) (RR:List (List RawQ)),cs=[.slice A n c]/\RdRp W W.heap.size (Rows.uptoBulk y.1) (Rows.uptoBulk y.1) A n c RR/\n<=Rows.uptoBulk y.1/\Stays enc W 30 cs y.1 y.2:=by
 have ht:=Tryz.underlying30
 rcases Go.Deep.open_slice ht hd with ⟨rfl,rfl⟩ | ⟨a,len,cap,m,n,D,Pl,rfl,hb,hl,hm,hmm,rfl,hx⟩
 ·exact ⟨none,0,0,[],rfl,⟨rfl,nR,nZ,fun j r hr=>by simp at hr⟩,nZ,fun W' sp _ _=>⟨1,by simp [DataW.trod,ht]⟩⟩
 ·simp only [if_true] at hmm
  subst hmm
  rw [cPol] at hx
  obtain ⟨f,hf⟩:=Go.Deep.choose_lt (α:=Option Addr × Nat × Nat × List RawQ) (p:=fun i r=>W.cells? 0 (a.add (i*1)) 1=some [.slice r.1 r.2.1 r.2.2.1]/\RdRQ W W.heap.size r.1 r.2.1 r.2.2.1 r.2.2.2/\5*r.2.1+rsz r.2.2.2<=Rows.uptoBulk (D i)/\1<=Rows.uptoBulk (D i)/\Stays enc W 73 [.slice r.1 r.2.1 r.2.2.1] (D i) (Pl i)) (fun i hi=>by
   obtain ⟨cs',h1,h2⟩:=hx i hi
   obtain ⟨A,k,c,R,rfl,h3,_,h5,h6⟩:=open_qpoly h2
   exact ⟨(A,k,c,R),h1,h3,h5,bulk_one _,h6⟩)
  refine ⟨some a,len,m,(List.range len).map fun i=>(f i).2.2.2,rfl,⟨by simp,hl,hm,fun j r hr=>?_⟩,?_,?_⟩
  ·have hj:j < len:=by
    rcases Nat.lt_or_ge j len with h3 | h3
    ·exact h3
    ·rw [gN (by simpa using h3)] at hr;cases hr
   rw [List.getElem?_map,List.getElem?_range hj] at hr
   simp at hr
   subst hr
   obtain ⟨h1,h2,h3,_,_⟩:=hf j (by omega)
   have k0:=cell_one h1
   have hbl:=cell_in k0
   rw [block_add] at hbl
   have hbe:=bulk_elem (D:=D) (l:=[]) hj
   exact ⟨a,_,_,_,rfl,hbl,k0,h2,nT (by omega) (bulk_elem hj),nT (by omega) (bulk_elem hj)⟩
  ·have h:=bulk_many (H:=H) (D:=D) (k:=1) (List.range len) (fun i hi=>(hf i (by have:=List.mem_range.1 hi;omega)).2.2.2.1)
   simp only [Rows.uptoBulk,List.length_range] at h ⊢
   omega
  ·refine stays_slice ht (by rw [cPol];omega) hl hm fun i hi=>?_
   rw [cPol]
   exact ⟨_,(hf i hi).1,(hf i hi).2.2.2.2⟩
theorem open_prows {fuel:Nat}{cs:List Value}{y:DataW H × List MemPlace}(hd:DataW.trod enc Tryz.prog W 0 (fun _=>true) true fuel 45 cs=some y) :
  ∃ (A:Option Addr) (n c:Nat) (PP:List (List (List RawQ))),cs=[.slice A n c]/\RdRpp W W.heap.size (Rows.uptoBulk y.1) (Rows.uptoBulk y.1) (Rows.uptoBulk y.1) A n c PP/\n<=Rows.uptoBulk y.1/\Stays enc W 45 cs y.1 y.2:=by
 have ht:=Tryz.underlying45
 rcases Go.Deep.open_slice ht hd with ⟨rfl,rfl⟩ | ⟨a,len,cap,m,n,D,Pl,rfl,hb,hl,hm,hmm,rfl,hx⟩
 ·exact ⟨none,0,0,[],rfl,⟨rfl,nR,nZ,fun j r hr=>by simp at hr⟩,nZ,fun W' sp _ _=>⟨1,by simp [DataW.trod,ht]⟩⟩
 ·simp only [if_true] at hmm
  subst hmm
  rw [cPols] at hx
  obtain ⟨f,hf⟩:=Go.Deep.choose_lt (α:=Option Addr × Nat × Nat × List (List RawQ)) (p:=fun i r=>W.cells? 0 (a.add (i*1)) 1=some [.slice r.1 r.2.1 r.2.2.1]/\RdRp W W.heap.size (Rows.uptoBulk (D i)) (Rows.uptoBulk (D i)) r.1 r.2.1 r.2.2.1 r.2.2.2/\r.2.1<=Rows.uptoBulk (D i)/\1<=Rows.uptoBulk (D i)/\Stays enc W 30 [.slice r.1 r.2.1 r.2.2.1] (D i) (Pl i)) (fun i hi=>by
   obtain ⟨cs',h1,h2⟩:=hx i hi
   obtain ⟨A,k,c,R,rfl,h3,h5,h6⟩:=open_prow h2
   exact ⟨(A,k,c,R),h1,h3,h5,bulk_one _,h6⟩)
  refine ⟨some a,len,m,(List.range len).map fun i=>(f i).2.2.2,rfl,⟨by simp,hl,hm,fun j r hr=>?_⟩,?_,?_⟩
  ·have hj:j < len:=by
    rcases Nat.lt_or_ge j len with h3 | h3
    ·exact h3
    ·rw [gN (by simpa using h3)] at hr;cases hr
   rw [List.getElem?_map,List.getElem?_range hj] at hr
   simp at hr
   subst hr
   obtain ⟨h1,h2,h3,_,_⟩:=hf j (by omega)
   have k0:=cell_one h1
   have hbl:=cell_in k0
   rw [block_add] at hbl
   exact ⟨a,_,_,_,rfl,hbl,k0,h2.wide (bulk_elem hj) (bulk_elem hj),nT h3 (bulk_elem hj)⟩
  ·have h:=bulk_many (H:=H) (D:=D) (k:=1) (List.range len) (fun i hi=>(hf i (by have:=List.mem_range.1 hi;omega)).2.2.2.1)
   simp only [Rows.uptoBulk,List.length_range] at h ⊢
   omega
  ·refine stays_slice ht (by rw [cPols];omega) hl hm fun i hi=>?_
   rw [cPols]
   exact ⟨_,(hf i hi).1,(hf i hi).2.2.2.2⟩
theorem open_Tab {r:Reach}{b0:Nat}{v:Value}{d:DataW H}{ps:List MemPlace}(hval:Value.okWide Tryz.prog W r b0 45 v)(hd:DataW.Trod enc Tryz.prog W 0 (fun _=>true) true 45 v d ps) :
  ∃ (A:Option Addr) (n c:Nat) (PP:List (List (List RawQ))),v=.slice A n c/\RdRpp W W.heap.size (Rows.uptoBulk d) (Rows.uptoBulk d) (Rows.uptoBulk d) A n c PP/\n<=Rows.uptoBulk d /\
   ∀ (W':World) (sp:Nat->Bool),Below W.heap.size W W'->(∀ p ∈ ps,sp p.block=true)->DataW.Trod enc Tryz.prog W' 0 sp true 45 v d ps:=by
 obtain ⟨a,len,cap,rfl⟩:=okWide_slice Tryz.underlying45 hval
 obtain ⟨fuel,hf⟩:=hd
 obtain ⟨A,n,c,R,e,hR,hn,hS⟩:=open_prows hf
 simp [Value.cells] at e
 obtain ⟨rfl,rfl,rfl⟩:=e
 exact ⟨_,_,_,R,rfl,hR,hn,hS⟩
end
end Go.Proofs.YtjnklbfhelbjgaaGreat
