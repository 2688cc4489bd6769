/- Sc25. -/
import Derived.Test.YtjnklbfhelbjgaaGreatSc24
import Derived.Deep.QuietTactic
import Derived.BigQuiet
import Derived.Test.YtjnklbfhelbjgaaGreatSc00
set_option maxRecDepth 100000
set_option maxHeartbeats 32000000
set_option linter.all false
namespace Go.Proofs.YtjnklbfhelbjgaaGreat
open Go.RowKit Go.IntWalk
attribute [local go_sem ↓] Go.wp_at_zero Go.wp_at_succ
theorem deg_any {A:Option Addr}{n c:Nat}{w:World}(hn:n<=1048576):Calls Tryz.prog 109 #[.slice A n c] w (fun e w'=>e=.returned (.int .i64 ((n:Int)-1))/\w'=w):=by
 go_enter Tryz.func109,Tryz.ntmps109
 go_wp2
 go_ret
 exact ⟨rfl,rfl⟩
theorem below_drawn (w:World)(d:Nat):Below w.heap.size w (w.drewN d):=by
 induction d with
 | zero=>exact bR
 | succ d ih=>exact ih.drew
def RetLs (r c:Int)(ok:Bool)(w:World)(e:Ending)(w':World):Prop:=e=.returned (.tuple #[.int .i64 r,.int .i64 c,.bool ok])/\Below w.heap.size w w'
theorem least_one {b gw:Nat}{M:M2}{w:World}(h:Wk w b gw M)(ha:M.a.length=2)(hb:M.b.length=0)(hc:M.c.length=0)(hd:M.d.length=2) :
  Calls Tryz.prog 202 #[.pointer (some ⟨gw,0,none⟩),.int .i64 0] w (RetLs 0 0 true w):=by
 obtain ⟨t,h1,_,gr,cr,g0,c0,g1,c1,⟨xa,xn,xc⟩,⟨ya,yn,yc⟩,⟨za,zn,zc⟩,⟨ua,un,uc⟩,h⟩:=h
 obtain rfl:xn=2:=by rw [<- ha];exact h.ea.len.symm
 obtain rfl:yn=0:=by rw [<- hb];exact h.eb.len.symm
 obtain rfl:zn=0:=by rw [<- hc];exact h.ec.len.symm
 obtain rfl:un=2:=by rw [<- hd];exact h.ed.len.symm
 have k0:=h1.cell (i:=0) rfl
 have k1:=h.hd.cell (i:=0) rfl
 have k2:=h.hd.cell (i:=1) rfl
 have k3:=h.rw.cell (i:=0) rfl
 have k4:=h.rw.cell (i:=1) rfl
 have k5:w.cell? ⟨g0,0,none⟩=some (.slice xa 2 xc):=h.r0.cell rfl
 have k6:w.cell? ⟨g0,1,none⟩=some (.slice ya 0 yc):=h.r0.cell rfl
 have k7:w.cell? ⟨g1,0,none⟩=some (.slice za 0 zc):=h.r1.cell rfl
 have k8:w.cell? ⟨g1,1,none⟩=some (.slice ua 2 uc):=h.r1.cell rfl
 clear h1 h ha hb hc hd
 go_enter Tryz.func202,Tryz.ntmps202
 go_wp2_with fail
 refine wp_loop_rounds 3 ?_
 rw [rounds_succ]
 go_wp2_with fail
 refine wp_loop_rounds 3 ?_
 rw [rounds_succ]
 go_upto_region 9 with fail
 go_quiet ((first | (go_at_call 109;exact (deg_any (by decide)).mono (fun _ _ h=>⟨h.1,_,h.2⟩))))
 go_wp2_with fail
 rw [rounds_succ]
 go_upto_region 9 with fail
 go_quiet ((first | (go_at_call 109;exact (deg_any (by decide)).mono (fun _ _ h=>⟨h.1,_,h.2⟩))))
 go_wp2_with fail
 rw [rounds_succ]
 go_wp2_with fail
 rw [rounds_succ]
 go_wp2_with fail
 refine wp_loop_rounds 3 ?_
 rw [rounds_succ]
 go_upto_region 9 with fail
 go_quiet ((first | (go_at_call 109;exact (deg_any (by decide)).mono (fun _ _ h=>⟨h.1,_,h.2⟩))))
 go_wp2_with fail
 rw [rounds_succ]
 go_upto_region 9 with fail
 go_quiet ((first | (go_at_call 109;exact (deg_any (by decide)).mono (fun _ _ h=>⟨h.1,_,h.2⟩))))
 go_wp2_with fail
 rw [rounds_succ]
 go_wp2_with fail
 rw [rounds_succ]
 go_wp2
 go_ret3
 exact ⟨rfl,below_drawn _ _⟩
theorem least_two {b gw:Nat}{M:M2}{w:World}(h:Wk w b gw M)(ha:M.a.length=2)(hb:M.b.length=1)(hc:M.c.length=0)(hd:M.d.length=2) :
  Calls Tryz.prog 202 #[.pointer (some ⟨gw,0,none⟩),.int .i64 0] w (RetLs 0 1 true w):=by
 obtain ⟨t,h1,_,gr,cr,g0,c0,g1,c1,⟨xa,xn,xc⟩,⟨ya,yn,yc⟩,⟨za,zn,zc⟩,⟨ua,un,uc⟩,h⟩:=h
 obtain rfl:xn=2:=by rw [<- ha];exact h.ea.len.symm
 obtain rfl:yn=1:=by rw [<- hb];exact h.eb.len.symm
 obtain rfl:zn=0:=by rw [<- hc];exact h.ec.len.symm
 obtain rfl:un=2:=by rw [<- hd];exact h.ed.len.symm
 have k0:=h1.cell (i:=0) rfl
 have k1:=h.hd.cell (i:=0) rfl
 have k2:=h.hd.cell (i:=1) rfl
 have k3:=h.rw.cell (i:=0) rfl
 have k4:=h.rw.cell (i:=1) rfl
 have k5:w.cell? ⟨g0,0,none⟩=some (.slice xa 2 xc):=h.r0.cell rfl
 have k6:w.cell? ⟨g0,1,none⟩=some (.slice ya 1 yc):=h.r0.cell rfl
 have k7:w.cell? ⟨g1,0,none⟩=some (.slice za 0 zc):=h.r1.cell rfl
 have k8:w.cell? ⟨g1,1,none⟩=some (.slice ua 2 uc):=h.r1.cell rfl
 clear h1 h ha hb hc hd
 go_enter Tryz.func202,Tryz.ntmps202
 go_wp2_with fail
 refine wp_loop_rounds 3 ?_
 rw [rounds_succ]
 go_wp2_with fail
 refine wp_loop_rounds 3 ?_
 rw [rounds_succ]
 go_upto_region 9 with fail
 go_quiet ((first | (go_at_call 109;exact (deg_any (by decide)).mono (fun _ _ h=>⟨h.1,_,h.2⟩))))
 go_wp2_with fail
 rw [rounds_succ]
 go_upto_region 9 with fail
 go_quiet ((first | (go_at_call 109;exact (deg_any (by decide)).mono (fun _ _ h=>⟨h.1,_,h.2⟩))))
 go_wp2_with fail
 rw [rounds_succ]
 go_wp2_with fail
 rw [rounds_succ]
 go_wp2_with fail
 refine wp_loop_rounds 3 ?_
 rw [rounds_succ]
 go_upto_region 9 with fail
 go_quiet ((first | (go_at_call 109;exact (deg_any (by decide)).mono (fun _ _ h=>⟨h.1,_,h.2⟩))))
 go_wp2_with fail
 rw [rounds_succ]
 go_upto_region 9 with fail
 go_quiet ((first | (go_at_call 109;exact (deg_any (by decide)).mono (fun _ _ h=>⟨h.1,_,h.2⟩))))
 go_wp2_with fail
 rw [rounds_succ]
 go_wp2_with fail
 rw [rounds_succ]
 go_wp2
 go_ret3
 exact ⟨rfl,below_drawn _ _⟩
theorem least_three {b gw:Nat}{M:M2}{w:World}(h:Wk w b gw M)(hp:0 < M.d.length/\M.d.length<=16) :
  Calls Tryz.prog 202 #[.pointer (some ⟨gw,0,none⟩),.int .i64 1] w (RetLs 1 1 true w):=by
 obtain ⟨t,h1,_,gr,cr,g0,c0,g1,c1,⟨xa,xn,xc⟩,⟨ya,yn,yc⟩,⟨za,zn,zc⟩,⟨ua,un,uc⟩,h⟩:=h
 have hu:(0:Int) < (un:Int):=by have:=h.ed.len;simp only at this;omega
 have hu2:0 < un:=by omega
 have hu3:un<=16:=by have:=h.ed.len;simp only at this;omega
 have k0:=h1.cell (i:=0) rfl
 have k1:=h.hd.cell (i:=0) rfl
 have k2:=h.hd.cell (i:=1) rfl
 have k3:=h.rw.cell (i:=0) rfl
 have k4:=h.rw.cell (i:=1) rfl
 have k5:w.cell? ⟨g0,0,none⟩=some (.slice xa xn xc):=h.r0.cell rfl
 have k6:w.cell? ⟨g0,1,none⟩=some (.slice ya yn yc):=h.r0.cell rfl
 have k7:w.cell? ⟨g1,0,none⟩=some (.slice za zn zc):=h.r1.cell rfl
 have k8:w.cell? ⟨g1,1,none⟩=some (.slice ua un uc):=h.r1.cell rfl
 clear h1 h  hp
 go_enter Tryz.func202,Tryz.ntmps202
 go_wp2_with fail
 refine wp_loop_rounds 3 ?_
 rw [rounds_succ]
 go_wp2_with fail
 refine wp_loop_rounds 3 ?_
 rw [rounds_succ]
 go_upto_region 9 with fail
 go_quiet ((first | (go_at_call 109;exact (deg_any (by decide)).mono (fun _ _ h=>⟨h.1,_,h.2⟩))))
 go_wp2_with fail
 rw [rounds_succ]
 go_wp2_with fail
 rw [rounds_succ]
 go_wp2
 go_ret3
 exact ⟨rfl,below_drawn _ _⟩
theorem least_none {b gw:Nat}{M:M2}{w:World}(h:Wk w b gw M)  :
  Calls Tryz.prog 202 #[.pointer (some ⟨gw,0,none⟩),.int .i64 2] w (RetLs 0 0 false w):=by
 obtain ⟨t,h1,_,gr,cr,g0,c0,g1,c1,⟨xa,xn,xc⟩,⟨ya,yn,yc⟩,⟨za,zn,zc⟩,⟨ua,un,uc⟩,h⟩:=h
 have k0:=h1.cell (i:=0) rfl
 have k1:=h.hd.cell (i:=0) rfl
 have k2:=h.hd.cell (i:=1) rfl
 have k3:=h.rw.cell (i:=0) rfl
 have k4:=h.rw.cell (i:=1) rfl
 have k5:w.cell? ⟨g0,0,none⟩=some (.slice xa xn xc):=h.r0.cell rfl
 have k6:w.cell? ⟨g0,1,none⟩=some (.slice ya yn yc):=h.r0.cell rfl
 have k7:w.cell? ⟨g1,0,none⟩=some (.slice za zn zc):=h.r1.cell rfl
 have k8:w.cell? ⟨g1,1,none⟩=some (.slice ua un uc):=h.r1.cell rfl
 clear h1 h
 go_enter Tryz.func202,Tryz.ntmps202
 go_wp2_with fail
 refine wp_loop_rounds 3 ?_
 rw [rounds_succ]
 go_wp2
 go_ret3
 exact ⟨rfl,bR⟩
end Go.Proofs.YtjnklbfhelbjgaaGreat
