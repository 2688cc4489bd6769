/- modpoly's laws: the reference's normal form, what is told. -/
import Derived.Test.YtmgacikdgbedfaaGreatDoorF10
import Derived.Test.YtmgacikdgbedfaaGreatDoorPm5
import Derived.Test.YtmgacikdgbedfaaGreatDoorNt4
import Derived.RangeFuncCalls
import Derived.Deep.RegionHeld
import Derived.OrdersIn
import Derived.Test.YtmgacikdgbedfaaGreatDoorM1
import Derived.RangeFuncNested
import Derived.RangeFuncBound
import Derived.RangeFuncLeaves
import Derived.OwnWalkIn
import Derived.TacticsInMore
import Derived.LoopNIn
import Derived.LoopIn
import Derived.Shelf.Abstract
import Derived.Deep.RegionWith
namespace Go.Proofs.YtmgacikdgbedfaaGreatDoor
open Go.RowKit Go.IntWalk
attribute [local go_sem ↓] Go.wp_at_zero Go.wp_at_succ

theorem ow_po {w : World} {b n c : Nat} {A : Option Addr} {L : List Nat} (h : OwU w b A n c L) : Po w b A n c L := by
  have hl := h.len
  rcases h.own.2 with ⟨h1, h2⟩ | ⟨g, cap, cur, h1, h2, h3, h4, h5, h6, h7⟩
  · injection h1 with h1 h1' h1''
    exact ⟨hl, by omega, by rw [h1'']; exact Nat.zero_le _, h.wd, .inl h2⟩
  · injection h1 with h1 h1' h1''
    subst h1''
    exact ⟨hl, h4, h5, h.wd, .inr ⟨g, cur, h1, h2, h3, by omega, by simpa using h7⟩⟩
/-- The numbers' rests. -/
def md (p : Nat) (L : List Nat) : List Nat := L.map (· % p)
theorem md_lt {p : Nat} (hp : 0 < p) (L : List Nat) : Lt p (md p L) := fun x hx => by
  obtain ⟨y, _, rfl⟩ := List.mem_map.1 hx
  exact Nat.mod_lt _ hp
theorem md_cg (p : Nat) (L : List Nat) : Pm.Cg p (Pm.co (md p L)) (Pm.co L) := fun k => by
  unfold Pm.co md
  by_cases hk : k < L.length
  · rw [Dg.ld_lt (by simpa using hk), Dg.ld_lt hk, List.getElem_map]
    exact Pm.cz_mod _
  · rw [Dg.ld_ge (by simpa using hk), Dg.ld_ge (by omega)]; exact Pm.cz.refl _
theorem md_more {p k x : Nat} {L : List Nat} (hx : L[k]? = some x) : md p (L.take k) ++ [x % p] = md p (L.take (k + 1)) := by
  unfold md; rw [List.take_add_one, hx]; simp
theorem tm_front {L : List Nat} {n k : Nat} (hn : L.length = n) (hk : k ≤ n) (h : ∀ i, k ≤ i → Dg.ld L i = 0) (ht : k = 0 ∨ Dg.ld L (k - 1) ≠ 0) : k ≤ L.length ∧ Dg.Nm (L.take k) ∧ ∀ i, Dg.ld (L.take k) i = Dg.ld L i := tm_done (by omega) h ht
/-- One word more in a row of one's own. -/
theorem ow_more {w w' : World} {b k c c' y : Nat} {A A' : Option Addr} {L M : List Nat} {z : Int} (h : OwU w b A k c L) (hy : y < 4294967296) (hz : z = y) (hM : L ++ [y] = M) (ho : w'.ownsRow b 24 1 (.slice A' (k + 1) c') (k + 1) (uc L ++ [.int .u32 z])) : OwU w' b A' (k + 1) c' M := by
  subst hM hz
  exact ⟨by rw [show uc (L ++ [y]) = uc L ++ [.int .u32 (y : Int)] by simp [uc]]; exact ho, fun x hx => by
    rcases List.mem_append.1 hx with hx | hx
    · exact h.wd x hx
    · simp at hx; omega⟩
set_option maxRecDepth 100000 in
set_option maxHeartbeats 4000000 in
theorem rNorm_any {A : Option Addr} {n c : Nat} {L : List Nat} {w : World} (p : Nat) (h0 : 0 < p) (hp : p < 4294967296) (h : RdU w w.heap.size A n c L) (hn : n ≤ 17592186044416) :
    Calls Tryz.prog 13 #[.slice A n c, .int .u32 p] w (RetPo p (Pm.co L) w) := by
  have HLEN := Lib.hid h.len
  have HR := Lib.hid h
  obtain ⟨i0, hi0, hz0, hz1, hz2⟩ := info_parts infoU
  have hpn : ¬ p = 0 := by omega
  clear h
  go_enter Tryz.func13, Tryz.ntmps13
  go_wp2_with fail
  go_loopw [5, 10] (fun v kv wr => ∃ (k : Nat) (A0 : Option Addr) (c0 : Nat), kv = .int .i64 k ∧ v = .slice A0 k c0 ∧ k ≤ n ∧ Hid (OwU wr w.heap.size A0 k c0 (md p (L.take k)) ∧ Below w.heap.size w wr)) (fun _ kv _ => n - (intOf kv).toNat)
  case atStart => exact ⟨0, none, 0, rfl, rfl, Nat.zero_le _, Lib.hid ⟨OwU.nil _ _, Below.refl _ _⟩⟩
  case round =>
    obtain ⟨k, A0, c0, rfl, rfl, hk, hI⟩ := hrel
    have HOWN := Lib.hid hI.out.1
    have HB := Lib.hid hI.out.2
    clear hI
    by_cases hkn : k < n
    · obtain ⟨x, hx⟩ : ∃ x, L[k]? = some x := ⟨_, List.getElem?_eq_getElem (by rw [HLEN.out]; exact hkn)⟩
      obtain ⟨hxw, ad, rfl, _, hc⟩ := (HR.out.below HB.out).at_ k x hx
      have hlt : ((k : Int) < n) := by omega
      have HM := Lib.hid (md_more (p := p) hx)
      have hO1 := HOWN.out.own.alloc (.cells #[.int .u32 ((x : Int) % p)] 24)
      go_wp2_with (at_builtin; refine wpList_append_own _ rfl _ _ 23 rfl w.heap.size 24 i0 (.int .u32 0) 1 4 Tryz.underlying23 hi0 hz0 hz1 hz2 rfl (by decide) _ _ _ rfl hO1 ⟨wr.heap.size, 0, none⟩ 1 1 [.int .u32 ((x : Int) % p)] rfl rfl (World.news_of_block (cs := #[.int .u32 ((x : Int) % p)]) (t := 24) (fr := (0, 0)) (heap_alloc_new wr _)) (by simp [Value.oneCell']) (by unfold maxLen; omega) (by omega) (by have := HB.out.size; simp; omega) ?_; intro v' w6 hown' hgrow _)
      have hG : (wr.alloc (.cells #[.int .u32 ((x : Int) % p)] 24)).grownBy w6 (Value.slice A0 k c0).ownBlock := hgrow
      clear hgrow
      obtain ⟨A6, c6, rfl⟩ := row_sl hown'
      have hB1 : Below w.heap.size w (wr.alloc (.cells #[.int .u32 ((x : Int) % p)] 24)) := HB.out.alloc HB.out.size _
      refine ⟨⟨k + 1, A6, c6, by simp, rfl, by omega, Lib.hid ⟨ow_more HOWN.out (Nat.lt_trans (Nat.mod_lt x h0) hp) rfl HM.out hown', hB1.grown hG hB1.size (own_block hO1)⟩⟩, by simp [intOf]; omega⟩
    · obtain rfl : k = n := by omega
      have hmdL : md p (L.take k) = md p L := by rw [List.take_of_length_le (by rw [HLEN.out]; exact Nat.le_refl _)]
      have HOWN' := HOWN.out
      rw [hmdL] at HOWN'
      have HR0 := Lib.hid HOWN'.rd
      have HO := Lib.hid HOWN'
      have hlen := Lib.hid HOWN'.len
      clear HOWN HOWN' hmdL
      go_wp2_with fail
      go_loop [5] (fun a => ∃ j : Nat, j ≤ k ∧ a = .slice A0 j c0 ∧ Hid (∀ i, j ≤ i → Dg.ld (md p L) i = 0)) (fun a => slLen a)
      case atStart => exact ⟨k, Nat.le_refl _, rfl, Lib.hid fun i hi => Dg.ld_ge (by rw [hlen.out]; exact hi)⟩
      case round =>
        obtain ⟨j, hj, rfl, hz⟩ := hrel
        rcases Nat.eq_zero_or_pos j with hj0 | hj0
        · subst hj0
          go_wp2
          go_ret
          exact ⟨A0, 0, c0, _, rfl, (ow_po HO.out).take (Nat.zero_le _), Lib.hid (cut_pn (md_lt h0 L) (md_cg p L) (tm_front hlen.out (by omega) hz.out (.inl rfl))), HB.out⟩
        · obtain ⟨i, rfl⟩ : ∃ i, j = i + 1 := ⟨j - 1, by omega⟩
          obtain ⟨hx, ad, rfl, hb, hc⟩ := HR0.out.at_ i (Dg.ld (md p L) i) (Dg.get_of_ld (by rw [hlen.out]; omega))
          have hmx := HR0.out.mx
          have hle := HR0.out.le
          by_cases hzz : Dg.ld (md p L) i = 0
          · have hc0 : wr.cell? (ad.add i) = some (.int .u32 0) := by rw [hc, hzz]; rfl
            have HZ := Lib.hid hzz
            clear hzz hc
            go_wp2
            go_round
            case rel => exact ⟨i, by omega, rfl, Lib.hid fun q hq => by
              rcases Nat.lt_or_ge i q with h1 | h1
              · exact hz.out q h1
              · rw [show q = i by omega]; exact HZ.out⟩
            case measure => simp [slLen]
          · have hz' : ((Dg.ld (md p L) i : Int) == 0) = false := by simpa using hzz
            have HZ := Lib.hid hzz
            clear hzz
            go_wp2
            go_ret
            exact ⟨_, i + 1, c0, _, rfl, (ow_po HO.out).take hj, Lib.hid (cut_pn (md_lt h0 L) (md_cg p L) (tm_front hlen.out hj hz.out (.inr HZ.out))), HB.out⟩

/-- The modulus, if it is a prime, and the error. -/
def RetGood (p : Nat) (w : World) (e : Ending) (w' : World) : Prop := w = w' ∧ ∃ (q : Nat) (code : Int), e = .returned (.tuple #[.int .u32 q, .int .i64 code]) ∧ Hid ((Nt.Pr p ∧ q = p ∧ code = 0) ∨ (¬ Nt.Pr p ∧ q = 7 ∧ code = 40))
set_option maxHeartbeats 400000 in
theorem good_any (p : Nat) (hp : p < 4294967296) (w : World) : Calls Tryz.prog 5 #[.int .u32 p] w (RetGood p w) := by
  go_enter Tryz.func5, Tryz.ntmps5
  go_wp2_with fail
  refine (refIs_any p rfl hp _).mono ?_
  rintro _ _ ⟨rfl, rfl⟩
  by_cases hpr : Nt.Pr p
  · rw [Nt.isP_iff.2 hpr]
    have HP := Lib.hid hpr
    clear hpr
    go_wp2
    go_ret2
    exact ⟨rfl, p, 0, rfl, Lib.hid (.inl ⟨HP.out, rfl, rfl⟩)⟩
  · rw [Nt.isP_false_iff.2 hpr]
    have HP := Lib.hid hpr
    clear hpr
    go_wp2
    go_ret2
    exact ⟨rfl, 7, 40, rfl, Lib.hid (.inr ⟨HP.out, rfl, rfl⟩)⟩
/-- What is told: an error. -/
theorem ltold_err {v : Value} (z : Int) (hz : z ≠ 0) (w : World) : Calls Tryz.prog 15 #[.slice none 0 0, .int .i64 z, v, .int .i64 z] w (RetBD true w) := by
  have hz' : (z != 0) = true := by simpa using hz
  have hzz : (z == z) = true := by simp
  go_enter Tryz.func15, Tryz.ntmps15
  go_wp2_with fail
  refine (num_any _ _).mono ?_
  rintro _ _ ⟨y, rfl, hy, rfl⟩
  obtain rfl := hy.out
  go_wp2
  go_ret
  exact ⟨rfl, 0, rfl⟩
/-- What is told: a polynomial. -/
theorem ltold_ok {A A' : Option Addr} {B n n' c c' : Nat} {L L' : List Nat} {w : World} (h : RdU w B A n c L) (h' : RdU w B A' n' c' L') (e : L = L') :
    Calls Tryz.prog 15 #[.slice A n c, .int .i64 0, .slice A' n' c', .int .i64 0] w (RetBD true w) := by
  have hLL : (L == L') = true := by simpa using e
  have HS := Lib.hid (lsame_any h h')
  rw [hLL] at HS
  clear h h' hLL
  go_enter Tryz.func15, Tryz.ntmps15
  go_wp2_with fail
  refine (num_any _ _).mono ?_
  rintro _ _ ⟨y, rfl, hy, rfl⟩
  obtain rfl := hy.out
  go_wp2_with fail
  refine HS.out.mono ?_
  rintro _ _ ⟨rfl, j, rfl⟩
  go_wp2
  go_ret
  exact ⟨rfl, j, rfl⟩
end Go.Proofs.YtmgacikdgbedfaaGreatDoor

/- modpoly: Scale and Shift, the reference's and the program's. -/
namespace Go.Proofs.YtmgacikdgbedfaaGreatDoor
open Go.RowKit Go.IntWalk
attribute [local go_sem ↓] Go.wp_at_zero Go.wp_at_succ

theorem mp_more {f : Nat → Nat} {k x : Nat} {L : List Nat} (hx : L[k]? = some x) : (L.take k).map f ++ [f x] = (L.take (k + 1)).map f := by
  rw [List.take_add_one, hx]; simp
theorem mp_cg {p : Nat} {f : Nat → Nat} {g : Int → Int} (L : List Nat) (hf : ∀ x ∈ L, Pm.cz p (f x : Nat) (g x)) (h0 : g 0 = 0) : Pm.Cg p (Pm.co (L.map f)) (fun k => g (Pm.co L k)) := fun k => by
  unfold Pm.co
  dsimp only
  by_cases hk : k < L.length
  · rw [Dg.ld_lt (by simpa using hk), Dg.ld_lt hk, List.getElem_map]
    exact hf _ (List.getElem_mem hk)
  · rw [Dg.ld_ge (show (L.map f).length ≤ k by simpa using hk), Dg.ld_ge (show L.length ≤ k by omega)]
    show Pm.cz p 0 (g 0)
    rw [h0]; exact Pm.cz.refl _
set_option maxRecDepth 100000 in
set_option maxHeartbeats 4000000 in
theorem rScale_any {A : Option Addr} {n c : Nat} {L : List Nat} {w : World} (a p : Nat) (ha : a < 4294967296) (h0 : 0 < p) (hp : p < 4294967296) (h : RdU w w.heap.size A n c L) (hn : n ≤ 17592186044416) :
    Calls Tryz.prog 40 #[.slice A n c, .int .u32 a, .int .u32 p] w (RetPo p (fun k => (a : Int) * Pm.co L k) w) := by
  have HLEN := Lib.hid h.len
  have HR := Lib.hid h
  obtain ⟨i0, hi0, hz0, hz1, hz2⟩ := info_parts infoU
  clear h
  go_enter Tryz.func40, Tryz.ntmps40
  go_wp2_with fail
  go_loopw [7, 12] (fun v kv wr => ∃ (k : Nat) (A0 : Option Addr) (c0 : Nat), kv = .int .i64 k ∧ v = .slice A0 k c0 ∧ k ≤ n ∧ Hid (OwU wr w.heap.size A0 k c0 ((L.take k).map (fun x => x * a % p)) ∧ Below w.heap.size w wr)) (fun _ kv _ => n - (intOf kv).toNat)
  case atStart => exact ⟨0, none, 0, rfl, rfl, Nat.zero_le _, Lib.hid ⟨OwU.nil _ _, Below.refl _ _⟩⟩
  case round =>
    obtain ⟨k, A0, c0, rfl, rfl, hk, hI⟩ := hrel
    have HOWN := Lib.hid hI.out.1
    have HB := Lib.hid hI.out.2
    clear hI
    by_cases hkn : k < n
    · obtain ⟨x, hx⟩ : ∃ x, L[k]? = some x := ⟨_, List.getElem?_eq_getElem (by rw [HLEN.out]; exact hkn)⟩
      obtain ⟨hxw, ad, rfl, _, hc⟩ := (HR.out.below HB.out).at_ k x hx
      have hlt : ((k : Int) < n) := by omega
      have HM := Lib.hid (mp_more (f := fun x => x * a % p) hx)
      go_wp2_with fail
      refine (refMul_any x a p rfl rfl rfl hxw ha hp h0 _).mono ?_
      rintro _ _ ⟨y, rfl, hy, rfl⟩
      have hO1 := HOWN.out.own.alloc (.cells #[.int .u32 y] 24)
      clear hc
      go_wp2_with (at_builtin; refine wpList_append_own _ rfl _ _ 23 rfl w.heap.size 24 i0 (.int .u32 0) 1 4 Tryz.underlying23 hi0 hz0 hz1 hz2 rfl (by decide) _ _ _ rfl hO1 ⟨wr.heap.size, 0, none⟩ 1 1 [.int .u32 y] rfl rfl (World.news_of_block (cs := #[.int .u32 y]) (t := 24) (fr := (0, 0)) (heap_alloc_new wr _)) (by simp [Value.oneCell']) (by unfold maxLen; omega) (by omega) (by have := HB.out.size; simp; omega) ?_; intro v' w6 hown' hgrow _)
      have hG : (wr.alloc (.cells #[.int .u32 y] 24)).grownBy w6 (Value.slice A0 k c0).ownBlock := hgrow
      clear hgrow
      obtain ⟨A6, c6, rfl⟩ := row_sl hown'
      have hB1 : Below w.heap.size w (wr.alloc (.cells #[.int .u32 y] 24)) := HB.out.alloc HB.out.size _
      exact ⟨⟨k + 1, A6, c6, by simp, rfl, by omega, Lib.hid ⟨ow_more HOWN.out (by rw [hy.out]; exact Nat.lt_trans (Nat.mod_lt _ h0) hp) rfl (by rw [hy.out]; exact HM.out) hown', hB1.grown hG hB1.size (own_block hO1)⟩⟩, by simp [intOf]; omega⟩
    · obtain rfl : k = n := by omega
      have HOWN' := HOWN.out
      rw [List.take_of_length_le (by rw [HLEN.out]; exact Nat.le_refl _)] at HOWN'
      have HR0 := Lib.hid HOWN'.rd
      clear HOWN HOWN'
      go_wp2_with fail
      refine (rNorm_any p h0 hp HR0.out (by omega)).mono ?_
      intro _ w3 h3
      obtain ⟨A3, n3, c3, M3, rfl, hp3, hM3, hb3⟩ := h3.later HB.out
      have HM3 := Lib.hid (pn_cg hM3.out (mp_cg (p := p) (f := fun x => x * a % p) (g := fun z => (a : Int) * z) L (fun x _ => by have := Pm.cz_mod (p := p) (x * a); rw [Nat.mul_comm x a, Int.natCast_mul] at this; rw [Nat.mul_comm x a]; exact this) (by simp)))
      go_wp2
      go_ret
      exact ⟨A3, n3, c3, M3, rfl, hp3, HM3.out, hb3⟩

theorem wide_u32 {q : Nat} (hq : q < 4294967296) : IntKind.u32.wrap (q : Int) = (q : Int) := by simp [IntKind.wrap, IntKind.bits, IntKind.signed]; omega
theorem wide_u64 {a : Nat} (ha : a < 4294967296) : IntKind.u64.wrap (a : Int) = (a : Int) := by rw [IntWalk.u64_in _ (by omega)]
end Go.Proofs.YtmgacikdgbedfaaGreatDoor

/- modpoly: Shift. -/
namespace Pm
open Dg
/-- k places up. -/
def sh (k : Nat) (f : Nat → Int) : Nat → Int := fun j => if j < k then 0 else f (j - k)
theorem sh_cg {p k : Nat} {f g : Nat → Int} (h : Cg p f g) : Cg p (sh k f) (sh k g) := fun j => by
  unfold sh
  by_cases hj : j < k
  · rw [if_pos hj, if_pos hj]; exact cz.refl _
  · rw [if_neg hj, if_neg hj]; exact h _
theorem ld_zeros (k : Nat) (M : List Nat) (j : Nat) : ld (List.replicate k 0 ++ M) j = if j < k then 0 else ld M (j - k) := by
  by_cases hj : j < k
  · rw [if_pos hj, ld_lt (by simp; omega), List.getElem_append_left (by simpa using hj), List.getElem_replicate]
  · rw [if_neg hj]
    by_cases h2 : j - k < M.length
    · rw [ld_lt (by simp; omega), ld_lt h2, List.getElem_append_right (by simp; omega)]
      simp
    · rw [ld_ge (by simp; omega), ld_ge (by omega)]
theorem sh_co (k : Nat) (M : List Nat) : co (List.replicate k 0 ++ M) = sh k (co M) := funext fun j => by
  unfold co sh
  rw [ld_zeros]
  by_cases hj : j < k
  · rw [if_pos hj, if_pos hj]; rfl
  · rw [if_neg hj, if_neg hj]
theorem sh_pn {p k : Nat} {M : List Nat} (h0 : 0 < p) (h : Pn p M) (hl : 0 < M.length) : Pn p (List.replicate k 0 ++ M) := by
  refine pn_of (.inr ?_) fun x hx => ?_
  · rw [ld_zeros, if_neg (by simp; omega)]
    have : (List.replicate k 0 ++ M).length - 1 - k = M.length - 1 := by simp; omega
    rw [this]
    exact nm_top h.1 hl
  · rcases List.mem_append.1 hx with hx | hx
    · rw [List.eq_of_mem_replicate hx]; exact h0
    · exact h.2 x hx
theorem sh_nil (k : Nat) : sh k (co []) = co [] := funext fun j => by
  unfold sh co
  by_cases hj : j < k
  · rw [if_pos hj]; rfl
  · rw [if_neg hj]; rfl
end Pm
namespace Go.Proofs.YtmgacikdgbedfaaGreatDoor
open Go.RowKit Go.IntWalk
attribute [local go_sem ↓] Go.wp_at_zero Go.wp_at_succ

theorem zeros_own {W : World} {b : Nat} (k : Nat) (hk : k ≤ 10000) (hb : b ≤ W.heap.size) : OwU (W.alloc (.cells (madeCells #[.int .u32 0] k) 24)) b (some ⟨W.heap.size, 0, none⟩) k k (List.replicate k 0) := by
  have h := (UB.made W k).own (b := b) (k := k) (fun x hx => by rw [List.eq_of_mem_replicate hx]; omega) hb (by simp) (by simp; unfold maxLen; omega)
  simpa using h
/-- The sources of an appended list. -/
theorem po_src {w w' : World} {b n c : Nat} {ad : Addr} {L : List Nat} (h : Po w b (some ad) n c L) (hb : Below w.heap.size w w') : ∀ (j : Nat) v, (uc L)[j]? = some v → w'.cell? (ad.add j) = some v := by
  intro j v hv
  have hj : j < (uc L).length := by
    rcases Nat.lt_or_ge j (uc L).length with h1 | h1
    · exact h1
    · rw [List.getElem?_eq_none h1] at hv; cases hv
  rw [uc_len] at hj
  obtain ⟨_, ad', e, _, hc⟩ := (h.next hb).rd.at_ j (Dg.ld L j) (Dg.get_of_ld hj)
  injection e with e
  subst e
  rw [uc_at (Dg.get_of_ld hj)] at hv
  injection hv with hv
  rw [← hv]
  exact hc
theorem ow_app {w' : World} {b k n c' : Nat} {A' : Option Addr} {L M : List Nat} (hw : Dg.Wd L) (hw' : Dg.Wd M) (ho : w'.ownsRow b 24 1 (.slice A' (k + n) c') (k + n) (uc L ++ uc M)) : OwU w' b A' (k + n) c' (L ++ M) :=
  ⟨by rw [show uc (L ++ M) = uc L ++ uc M by simp [uc]]; exact ho, fun x hx => by
    rcases List.mem_append.1 hx with hx | hx
    · exact hw x hx
    · exact hw' x hx⟩
end Go.Proofs.YtmgacikdgbedfaaGreatDoor

/- modpoly's laws: Shifts. -/
namespace Go.Proofs.YtmgacikdgbedfaaGreatDoor
open Go.RowKit Go.IntWalk
attribute [local go_sem ↓] Go.wp_at_zero Go.wp_at_succ

/-- nil is nil. -/
def NilOk (A : Option Addr) (n c : Nat) : Prop := A = none → n = 0 ∧ c = 0
/-- The boxed argument. -/
structure BX (w : World) (b : Nat) (a z p : Int) : Prop where
  lt : b < w.heap.size
  c0 : w.cell? ⟨b, 0, none⟩ = some (.int .u32 a)
  c1 : w.cell? ⟨b, 1, none⟩ = some (.int .i64 z)
  c2 : w.cell? ⟨b, 2, none⟩ = some (.int .u32 p)
theorem BX.next {w w' : World} {b : Nat} {a z p : Int} (h : BX w b a z p) (hb : Below w.heap.size w w') : BX w' b a z p :=
  ⟨Nat.lt_of_lt_of_le h.lt hb.size, (hb.cell (p := ⟨b, 0, none⟩) h.lt).trans h.c0, (hb.cell (p := ⟨b, 1, none⟩) h.lt).trans h.c1, (hb.cell (p := ⟨b, 2, none⟩) h.lt).trans h.c2⟩
theorem rd_src {w w' : World} {n c : Nat} {ad : Addr} {L : List Nat} (h : RdU w w.heap.size (some ad) n c L) (hb : Below w.heap.size w w') : ∀ (j : Nat) v, (uc L)[j]? = some v → w'.cell? (ad.add j) = some v := by
  intro j v hv
  have hj : j < (uc L).length := by
    rcases Nat.lt_or_ge j (uc L).length with h1 | h1
    · exact h1
    · rw [List.getElem?_eq_none h1] at hv; cases hv
  rw [uc_len] at hj
  obtain ⟨_, ad', e, _, hc⟩ := (h.next hb).at_ j (Dg.ld L j) (Dg.get_of_ld hj)
  injection e with e
  subst e
  rw [uc_at (Dg.get_of_ld hj)] at hv
  injection hv with hv
  rw [← hv]
  exact hc
theorem pe_same {p : Nat} (h0 : 0 < p) {M M' : List Nat} {f g : Nat → Int} (h : Pm.Pn p M ∧ Pm.Cg p (Pm.co M) f) (h' : Pm.Pn p M' ∧ Pm.Cg p (Pm.co M') g) (e : Pm.Cg p f g) : M = M' :=
  h.1.ext h0 h'.1 ((h.2.trans e).trans h'.2.symm)
theorem make_polys (n : Nat) (hn : n ≤ 17592186044416) (w : World) :
    (Instr.makeSlice 23 (.int .i64 (n : Int)) (.int .i64 (n : Int))).run Tryz.prog w = .ok (.slice (some ⟨w.heap.size, 0, none⟩) n n) (w.alloc (.cells (madeCells #[.int .u32 0] n) 24)) :=
  run_make_row' 23 24 (.int .u32 0) 4 Tryz.underlying23 infoW rfl .i64 .i64 n (by omega) (by omega) w
end Go.Proofs.YtmgacikdgbedfaaGreatDoor

/- Polynomials modulo a prime: values. Nothing of the program. -/
namespace Pm
open Dg

/-- The sum of f i x^i below n. -/
def es (f : Nat → Int) (x : Int) : Nat → Int
  | 0 => 0
  | n + 1 => f 0 + x * es (fun i => f (i + 1)) x n
/-- The value at x. -/
def ev : List Nat → Int → Int
  | [], _ => 0
  | a :: L, x => a + x * ev L x
theorem es_cg {p : Nat} {f g : Nat → Int} (h : Cg p f g) (x : Int) (n : Nat) : cz p (es f x n) (es g x n) := by
  induction n generalizing f g with
  | zero => exact cz.refl _
  | succ n ih => exact (h 0).add ((cz.refl x).mul (ih fun k => h (k + 1)))
theorem es_zero (x : Int) (n : Nat) : es (fun _ => 0) x n = 0 := by
  induction n with
  | zero => rfl
  | succ n ih => rw [es, ih]; simp
theorem es_more {p : Nat} {f : Nat → Int} {n m : Nat} (h : Up p f n) (x : Int) (hm : n ≤ m) : cz p (es f x m) (es f x n) := by
  induction n generalizing f m with
  | zero =>
    have := es_cg (p := p) (f := f) (g := fun _ => 0) (fun k => h k (Nat.zero_le _)) x m
    rw [es_zero] at this
    exact this
  | succ n ih =>
    obtain ⟨m, rfl⟩ : ∃ k, m = k + 1 := ⟨m - 1, by omega⟩
    exact (cz.refl _).add ((cz.refl x).mul (ih (fun k hk => h (k + 1) (by omega)) (by omega)))
theorem es_add (f g : Nat → Int) (x : Int) (n : Nat) : es (fun i => f i + g i) x n = es f x n + es g x n := by
  induction n generalizing f g with
  | zero => rfl
  | succ n ih => rw [es, ih (fun i => f (i + 1)) (fun i => g (i + 1)), es, es]; grind
theorem es_sub (f g : Nat → Int) (x : Int) (n : Nat) : es (fun i => f i - g i) x n = es f x n - es g x n := by
  induction n generalizing f g with
  | zero => rfl
  | succ n ih => rw [es, ih (fun i => f (i + 1)) (fun i => g (i + 1)), es, es]; grind
theorem es_smul (c : Int) (f : Nat → Int) (x : Int) (n : Nat) : es (fun i => c * f i) x n = c * es f x n := by
  induction n generalizing f with
  | zero => simp [es]
  | succ n ih => rw [es, ih (fun i => f (i + 1)), es]; grind
theorem es_co (L : List Nat) (x : Int) {n : Nat} (h : L.length ≤ n) : es (co L) x n = ev L x := by
  induction L generalizing n with
  | nil =>
    have : co [] = fun _ => 0 := funext fun k => by simp [co, ld]
    rw [this, es_zero]; rfl
  | cons a L ih =>
    obtain ⟨m, rfl⟩ : ∃ k, n = k + 1 := ⟨n - 1, by simp at h; omega⟩
    have e1 : (fun i => co (a :: L) (i + 1)) = co L := funext fun i => by simp [co, ld]
    have e2 : co (a :: L) 0 = a := by simp [co, ld]
    rw [es, e1, e2, ih (by simpa using h)]; rfl
/-- The value of what is congruent. -/
theorem ev_cg {p : Nat} {R : List Nat} {f : Nat → Int} {n : Nat} (h : Cg p (co R) f) (hf : Up p f n) (x : Int) : cz p (ev R x) (es f x n) := by
  have e := es_co R x (n := max R.length n) (by omega)
  rw [← e]
  exact (es_cg h x _).trans (es_more hf x (by omega))
theorem es_cv (L : List Nat) (g : Nat → Int) {m : Nat} (hg : ∀ k, m ≤ k → g k = 0) (x : Int) {n : Nat} (h : L.length + m ≤ n) : es (cv (co L) g) x n = ev L x * es g x n := by
  induction L generalizing n with
  | nil =>
    have : cv (co []) g = fun _ => 0 := funext fun k => by
      have e : co [] = fun _ => 0 := funext fun k => by simp [co, ld]
      rw [e, cv_zero_left]
    rw [this, es_zero]; simp [ev]
  | cons a L ih =>
    obtain ⟨q, rfl⟩ : ∃ k, n = k + 1 := ⟨n - 1, by simp at h; omega⟩
    have e1 : cv (co (a :: L)) g = fun k => (a : Int) * g k + (if k = 0 then 0 else cv (co L) g (k - 1)) := funext fun k => by
      have e2 : co (a :: L) = fun k => mono a 0 k + cv (mono 1 1) (co L) k := funext fun k => by
        rw [cv_mono]
        cases k with
        | zero => simp [co, mono, ld]
        | succ k => simp [co, mono, ld]
      rw [e2, cv_add_left, cv_mono, cv_assoc, cv_mono]
      cases k with
      | zero => simp
      | succ k => simp
    have hq : L.length + m ≤ q := by simp at h; omega
    have e3 : es g x (q + 1) = es g x q := by
      have key : ∀ (n : Nat) (g : Nat → Int), g n = 0 → es g x (n + 1) = es g x n := fun n => by
        induction n with
        | zero => intro g hg; simp [es, hg]
        | succ n ih2 => intro g hg; rw [es, ih2 (fun i => g (i + 1)) hg, es]
      exact key q g (hg q (by omega))
    have e4 : es (fun k => if k = 0 then 0 else cv (co L) g (k - 1)) x (q + 1) = x * es (cv (co L) g) x q := by
      rw [es]; simp
    rw [e1, es_add, es_smul, e4, ih hq, e3]
    show (a : Int) * es g x q + x * (ev L x * es g x q) = (a + x * ev L x) * es g x q
    grind
end Pm

/- Polynomials modulo a prime: what is known at enough places is known. Nothing of the program. -/
namespace Pm
open Dg

theorem nt_ev (x : Int) : ∀ (n : Nat) (f : Nat → Int), Nt.ev ((List.range n).map f) x = es f x n
  | 0, _ => rfl
  | n + 1, f => by
    rw [List.range_succ_eq_map, List.map_cons, List.map_map, Nt.ev, es]
    have := nt_ev x n (fun i => f (i + 1))
    rw [← this]
    rfl
/-- A function whose values are nought at more places than it has coefficients is nought. -/
theorem es_roots {p : Nat} (hp : Nt.Pr p) {f : Nat → Int} {R : List Int} (hd : R.Pairwise (fun x y => ¬ (p : Int) ∣ y - x)) : ∀ n, n ≤ R.length → (∀ x ∈ R, cz p (es f x n) 0) → ∀ k, k < n → cz p (f k) 0
  | 0, _, _, k, hk => absurd hk (by omega)
  | n + 1, hn, hr, k, hk => by
    have ht : cz p (f n) 0 := by
      apply Classical.byContradiction
      intro hc
      have hc' : ¬ (p : Int) ∣ f n := fun h => hc (by unfold cz; rwa [Int.sub_zero])
      have := Nt.roots_le hp (f n) hc' n ((List.range n).map f) R (by simp) hd (fun x hx => by
        have h1 := hr x hx
        have h2 : (List.range n).map f ++ [f n] = (List.range (n + 1)).map f := by rw [List.range_succ]; simp
        rw [h2, nt_ev]
        unfold cz at h1
        rwa [Int.sub_zero] at h1)
      omega
    by_cases e : k = n
    · rw [e]; exact ht
    · refine es_roots hp hd n (by omega) (fun x hx => ?_) k (by omega)
      have key : ∀ (n : Nat) (g : Nat → Int), cz p (g n) 0 → cz p (es g x n) (es g x (n + 1)) := fun n => by
        induction n with
        | zero =>
          intro g hg
          simp only [es, Int.mul_zero, Int.add_zero]
          exact hg.symm
        | succ n ih => intro g hg; rw [es, es]; exact (cz.refl _).add ((cz.refl x).mul (ih (fun i => g (i + 1)) hg))
      exact (key n f ht).trans (hr x hx)
/-- Two polynomials with the same values at enough places are the same. -/
theorem interp_unique {p : Nat} (hp : Nt.Pr p) {L M : List Nat} {R : List Int} (hL : Pn p L) (hM : Pn p M) (h1 : L.length ≤ R.length) (h2 : M.length ≤ R.length) (hd : R.Pairwise (fun x y => ¬ (p : Int) ∣ y - x))
    (he : ∀ x ∈ R, cz p (ev L x) (ev M x)) : L = M := by
  refine hL.ext hp.pos hM fun k => ?_
  by_cases hk : k < R.length
  · have h := es_roots hp (f := fun i => co L i - co M i) hd R.length (Nat.le_refl _) (fun x hx => by
      rw [es_sub, es_co L x h1, es_co M x h2]
      have := (he x hx).sub (cz.refl (p := p) (ev M x))
      rwa [Int.sub_self] at this) k hk
    have := h.add (cz.refl (p := p) (co M k))
    rwa [Int.sub_add_cancel, Int.zero_add] at this
  · exact (co_up L k (by omega)).trans (co_up M k (by omega)).symm
end Pm

/- Polynomials modulo a prime: Newton's steps. Nothing of the program. -/
namespace Pm
open Dg

/-- What Newton's steps keep: the nodes so far, the polynomial, the basis. -/
structure Nw (p : Nat) (ns : List (Int × Int)) (O B : List Nat) : Prop where
  lo : O.length ≤ ns.length
  lb : B.length ≤ ns.length + 1
  val : ∀ q ∈ ns, cz p (ev O q.1) q.2
  zero : ∀ q ∈ ns, cz p (ev B q.1) 0
  nz : ∀ z : Int, (∀ q ∈ ns, ¬ (p : Int) ∣ z - q.1) → ¬ (p : Int) ∣ ev B z
theorem Nw.start {p : Nat} (hp : Nt.Pr p) : Nw p [] [] [1] where
  lo := Nat.le_refl _
  lb := Nat.le_refl _
  val := fun _ h => by cases h
  zero := fun _ h => by cases h
  nz := fun z _ h => by
    have h1 : (p : Int) ∣ 1 := by simpa [ev] using h
    have := Int.le_of_dvd (by omega) h1
    have := hp.two_le
    omega
theorem Nw.step {p : Nat} (hp : Nt.Pr p) {ns : List (Int × Int)} {O B O' B' D : List Nat} {x y c : Int} (h : Nw p ns O B)
    (hc : cz p (c * ev B x) (y - ev O x)) (hO : Pn p O') (eO : Cg p (co O') (fun k => co O k + c * co B k))
    (hD : D.length = 2) (eD : ∀ z, cz p (ev D z) (z - x)) (hB : Pn p B') (eB : Cg p (co B') (cv (co B) (co D))) : Nw p (ns ++ [(x, y)]) O' B' := by
  have hOv : ∀ z, cz p (ev O' z) (ev O z + c * ev B z) := fun z => by
    have hu : Up p (fun k => co O k + c * co B k) (ns.length + 1) := fun k hk => by
      have := (co_up (p := p) O k (by have := h.lo; omega)).add ((cz.refl (p := p) c).mul (co_up (p := p) B k (by have := h.lb; omega)))
      rwa [Int.mul_zero, Int.add_zero] at this
    have h1 := ev_cg eO hu z
    rw [es_add, es_smul, es_co O z (by have := h.lo; omega), es_co B z h.lb] at h1
    exact h1
  have hBv : ∀ z, cz p (ev B' z) (ev B z * (z - x)) := fun z => by
    have hu : Up p (cv (co B) (co D)) (ns.length + 1 + 2) := fun k hk => by
      rcases Nat.eq_zero_or_pos B.length with h0 | h0
      · rw [cv_none (.inl h0)]; exact cz.refl _
      · exact cv_end h0 (by omega) (by have := h.lb; omega)
    have h1 := ev_cg eB hu z
    rw [es_cv B (co D) (m := 2) (fun k hk => co_zero (by omega)) z (by have := h.lb; omega), es_co D z (by omega)] at h1
    exact h1.trans ((cz.refl _).mul (eD z))
  refine ⟨?_, ?_, fun q hq => ?_, fun q hq => ?_, fun z hz hd => ?_⟩
  · have : O'.length ≤ ns.length + 1 := hO.short hp.pos fun k hk => (eO k).trans (by
      have := (co_up (p := p) O k (by have := h.lo; omega)).add ((cz.refl (p := p) c).mul (co_up (p := p) B k (by have := h.lb; omega)))
      rwa [Int.mul_zero, Int.add_zero] at this)
    simpa using this
  · have : B'.length ≤ ns.length + 2 := hB.short hp.pos fun k hk => (eB k).trans (by
      rcases Nat.eq_zero_or_pos B.length with h0 | h0
      · rw [cv_none (.inl h0)]; exact cz.refl _
      · exact cv_end h0 (by omega) (by have := h.lb; omega))
    simpa using this
  · rcases List.mem_append.1 hq with hq | hq
    · have := (hOv q.1).trans ((h.val q hq).add ((cz.refl c).mul (h.zero q hq)))
      rwa [Int.mul_zero, Int.add_zero] at this
    · simp at hq
      subst hq
      have := (hOv x).trans ((cz.refl (ev O x)).add hc)
      rwa [show ev O x + (y - ev O x) = y by omega] at this
  · rcases List.mem_append.1 hq with hq | hq
    · have := (hBv q.1).trans ((h.zero q hq).mul (cz.refl _))
      rwa [Int.zero_mul] at this
    · simp at hq
      subst hq
      have := hBv x
      rwa [Int.sub_self, Int.mul_zero] at this
  · have h1 := hBv z
    have h2 : (p : Int) ∣ ev B z * (z - x) := by
      have h3 : cz p (ev B' z) 0 := by unfold cz; rwa [Int.sub_zero]
      have h4 := h1.symm.trans h3
      unfold cz at h4
      rwa [Int.sub_zero] at h4
    rcases Nt.Pr.int_dvd_mul hp h2 with h3 | h3
    · exact h.nz z (fun q hq => hz q (by simp [hq])) h3
    · exact hz (x, y) (by simp) h3
end Pm

/- Polynomials modulo a prime: Horner's steps. Nothing of the program. -/
namespace Pm
open Dg

/-- Horner's steps: the top comes first. -/
def hor (x : Int) : List Nat → Int := List.foldl (fun v c => v * x + c) 0
theorem hor_nil (x : Int) : hor x [] = 0 := rfl
theorem hor_snoc (x : Int) (L : List Nat) (c : Nat) : hor x (L ++ [c]) = hor x L * x + c := by simp [hor]
theorem hor_rev (x : Int) (L : List Nat) : hor x L.reverse = ev L x := by
  induction L with
  | nil => rfl
  | cons a L ih => rw [List.reverse_cons, hor_snoc, ih]; show ev L x * x + a = a + x * ev L x; grind
/-- What an iterator from the top hands out: the place and the coefficient. -/
def bk (L : List Nat) (j : Nat) : Nat × Nat := (L.length - 1 - j, ld L (L.length - 1 - j))
theorem bk_all (L : List Nat) : ((List.range L.length).map (bk L)).map Prod.snd = L.reverse := by
  apply List.ext_getElem
  · simp
  · intro i h1 h2
    simp at h1 h2
    simp [bk]
    rw [ld_lt (by omega)]
/-- The value is told by what is congruent to it. -/
theorem ev_of_cg {p : Nat} {L M : List Nat} (h : Cg p (co L) (co M)) (x : Int) : cz p (ev L x) (ev M x) := by
  have h1 := ev_cg (n := M.length) h (co_up M) x
  rwa [es_co M x (Nat.le_refl _)] at h1
theorem ev_cz {p : Nat} (L : List Nat) {x y : Int} (h : cz p x y) : cz p (ev L x) (ev L y) := by
  induction L with
  | nil => exact cz.refl _
  | cons a L ih => exact (cz.refl _).add (h.mul ih)
end Pm

/- A region that draws its order, in a round of a range over a function: by the plain walk's law. Nothing of the program. -/
namespace Go.Proofs.YtmgacikdgbedfaaGreatDoor
open Go

theorem rows_in {l n : Nat} {P : Program} {row : String} {args : Array Value} {w : World} {R : Value → World → Prop} (h : Rows P row args w R) : RowsIn (Fence.wide.inRound l) n P row args w R :=
  fun c cs _ => let ⟨v, w', r, s⟩ := h c cs; ⟨v, w', r, stepsIn_wide.2 s⟩
theorem wpOp_round {l n : Nat} {P : Program} {ops : Array Oper} {Q : Exit → Act → World → Prop} {i : Nat} {K K' : Act → World → Prop} {a : Act} {w : World} (hd : ∀ (j : Nat) o c, ops[j]? = some o → o.op ≠ .defer c) (hL : ¬ LetsOut Q)
    (hK : ∀ a w, K a w → K' a w) (h : wpOp P ops Q i K a w) : wpOpIn (Fence.wide.inRound l) n P ops Q i K' a w := by
  unfold wpOp at h
  unfold wpOpIn
  cases ho : ops[i]? with
  | none => rw [ho] at h; exact hK _ _ h
  | some o =>
    rw [ho] at h
    simp only at h ⊢
    by_cases hw : Region.wanted o (yielded ops a.tmps) = true
    · rw [if_pos hw] at h ⊢
      have h := h.resolve_right fun h => hL h.2
      refine ⟨fun _ _ => trivial, ?_⟩
      rw [Oper.semAt_eq _ _ _ (fun c => hd i o c ho)]
      unfold Oper.wp at h
      revert h
      generalize (execOp a.eval o).run P w = res
      intro h
      cases res with
      | ok x w1 =>
        cases x with
        | value v => exact hK _ _ h
        | skip => exact hK _ _ h
        | defer d => exact hK _ _ h
        | enter f args =>
          refine ⟨fun e => absurd e (by simp [Fence.wide]), (callsIn_wide.2 (Calls.mono h fun e w2 he => ?_)).inRound l⟩
          cases e <;> first | exact hK _ _ he | exact he
        | row r args => exact ⟨fun e => absurd e (by simp [Fence.wide]), (rows_in h).mono fun v w2 he => hK _ _ he⟩
        | _ => exact h.elim
      | halt x w1 => cases x <;> first | exact h | exact h.elim
    · rw [if_neg hw] at h ⊢
      exact ⟨fun _ _ => trivial, hK _ _ h⟩
theorem any_round {l n : Nat} {P : Program} {md : Region.Mode} {ops : Array Oper} {Q : Exit → Act → World → Prop} {S : World → Prop} (hd : ∀ (j : Nat) o c, ops[j]? = some o → o.op ≠ .defer c) (hL : ¬ LetsOut Q) :
    ∀ (fuel : Nat) (listed : Array Bool) (a : Act) (w : World), wpAnyH P md ops Q S fuel listed a w → wpAnyIn (Fence.wide.inRound l) n P md ops Q fuel listed a w
  | 0, _, _, _, h => h
  | fuel + 1, _, _, _, h => ⟨h.1, fun i hi => wpOp_round hd hL (fun a' w' h' => any_round hd hL fuel _ a' w' h'.2) (h.2 i hi)⟩
/-- No operation of them defers. -/
def noDefer (ops : List Oper) : Bool := ops.all fun o => match o.op with
  | .defer _ => false
  | _ => true
theorem noDefer_at {ops : Array Oper} (h : noDefer ops.toList = true) (j : Nat) (o : Oper) (c : Go.Call) (ho : ops[j]? = some o) : o.op ≠ .defer c := by
  intro e
  have hm : o ∈ ops.toList := by
    rw [← Array.getElem?_toList] at ho
    exact List.mem_of_getElem? ho
  have := List.all_eq_true.1 h o hm
  rw [e] at this
  cases this
/-- The beginning. -/
theorem wpIn_region_round {l n id : Nat} {P : Program} {ops : Array Oper} {Q : Exit → Act → World → Prop} {S : World → Prop} {a : Act} {w : World} (hm : P.follows .mixedOrders = true) (hd : noDefer ops.toList = true) (hL : ¬ LetsOut Q) (hS : S w.drew)
    (h : S w.drew → wpAnyH P .any ops Q S ops.size (Array.replicate ops.size false) a w.drew) : (Code.region id ops true).wpIn (Fence.wide.inRound l) n P Q a w :=
  wpIn_region_any hm (any_round (noDefer_at hd) hL _ _ _ _ (h hS))
end Go.Proofs.YtmgacikdgbedfaaGreatDoor

/- slices.Backward at words: its contract. -/
namespace Go.Proofs.YtmgacikdgbedfaaGreatDoor
open Go.RowKit Go.IntWalk Go.Shelf
attribute [local go_sem] Oper.semAt_some

/-- What is handed out: a place and a word. -/
abbrev Bkw := { q : Nat × Nat // q.2 < 4294967296 }
def bkw {L : List Nat} (h : Dg.Wd L) (j : Nat) : Bkw := ⟨Pm.bk L j, Dg.ld_word h _⟩
/-- The first k of them. -/
def bks {L : List Nat} (h : Dg.Wd L) (k : Nat) : List Bkw := (List.range k).map (bkw h)
theorem bks_succ {L : List Nat} (h : Dg.Wd L) (k : Nat) : bks h (k + 1) = bks h k ++ [bkw h k] := by simp [bks, List.range_succ]
theorem bks_len {L : List Nat} (h : Dg.Wd L) (k : Nat) : (bks h k).length = k := by simp [bks]
/-- Below n, and the one block, nothing turns. -/
structure KpO (n b : Nat) (W W' : World) : Prop where
  lo : Below n W W'
  at_ : W'.heap[b]? = W.heap[b]?
theorem KpO.refl (n b : Nat) (W : World) : KpO n b W W := ⟨Below.refl _ _, rfl⟩
theorem KpO.trans {n b : Nat} {A B C : World} (h : KpO n b A B) (k : KpO n b B C) : KpO n b A C := ⟨h.lo.trans k.lo, k.at_.trans h.at_⟩
theorem KpO.put {n b : Nat} {w : World} (hn : n ≤ w.heap.size) (hb : b < w.heap.size) (W : World) (l : Nat) (o o' : Obj) (hw : w.heap.size ≤ l) (h : W.heap[l]? = some o) (hc : o.isCells = false) (hk : o.isWalk = false) : KpO n b W (W.putObj l o') :=
  ⟨belowK_b hn W l o o' hw h hc hk, World.putObj_heap_other (by omega)⟩
theorem KpO.cell {n b : Nat} {W W' : World} (h : KpO n b W W') (j : Nat) : W'.cell? ⟨b, j, none⟩ = W.cell? ⟨b, j, none⟩ := World.cell?_of_block (w := W) h.at_

set_option maxRecDepth 100000 in
set_option maxHeartbeats 2000000 in
theorem back1_in (n : Nat) (hn : 1 ≤ n) (l Bs n₁ : Nat) {A : Option Addr} {m c : Nat} {L : List Nat} (hw : Dg.Wd L) (J Jx : List Bkw → World → Prop)
    (hY : ∀ pre (x : Bkw) W, J pre W → pre.length < m → YieldAt Fence.wide (n - 1) Tryz.prog l #[.int .i64 (x.1.1 : Nat), .int .u32 (x.1.2 : Nat)] W fun e W' =>
      (e = .returned (.bool true) ∧ J (pre ++ [x]) W' ∧ KpO n₁ Bs W W') ∨ (e = .returned (.bool false) ∧ Jx (pre ++ [x]) W'))
    (W : World) (hR : RdU W n₁ A m c L) (hcs : W.cell? ⟨Bs, 0, none⟩ = some (.slice A m c)) (h0 : J [] W) :
    CallsIn Fence.wide n Tryz.prog 72 #[.func (.yield l) #[] #[], .pointer (some ⟨Bs, 0, none⟩)] W fun e W' => (∃ v, e = .returned v) ∧
      ((∃ ys, ys = bks hw m ∧ J ys W') ∨ (∃ pre, (∃ k, k ≤ m ∧ pre = bks hw k) ∧ Jx pre W')) := by
  have HLEN := Lib.hid hR.len
  have hle := hR.le
  have hmx := hR.mx
  unfold maxLen at hmx
  have HCS := Lib.hid hcs
  refine callsIn_of_wp Tryz.func72 rfl trivial ?_ rfl
  simp only [Tryz.ntmps72, List.size_toArray, List.length_cons, List.length_nil, Nat.reduceAdd, Nat.reduceSub, Array.replicate_succ, Array.replicate_zero, List.push_toArray, List.append_toArray, List.nil_append, List.cons_append]
  gi_wp2
  gi_loopw [3] (fun i wr => ∃ j k : Nat, j + k = m ∧ i = .int .i64 ((j : Int) - 1) ∧ J (bks hw k) wr ∧ KpO n₁ Bs W wr) (fun i _ => (intOf i + 1).toNat)
  case atStart => exact ⟨m, 0, rfl, rfl, h0, KpO.refl _ _ _⟩
  case round =>
    obtain ⟨j, k, hjk, rfl, hJ, hB⟩ := hrel
    have hcs' := (hB.cell 0).trans HCS.out
    clear hcs h0
    rcases Nat.eq_zero_or_pos j with hj | hj
    · subst hj
      obtain rfl : k = m := by omega
      gi_wp2
      go_end0
      exact ⟨⟨_, rfl⟩, .inl ⟨_, rfl, hJ⟩⟩
    · obtain ⟨i, rfl⟩ : ∃ i, j = i + 1 := ⟨j - 1, by omega⟩
      rw [show (((i + 1 : Nat) : Int) - 1) = (i : Int) by omega]
      obtain ⟨hx, ad, had, hbx, hcx⟩ := (hR.below hB.lo).at_ i _ (Dg.get_of_ld (by rw [HLEN.out]; omega))
      subst had
      have hbk : bkw hw k = ⟨(i, Dg.ld L i), Dg.ld_word hw _⟩ := by
        apply Subtype.ext
        show Pm.bk L k = _
        unfold Pm.bk
        rw [HLEN.out, show m - 1 - k = i by omega]
      obtain ⟨fn, tmps, assign, body, hy, hRd⟩ := hY _ (bkw hw k) wr hJ (by rw [bks_len]; omega)
      rw [hbk] at hy
      have HBK := Lib.hid hbk
      obtain ⟨x, ex⟩ : ∃ x, x = Dg.ld L i := ⟨_, rfl⟩
      dsimp only at hy
      rw [← ex] at hcx hx hy
      have him : i < m := by omega
      clear hbk ex
      gi_wp2
      refine hRd.mono ?_
      rintro e W3 (⟨rfl, hJ3, hk3⟩ | ⟨rfl, hJx3⟩)
      · gi_wp2
        go_roundw
        case rel => exact ⟨i, k + 1, by omega, rfl, by rw [bks_succ]; exact hJ3, hB.trans hk3⟩
        case measure => simp [intOf]
      · gi_wp2
        refine bodyPost_ret (results_none rfl _ _ _) rfl ?_
        exact ⟨⟨_, rfl⟩, .inr ⟨_, ⟨k + 1, by omega, (bks_succ hw k).symm⟩, hJx3⟩⟩

/-- What Backward hands back, ranged over. -/
theorem back_stops (n : Nat) (hn : 1 ≤ n) (Bs n₁ : Nat) {A : Option Addr} {m c : Nat} {L : List Nat} (hw : Dg.Wd L) (w : World) (hn1 : n₁ ≤ w.heap.size) (hBs : Bs < w.heap.size) (hR : RdU w n₁ A m c L) (hcs : w.cell? ⟨Bs, 0, none⟩ = some (.slice A m c)) :
    SeqStopsK Fence.wide n Tryz.prog 72 #[.pointer (some ⟨Bs, 0, none⟩)] (fun x : Bkw => #[Value.int .i64 (x.1.1 : Nat), Value.int .u32 (x.1.2 : Nat)]) (KpO n₁ Bs)
      (fun xs => xs = bks hw m) (fun pre => ∃ k, k ≤ m ∧ pre = bks hw k) m w := by
  intro l J Jx W hW _ _ hY h0
  exact back1_in n hn l Bs n₁ hw J Jx hY W (hR.below (hW.mono hn1)) ((hW.cell (p := ⟨Bs, 0, none⟩) hBs).trans hcs) h0

set_option maxHeartbeats 400000 in
theorem back_any {A : Option Addr} {m c : Nat} (w : World) :
    Calls Tryz.prog 61 #[.slice A m c] w fun e w' =>
      e = .returned (.func (.func 72) #[] #[.pointer (some ⟨w.heap.size, 0, none⟩)]) ∧ w.alloc (.cells #[.slice A m c] 22) = w' := by
  go_enter Tryz.func61, Tryz.ntmps61
  go_wp2
  go_ret
  exact ⟨rfl, rfl⟩
end Go.Proofs.YtmgacikdgbedfaaGreatDoor

/- modpoly: the value of a polynomial. -/
namespace Go.Proofs.YtmgacikdgbedfaaGreatDoor
open Go.RowKit Go.IntWalk Go.Shelf
attribute [local go_sem] Oper.semAt_some

theorem below_others {W W' : World} (hb : Below W.heap.size W W') : KeepsOthers W W' := ⟨hb.size, fun k _ hk _ => (hb.block k (Array.getElem?_eq_some_iff.1 hk).1).trans hk⟩
/-- What the rounds hold. -/
structure EvI (p x b : Nat) (pre : List Bkw) (W : World) : Prop where
  v : ∃ v : Nat, v < p ∧ W.cell? ⟨b + 1 + 1, 0, none⟩ = some (.int .u32 v) ∧ Hid (Pm.cz p v (Pm.hor x (pre.map (·.1.2))))
  f : W.frozen? ⟨b + 1 + 1, 0, none⟩ = false
  c0 : W.cell? ⟨b, 0, none⟩ = some (.int .u64 p)
  c1 : W.cell? ⟨b + 1, 0, none⟩ = some (.int .u32 x)
  s : b + 1 + 1 + 1 < W.heap.size
theorem EvI.own (p x b : Nat) : Own (EvI p x b) := fun s A B row hs hg hr => by
  obtain ⟨v, hv, hc, hz⟩ := hs.v
  exact ⟨⟨v, hv, cell_kept hc hg hr, hz⟩, (frozen_kept hc hg hr).trans hs.f, cell_kept hs.c0 hg hr, cell_kept hs.c1 hg hr, Nat.lt_of_lt_of_le hs.s hg.size⟩
theorem hor_step {p x v d u z : Nat} {pre : List Bkw} {hd : d < 4294967296} {i : Nat} (h : Pm.cz p v (Pm.hor x (pre.map (·.1.2)))) (hu : Pm.cz p u ((v : Int) * x)) (hz : Pm.cz p z ((u : Int) + d)) :
    Pm.cz p z (Pm.hor x ((pre ++ [(⟨(i, d), hd⟩ : Bkw)]).map (·.1.2))) := by
  rw [List.map_append, List.map_singleton, Pm.hor_snoc]
  exact hz.trans ((hu.trans (h.mul (Pm.cz.refl _))).add (Pm.cz.refl _))

set_option maxRecDepth 100000 in
set_option maxHeartbeats 2000000 in
theorem meval_any {A : Option Addr} {n c : Nat} {L : List Nat} {w : World} (p x : Nat) (h0 : 0 < p) (hp : p < 4294967296) (hx : x < 4294967296) (h : RdU w w.heap.size A n c L) :
    Calls Tryz.prog 45 #[.agg #[.int .u64 p], .slice A n c, .int .u32 x] w (RetC p (Pm.ev L x) w) := by
  refine (callsIn_wide (n := 4)).1 ?_
  refine callsIn_of_wp_marks Tryz.func45 rfl trivial ?_ rfl
  simp only [Tryz.ntmps45, List.size_toArray, List.length_cons, List.length_nil, Nat.reduceAdd, Nat.reduceSub, Array.replicate_succ, Array.replicate_zero, List.push_toArray, List.append_toArray, List.nil_append, List.cons_append]
  gi_wp2_with (refine ⟨trivial, ?_⟩; gi_at_call 61; refine (callsIn_wide.2 (back_any _)).mono ?_; rintro e w' ⟨rfl, rfl⟩)
  obtain ⟨W0, hW0⟩ : ∃ W0, W0 = ((((w.alloc (.cells #[.int .u64 p] 51)).alloc (.cells #[.int .u32 x] 24)).alloc (.cells #[.int .u32 0] 24)).alloc (.cells #[.slice A n c] 22)) := ⟨_, rfl⟩
  have hsz : W0.heap.size = w.heap.size + 4 := by rw [hW0]; simp
  have hc0 : W0.cell? ⟨w.heap.size, 0, none⟩ = some (.int .u64 p) := by rw [hW0]; go_simp
  have hc1 : W0.cell? ⟨w.heap.size + 1, 0, none⟩ = some (.int .u32 x) := by rw [hW0]; go_simp
  have hc2 : W0.cell? ⟨w.heap.size + 1 + 1, 0, none⟩ = some (.int .u32 (0 : Nat)) := by rw [hW0]; go_simp
  have hc3 : W0.cell? ⟨w.heap.size + 1 + 1 + 1, 0, none⟩ = some (.slice A n c) := by rw [hW0]; go_simp
  have hf2 : W0.frozen? ⟨w.heap.size + 1 + 1, 0, none⟩ = false := by rw [hW0]; go_simp
  have hB0 : Below w.heap.size w W0 := by
    rw [hW0]
    exact ((((Below.refl _ w).alloc (Nat.le_refl _) _).alloc (by simp) _).alloc (by simp; omega) _).alloc (by simp; omega) _
  have hI0 : EvI p x w.heap.size [] W0 := ⟨⟨0, h0, hc2, Lib.hid (Pm.cz.refl _)⟩, hf2, hc0, hc1, by omega⟩
  have hR0 := h.below hB0
  have HWD := h.wd
  have HWDH := Lib.hid HWD
  have hseq := back_stops 3 (by omega) (w.heap.size + 1 + 1 + 1) w.heap.size HWD W0 (by omega) (by omega) hR0 hc3
  have hKb := KpO.put (n := w.heap.size) (b := w.heap.size + 1 + 1 + 1) (w := W0) (by omega) (by omega)
  rw [← hW0]
  clear hW0 hc0 hc1 hc2 hc3 hf2
  apply wpIn_rangeFunc_ownG (F := Fence.wide) (n := 4) (P := Tryz.prog) rfl (by omega) (gf := 72) (lb := #[.pointer (some ⟨w.heap.size + 1 + 1 + 1, 0, none⟩)]) rfl trivial (enters_of Tryz.func72 (by kernel_rfl) rfl)
    hseq KpO.trans hKb (Below.refl _ _) (fun _ => by rfl)
    (fun pre W => EvI p x w.heap.size pre W ∧ Below w.heap.size w W)
    (fun _ _ _ => False)
    (OwnFrom.and (Own.from (EvI.own p x w.heap.size) _) (ownFrom_below (Nat.le_refl _) (by omega)))
    (fun _ _ _ _ _ hs _ _ => hs)
    ⟨hI0, hB0⟩
  case hassign =>
    intro l x W K hK
    gi_wp2
    exact hK
  case hbody =>
    clear hI0 hB0 hR0 hseq hKb
    rintro l pre ⟨⟨i, d⟩, hd⟩ W ⟨hI, hB⟩ _
    obtain ⟨v, hv, hcv, hz⟩ := hI.v
    have hf := hI.f
    have h00 := hI.c0
    have h01 := hI.c1
    have hlt : w.heap.size + 1 + 1 < W.heap.size := World.block_lt_of_cell? W _ hcv
    have hl3 := hI.s
    refine wpIn_block ?_
    refine wpIn_region_round (S := fun w' => w'.cell? ⟨w.heap.size, 0, none⟩ = some (.int .u64 p) ∧ w'.cell? ⟨w.heap.size + 1, 0, none⟩ = some (.int .u32 x)) (by kernel_rfl) (by kernel_rfl) (by rintro ⟨_, _, h⟩; exact h) ⟨h00, h01⟩ (fun hS => ?_)
    refine wpAnyH_take (i := 0) (v := .agg #[.int .u64 p]) rfl (by kernel_rfl) (by kernel_rfl) (by kernel_rfl) (fun _ _ _ h => h) (Or.inl ⟨by rfl, ?_⟩) (by assumption) ?_
    · intro w' hSw; go_simp
    simp only [Act.put, List.getElem_toArray, List.getElem_cons_zero, List.setIfInBounds_toArray, List.set_cons_zero, List.set_cons_succ]
    refine wpAnyH_take (i := 1) (v := .agg #[.int .u64 p]) rfl (by kernel_rfl) (by kernel_rfl) (by kernel_rfl) (fun _ _ _ h => h) (Or.inl ⟨by rfl, ?_⟩) (by assumption) ?_
    · intro w' hSw; go_simp
    simp only [Act.put, List.getElem_toArray, List.getElem_cons_zero, List.getElem_cons_succ, List.setIfInBounds_toArray, List.set_cons_zero, List.set_cons_succ]
    refine wpAnyH_take (i := 3) (v := .int .u32 x) rfl (by kernel_rfl) (by kernel_rfl) (by kernel_rfl) (fun _ _ _ h => h) (Or.inl ⟨by rfl, ?_⟩) (by assumption) ?_
    · intro w' hSw; go_simp
    simp only [Act.put, List.getElem_toArray, List.getElem_cons_zero, List.getElem_cons_succ, List.setIfInBounds_toArray, List.set_cons_zero, List.set_cons_succ]
    refine wpAnyH_take (i := 5) (v := .int .u32 d) rfl (by kernel_rfl) (by kernel_rfl) (by kernel_rfl) (fun _ _ _ h => h) (Or.inl ⟨by rfl, ?_⟩) (by assumption) ?_
    · intro w' hSw; go_simp
    simp only [Act.put, List.getElem_toArray, List.getElem_cons_zero, List.getElem_cons_succ, List.setIfInBounds_toArray, List.set_cons_zero, List.set_cons_succ]
    refine wpAnyH_ready (rs := [2]) (by kernel_rfl) (by simp) ?_
    refine AllReadyH.cons rfl (fun K hK => ?_) AllReadyH.nil
    simp only [List.getElem_toArray, List.getElem_cons_zero, List.getElem_cons_succ]
    go_simp
    refine hK.out _ _ hS (fun hHeld => ?_)
    clear hK K
    refine wpAnyH_ready (rs := [4]) (by kernel_rfl) (by simp) ?_
    refine AllReadyH.cons rfl (fun K hK => ?_) AllReadyH.nil
    simp only [List.getElem_toArray, List.getElem_cons_zero, List.getElem_cons_succ]
    go_simp
    go_at_call 55
    refine (fmul_any p v x h0 hp (by omega) hx _).mono ?_
    rintro _ w1 ⟨u, rfl, hu, hz1, hb1⟩
    have hS1 : w1.cell? ⟨w.heap.size, 0, none⟩ = some (.int .u64 p) ∧ w1.cell? ⟨w.heap.size + 1, 0, none⟩ = some (.int .u32 x) := ⟨(hb1.cell (p := ⟨w.heap.size, 0, none⟩) (by show w.heap.size < W.heap.size; omega)).trans h00, (hb1.cell (p := ⟨w.heap.size + 1, 0, none⟩) (by show w.heap.size + 1 < W.heap.size; omega)).trans h01⟩
    refine hK.out _ _ hS1 (fun hHeld1 => ?_)
    clear hK K
    refine wpAnyH_ready (rs := [6]) (by kernel_rfl) (by simp) ?_
    refine AllReadyH.cons rfl (fun K hK => ?_) AllReadyH.nil
    simp only [List.getElem_toArray, List.getElem_cons_zero, List.getElem_cons_succ]
    go_simp
    go_at_call 35
    refine (fadd_any p u d h0 hp (by omega) hd _).mono ?_
    rintro _ w2 ⟨z, rfl, hz2, hz3, hb2⟩
    have hb12 : Below W.heap.size W w2 := (Below.refl _ W).drew.trans (hb1.trans (hb2.mono hb1.size))
    have hS2 : w2.cell? ⟨w.heap.size, 0, none⟩ = some (.int .u64 p) ∧ w2.cell? ⟨w.heap.size + 1, 0, none⟩ = some (.int .u32 x) := ⟨(hb12.cell (p := ⟨w.heap.size, 0, none⟩) (by show w.heap.size < W.heap.size; omega)).trans h00, (hb12.cell (p := ⟨w.heap.size + 1, 0, none⟩) (by show w.heap.size + 1 < W.heap.size; omega)).trans h01⟩
    have hcz := (hb12.cell (p := ⟨w.heap.size + 1 + 1, 0, none⟩) hlt).trans hcv
    have hfz := (hb12.frozen (p := ⟨w.heap.size + 1 + 1, 0, none⟩) hlt).trans hf
    refine hK.out _ _ hS2 (fun hHeld2 => ?_)
    clear hK K
    refine wpAnyH_ready (rs := [7]) (by kernel_rfl) (by simp) ?_
    refine AllReadyH.cons rfl (fun K hK => ?_) AllReadyH.nil
    simp only [List.getElem_toArray, List.getElem_cons_zero, List.getElem_cons_succ]
    go_simp
    have hS3 : (w2.setCell ⟨w.heap.size + 1 + 1, 0, none⟩ (.int .u32 (z : Nat))).cell? ⟨w.heap.size, 0, none⟩ = some (.int .u64 p) ∧ (w2.setCell ⟨w.heap.size + 1 + 1, 0, none⟩ (.int .u32 (z : Nat))).cell? ⟨w.heap.size + 1, 0, none⟩ = some (.int .u32 x) := ⟨by go_simp, by go_simp⟩
    have hcv3 : (w2.setCell ⟨w.heap.size + 1 + 1, 0, none⟩ (.int .u32 (z : Nat))).cell? ⟨w.heap.size + 1 + 1, 0, none⟩ = some (.int .u32 (z : Nat)) := by go_simp
    refine hK.out _ _ hS3 (fun _ => ?_)
    clear hK K
    refine wpAnyH_done (by kernel_rfl) ?_ _
    refine ⟨((below_others hb12).trans (KeepsOthers.setCell _ _ _)).from _, ⟨(hb12.mono hB.size).setCell (p := ⟨w.heap.size + 1 + 1, 0, none⟩) (by simp; omega) _, ?_⟩, ⟨⟨z, hz2, hcv3, Lib.hid (hor_step hz.out hz1.out hz3.out)⟩, by rw [World.frozen?_setCell]; exact hfz, hS3.1, hS3.2, by have := hb12.size; simp [World.setCell]; omega⟩, (hB.trans (hb12.mono hB.size)).setCell (p := ⟨w.heap.size + 1 + 1, 0, none⟩) (by simp; omega) _⟩
    exact (Below.heap_setCell w2 ⟨w.heap.size + 1 + 1, 0, none⟩ _ _ (by simp)).trans (hb12.block _ hl3)
  case hdone =>
    clear hI0 hB0 hR0 hseq hKb
    rintro D ys W hD rfl ⟨hI, hB⟩ hK
    obtain ⟨v, hv, hcv, hz⟩ := hI.v
    have HV := Lib.hid (show Pm.cz p v (Pm.ev L x) by
      have h1 := hz.out
      have h2 : (bks HWD n).map (·.1.2) = L.reverse := by
        have e := Pm.bk_all L
        rw [h.len] at e
        rw [← e]
        simp [bks, bkw]
      rwa [h2, Pm.hor_rev] at h1)
    clear hz
    gi_wp2
    refine ⟨by simp, .inl ⟨_, _, rfl, run_takeDeferred hK, ?_⟩⟩
    exact ⟨_, results_tmp rfl _ _ _, v, rfl, hv, HV, hB.trans (belowK_b (w := w) (Nat.le_refl _) W D _ _ (by omega) hK rfl rfl)⟩
  case hstop =>
    rintro D c pre W _ _ h _
    exact h.elim
end Go.Proofs.YtmgacikdgbedfaaGreatDoor

/- modpoly: Eval. -/
namespace Go.Proofs.YtmgacikdgbedfaaGreatDoor
open Go.RowKit Go.IntWalk
attribute [local go_sem ↓] Go.wp_at_zero Go.wp_at_succ

/-- The value comes back, and no error. -/
def RetEv (p : Nat) (z : Int) (w : World) (e : Ending) (w' : World) : Prop :=
  ∃ v : Nat, e = .returned (.tuple #[.int .u32 v, .int .i64 0]) ∧ v < p ∧ Hid (Pm.cz p v z) ∧ Below w.heap.size w w'
/-- An error comes back. -/
def RetN0 (code : Int) (w : World) (e : Ending) (w' : World) : Prop := e = .returned (.tuple #[.int .u32 0, .int .i64 code]) ∧ Below w.heap.size w w'
set_option maxRecDepth 100000 in
set_option maxHeartbeats 1000000 in
theorem mEval_none {A : Option Addr} {n c : Nat} {w : World} {z : Int} (p : Nat) (hpr : ¬ Nt.Pr p) (hp : p < 4294967296) (hT : Tabs w) :
    Calls Tryz.prog 24 #[.slice A n c, .int .u32 z, .int .u32 p] w (RetN0 40 w) := by
  have HP := Lib.hid hpr
  have hB0 := below1 w (.cells #[.slice A n c] 23)
  have hT0 := hT.below hB0
  clear hpr
  go_enter Tryz.func24, Tryz.ntmps24
  go_wp2_with fail
  refine (mall_none p HP.out hp hT0).mono ?_
  rintro _ w1 ⟨rfl, hb1⟩
  have HB := Lib.hid ((hB0.trans (hb1.mono hB0.size)).alloc (Nat.le_trans hB0.size hb1.size) (.cells #[.int .u64 0] 51))
  go_wp2
  go_ret2
  exact ⟨rfl, HB.out⟩
set_option maxRecDepth 100000 in
set_option maxHeartbeats 1000000 in
theorem mEval_ok {A : Option Addr} {n c : Nat} {L : List Nat} {w : World} (a p : Nat) (ha : a < 4294967296) (hpr : Nt.Pr p) (hp : p < 4294967296) (h : RdU w w.heap.size A n c L) (hn : n ≤ 1099511627776) (hT : Tabs w) :
    Calls Tryz.prog 24 #[.slice A n c, .int .u32 a, .int .u32 p] w (RetEv p (Pm.ev L a) w) := by
  have HA := Lib.hid (mall1_any p hpr hp h hn hT)
  have h0 := hpr.pos
  have hpn : ¬ p = 0 := by omega
  clear hpr
  go_enter Tryz.func24, Tryz.ntmps24
  go_wp2_with fail
  refine HA.out.mono ?_
  rintro _ w1 ⟨g, A1, n1, c1, M1, rfl, hg, hcg0, hp1, hM, hn1, hb1⟩
  have hB2 := below1 w1 (.cells #[.int .u64 p] 51)
  have HC0 := Lib.hid ((hB2.cell (p := ⟨g, 0, none⟩) hg).trans hcg0)
  have hP1 := hp1.next hB2
  have HB := Lib.hid (hb1.trans (hB2.mono hb1.size))
  have hsz : w1.heap.size < (w1.alloc (.cells #[.int .u64 p] 51)).heap.size := by simp
  have HCB := Lib.hid (show (w1.alloc (.cells #[.int .u64 p] 51)).cell? ⟨w1.heap.size, 0, none⟩ = some (.int .u64 p) by go_simp)
  clear hcg0 hB2 hp1
  go_wp2_with fail
  generalize w1.alloc (.cells #[.int .u64 p] 51) = W2 at HC0 HCB hP1 HB hsz ⊢
  have hgl : g < W2.heap.size := Nat.lt_trans hg hsz
  have hc0 := HC0.out
  have hcb := HCB.out
  obtain ⟨q, hq⟩ : ∃ q, q = a % p := ⟨_, rfl⟩
  have hq32 : q < 4294967296 := by rw [hq]; exact Nat.lt_of_le_of_lt (Nat.mod_le _ _) ha
  have htm : (a : Int).tmod p = q := by rw [hq]; rfl
  have hw1 : IntKind.u64.wrap (a : Int) = a := wide_u64 ha
  have hw2 : IntKind.u32.wrap (q : Int) = q := wide_u32 hq32
  have HQ := Lib.hid hq
  have HE := Lib.hid (meval_any p q h0 hp hq32 hP1.rd.drew)
  clear hq
  go_region_held3 (fun w' => w'.cell? ⟨w1.heap.size, 0, none⟩ = some (.int .u64 p) ∧ w'.cell? ⟨g, 0, none⟩ = some (.slice A1 n1 c1)) (go_keep)
    (first
      | (go_at_call 45; refine HE.out.mono ?_; rintro _ w3 ⟨v, rfl, hv, hz, hb3⟩; have hcb3 := (hb3.cell (p := ⟨w1.heap.size, 0, none⟩) hsz).trans hcb; have hc03 := (hb3.cell (p := ⟨g, 0, none⟩) hgl).trans hc0))
  have HF := Lib.hid (HB.out.drew.trans (hb3.mono HB.out.size))
  have HZ := Lib.hid (hz.out.trans ((Pm.ev_of_cg hM.out.2 (q : Int)).trans (Pm.ev_cz L (by rw [HQ.out]; exact Pm.cz_mod a))))
  clear hcb3 hc03
  go_wp2
  go_ret2
  exact ⟨v, rfl, hv, HZ.out, HF.out⟩
end Go.Proofs.YtmgacikdgbedfaaGreatDoor
