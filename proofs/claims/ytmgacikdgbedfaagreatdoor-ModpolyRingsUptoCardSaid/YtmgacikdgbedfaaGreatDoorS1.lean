/- modpoly's laws: the reference's normal form, what is told. -/
import Derived.Test.YtmgacikdgbedfaaGreatDoorF10
namespace Go.Proofs.YtmgacikdgbedfaaGreatDoor
open Go.RowKit Go.IntWalk
attribute [local go_sem ↓] Go.wp_at_zero Go.wp_at_succ

theorem ow_po {w : World} {b n c : Nat} {A : Option Addr} {L : List Nat} (h : OwU w b A n c L) : Po w b A n c L := by
  have hl := h.len
  rcases h.own.2 with ⟨h1, h2⟩ | ⟨g, cap, cur, h1, h2, h3, h4, h5, h6, h7⟩
  · injection h1 with h1 h1' h1''
    exact ⟨hl, by omega, by rw [h1'']; exact Nat.zero_le _, h.wd, .inl h2⟩
  · injection h1 with h1 h1' h1''
    subst h1''
    exact ⟨hl, h4, h5, h.wd, .inr ⟨g, cur, h1, h2, h3, by omega, by simpa using h7⟩⟩
/-- The numbers' rests. -/
def md (p : Nat) (L : List Nat) : List Nat := L.map (· % p)
theorem md_lt {p : Nat} (hp : 0 < p) (L : List Nat) : Lt p (md p L) := fun x hx => by
  obtain ⟨y, _, rfl⟩ := List.mem_map.1 hx
  exact Nat.mod_lt _ hp
theorem md_cg (p : Nat) (L : List Nat) : Pm.Cg p (Pm.co (md p L)) (Pm.co L) := fun k => by
  unfold Pm.co md
  by_cases hk : k < L.length
  · rw [Dg.ld_lt (by simpa using hk), Dg.ld_lt hk, List.getElem_map]
    exact Pm.cz_mod _
  · rw [Dg.ld_ge (by simpa using hk), Dg.ld_ge (by omega)]; exact Pm.cz.refl _
theorem md_more {p k x : Nat} {L : List Nat} (hx : L[k]? = some x) : md p (L.take k) ++ [x % p] = md p (L.take (k + 1)) := by
  unfold md; rw [List.take_add_one, hx]; simp
theorem tm_front {L : List Nat} {n k : Nat} (hn : L.length = n) (hk : k ≤ n) (h : ∀ i, k ≤ i → Dg.ld L i = 0) (ht : k = 0 ∨ Dg.ld L (k - 1) ≠ 0) : k ≤ L.length ∧ Dg.Nm (L.take k) ∧ ∀ i, Dg.ld (L.take k) i = Dg.ld L i := tm_done (by omega) h ht
/-- One word more in a row of one's own. -/
theorem ow_more {w w' : World} {b k c c' y : Nat} {A A' : Option Addr} {L M : List Nat} {z : Int} (h : OwU w b A k c L) (hy : y < 4294967296) (hz : z = y) (hM : L ++ [y] = M) (ho : w'.ownsRow b 24 1 (.slice A' (k + 1) c') (k + 1) (uc L ++ [.int .u32 z])) : OwU w' b A' (k + 1) c' M := by
  subst hM hz
  exact ⟨by rw [show uc (L ++ [y]) = uc L ++ [.int .u32 (y : Int)] by simp [uc]]; exact ho, fun x hx => by
    rcases List.mem_append.1 hx with hx | hx
    · exact h.wd x hx
    · simp at hx; omega⟩
set_option maxRecDepth 100000 in
set_option maxHeartbeats 4000000 in
theorem rNorm_any {A : Option Addr} {n c : Nat} {L : List Nat} {w : World} (p : Nat) (h0 : 0 < p) (hp : p < 4294967296) (h : RdU w w.heap.size A n c L) (hn : n ≤ 17592186044416) :
    Calls Tryz.prog 13 #[.slice A n c, .int .u32 p] w (RetPo p (Pm.co L) w) := by
  have HLEN := Lib.hid h.len
  have HR := Lib.hid h
  obtain ⟨i0, hi0, hz0, hz1, hz2⟩ := info_parts infoU
  have hpn : ¬ p = 0 := by omega
  clear h
  go_enter Tryz.func13, Tryz.ntmps13
  go_wp2_with fail
  go_loopw [5, 10] (fun v kv wr => ∃ (k : Nat) (A0 : Option Addr) (c0 : Nat), kv = .int .i64 k ∧ v = .slice A0 k c0 ∧ k ≤ n ∧ Hid (OwU wr w.heap.size A0 k c0 (md p (L.take k)) ∧ Below w.heap.size w wr)) (fun _ kv _ => n - (intOf kv).toNat)
  case atStart => exact ⟨0, none, 0, rfl, rfl, Nat.zero_le _, Lib.hid ⟨OwU.nil _ _, Below.refl _ _⟩⟩
  case round =>
    obtain ⟨k, A0, c0, rfl, rfl, hk, hI⟩ := hrel
    have HOWN := Lib.hid hI.out.1
    have HB := Lib.hid hI.out.2
    clear hI
    by_cases hkn : k < n
    · obtain ⟨x, hx⟩ : ∃ x, L[k]? = some x := ⟨_, List.getElem?_eq_getElem (by rw [HLEN.out]; exact hkn)⟩
      obtain ⟨hxw, ad, rfl, _, hc⟩ := (HR.out.below HB.out).at_ k x hx
      have hlt : ((k : Int) < n) := by omega
      have HM := Lib.hid (md_more (p := p) hx)
      have hO1 := HOWN.out.own.alloc (.cells #[.int .u32 ((x : Int) % p)] 24)
      go_wp2_with (at_builtin; refine wpList_append_own _ rfl _ _ 23 rfl w.heap.size 24 i0 (.int .u32 0) 1 4 Tryz.underlying23 hi0 hz0 hz1 hz2 rfl (by decide) _ _ _ rfl hO1 ⟨wr.heap.size, 0, none⟩ 1 1 [.int .u32 ((x : Int) % p)] rfl rfl (World.news_of_block (cs := #[.int .u32 ((x : Int) % p)]) (t := 24) (fr := (0, 0)) (heap_alloc_new wr _)) (by simp [Value.oneCell']) (by unfold maxLen; omega) (by omega) (by have := HB.out.size; simp; omega) ?_; intro v' w6 hown' hgrow _)
      have hG : (wr.alloc (.cells #[.int .u32 ((x : Int) % p)] 24)).grownBy w6 (Value.slice A0 k c0).ownBlock := hgrow
      clear hgrow
      obtain ⟨A6, c6, rfl⟩ := row_sl hown'
      have hB1 : Below w.heap.size w (wr.alloc (.cells #[.int .u32 ((x : Int) % p)] 24)) := HB.out.alloc HB.out.size _
      refine ⟨⟨k + 1, A6, c6, by simp, rfl, by omega, Lib.hid ⟨ow_more HOWN.out (Nat.lt_trans (Nat.mod_lt x h0) hp) rfl HM.out hown', hB1.grown hG hB1.size (own_block hO1)⟩⟩, by simp [intOf]; omega⟩
    · obtain rfl : k = n := by omega
      have hmdL : md p (L.take k) = md p L := by rw [List.take_of_length_le (by rw [HLEN.out]; exact Nat.le_refl _)]
      have HOWN' := HOWN.out
      rw [hmdL] at HOWN'
      have HR0 := Lib.hid HOWN'.rd
      have HO := Lib.hid HOWN'
      have hlen := Lib.hid HOWN'.len
      clear HOWN HOWN' hmdL
      go_wp2_with fail
      go_loop [5] (fun a => ∃ j : Nat, j ≤ k ∧ a = .slice A0 j c0 ∧ Hid (∀ i, j ≤ i → Dg.ld (md p L) i = 0)) (fun a => slLen a)
      case atStart => exact ⟨k, Nat.le_refl _, rfl, Lib.hid fun i hi => Dg.ld_ge (by rw [hlen.out]; exact hi)⟩
      case round =>
        obtain ⟨j, hj, rfl, hz⟩ := hrel
        rcases Nat.eq_zero_or_pos j with hj0 | hj0
        · subst hj0
          go_wp2
          go_ret
          exact ⟨A0, 0, c0, _, rfl, (ow_po HO.out).take (Nat.zero_le _), Lib.hid (cut_pn (md_lt h0 L) (md_cg p L) (tm_front hlen.out (by omega) hz.out (.inl rfl))), HB.out⟩
        · obtain ⟨i, rfl⟩ : ∃ i, j = i + 1 := ⟨j - 1, by omega⟩
          obtain ⟨hx, ad, rfl, hb, hc⟩ := HR0.out.at_ i (Dg.ld (md p L) i) (Dg.get_of_ld (by rw [hlen.out]; omega))
          have hmx := HR0.out.mx
          have hle := HR0.out.le
          by_cases hzz : Dg.ld (md p L) i = 0
          · have hc0 : wr.cell? (ad.add i) = some (.int .u32 0) := by rw [hc, hzz]; rfl
            have HZ := Lib.hid hzz
            clear hzz hc
            go_wp2
            go_round
            case rel => exact ⟨i, by omega, rfl, Lib.hid fun q hq => by
              rcases Nat.lt_or_ge i q with h1 | h1
              · exact hz.out q h1
              · rw [show q = i by omega]; exact HZ.out⟩
            case measure => simp [slLen]
          · have hz' : ((Dg.ld (md p L) i : Int) == 0) = false := by simpa using hzz
            have HZ := Lib.hid hzz
            clear hzz
            go_wp2
            go_ret
            exact ⟨_, i + 1, c0, _, rfl, (ow_po HO.out).take hj, Lib.hid (cut_pn (md_lt h0 L) (md_cg p L) (tm_front hlen.out hj hz.out (.inr HZ.out))), HB.out⟩

/-- The modulus, if it is a prime, and the error. -/
def RetGood (p : Nat) (w : World) (e : Ending) (w' : World) : Prop := w = w' ∧ ∃ (q : Nat) (code : Int), e = .returned (.tuple #[.int .u32 q, .int .i64 code]) ∧ Hid ((Nt.Pr p ∧ q = p ∧ code = 0) ∨ (¬ Nt.Pr p ∧ q = 7 ∧ code = 40))
set_option maxHeartbeats 400000 in
theorem good_any (p : Nat) (hp : p < 4294967296) (w : World) : Calls Tryz.prog 5 #[.int .u32 p] w (RetGood p w) := by
  go_enter Tryz.func5, Tryz.ntmps5
  go_wp2_with fail
  refine (refIs_any p rfl hp _).mono ?_
  rintro _ _ ⟨rfl, rfl⟩
  by_cases hpr : Nt.Pr p
  · rw [Nt.isP_iff.2 hpr]
    have HP := Lib.hid hpr
    clear hpr
    go_wp2
    go_ret2
    exact ⟨rfl, p, 0, rfl, Lib.hid (.inl ⟨HP.out, rfl, rfl⟩)⟩
  · rw [Nt.isP_false_iff.2 hpr]
    have HP := Lib.hid hpr
    clear hpr
    go_wp2
    go_ret2
    exact ⟨rfl, 7, 40, rfl, Lib.hid (.inr ⟨HP.out, rfl, rfl⟩)⟩
/-- What is told: an error. -/
theorem ltold_err {v : Value} (z : Int) (hz : z ≠ 0) (w : World) : Calls Tryz.prog 15 #[.slice none 0 0, .int .i64 z, v, .int .i64 z] w (RetBD true w) := by
  have hz' : (z != 0) = true := by simpa using hz
  have hzz : (z == z) = true := by simp
  go_enter Tryz.func15, Tryz.ntmps15
  go_wp2_with fail
  refine (num_any _ _).mono ?_
  rintro _ _ ⟨y, rfl, hy, rfl⟩
  obtain rfl := hy.out
  go_wp2
  go_ret
  exact ⟨rfl, 0, rfl⟩
/-- What is told: a polynomial. -/
theorem ltold_ok {A A' : Option Addr} {B n n' c c' : Nat} {L L' : List Nat} {w : World} (h : RdU w B A n c L) (h' : RdU w B A' n' c' L') (e : L = L') :
    Calls Tryz.prog 15 #[.slice A n c, .int .i64 0, .slice A' n' c', .int .i64 0] w (RetBD true w) := by
  have hLL : (L == L') = true := by simpa using e
  have HS := Lib.hid (lsame_any h h')
  rw [hLL] at HS
  clear h h' hLL
  go_enter Tryz.func15, Tryz.ntmps15
  go_wp2_with fail
  refine (num_any _ _).mono ?_
  rintro _ _ ⟨y, rfl, hy, rfl⟩
  obtain rfl := hy.out
  go_wp2_with fail
  refine HS.out.mono ?_
  rintro _ _ ⟨rfl, j, rfl⟩
  go_wp2
  go_ret
  exact ⟨rfl, j, rfl⟩
end Go.Proofs.YtmgacikdgbedfaaGreatDoor

/- modpoly: Scale and Shift, the reference's and the program's. -/
namespace Go.Proofs.YtmgacikdgbedfaaGreatDoor
open Go.RowKit Go.IntWalk
attribute [local go_sem ↓] Go.wp_at_zero Go.wp_at_succ

theorem mp_more {f : Nat → Nat} {k x : Nat} {L : List Nat} (hx : L[k]? = some x) : (L.take k).map f ++ [f x] = (L.take (k + 1)).map f := by
  rw [List.take_add_one, hx]; simp
theorem mp_cg {p : Nat} {f : Nat → Nat} {g : Int → Int} (L : List Nat) (hf : ∀ x ∈ L, Pm.cz p (f x : Nat) (g x)) (h0 : g 0 = 0) : Pm.Cg p (Pm.co (L.map f)) (fun k => g (Pm.co L k)) := fun k => by
  unfold Pm.co
  dsimp only
  by_cases hk : k < L.length
  · rw [Dg.ld_lt (by simpa using hk), Dg.ld_lt hk, List.getElem_map]
    exact hf _ (List.getElem_mem hk)
  · rw [Dg.ld_ge (show (L.map f).length ≤ k by simpa using hk), Dg.ld_ge (show L.length ≤ k by omega)]
    show Pm.cz p 0 (g 0)
    rw [h0]; exact Pm.cz.refl _
set_option maxRecDepth 100000 in
set_option maxHeartbeats 4000000 in
theorem rScale_any {A : Option Addr} {n c : Nat} {L : List Nat} {w : World} (a p : Nat) (ha : a < 4294967296) (h0 : 0 < p) (hp : p < 4294967296) (h : RdU w w.heap.size A n c L) (hn : n ≤ 17592186044416) :
    Calls Tryz.prog 40 #[.slice A n c, .int .u32 a, .int .u32 p] w (RetPo p (fun k => (a : Int) * Pm.co L k) w) := by
  have HLEN := Lib.hid h.len
  have HR := Lib.hid h
  obtain ⟨i0, hi0, hz0, hz1, hz2⟩ := info_parts infoU
  clear h
  go_enter Tryz.func40, Tryz.ntmps40
  go_wp2_with fail
  go_loopw [7, 12] (fun v kv wr => ∃ (k : Nat) (A0 : Option Addr) (c0 : Nat), kv = .int .i64 k ∧ v = .slice A0 k c0 ∧ k ≤ n ∧ Hid (OwU wr w.heap.size A0 k c0 ((L.take k).map (fun x => x * a % p)) ∧ Below w.heap.size w wr)) (fun _ kv _ => n - (intOf kv).toNat)
  case atStart => exact ⟨0, none, 0, rfl, rfl, Nat.zero_le _, Lib.hid ⟨OwU.nil _ _, Below.refl _ _⟩⟩
  case round =>
    obtain ⟨k, A0, c0, rfl, rfl, hk, hI⟩ := hrel
    have HOWN := Lib.hid hI.out.1
    have HB := Lib.hid hI.out.2
    clear hI
    by_cases hkn : k < n
    · obtain ⟨x, hx⟩ : ∃ x, L[k]? = some x := ⟨_, List.getElem?_eq_getElem (by rw [HLEN.out]; exact hkn)⟩
      obtain ⟨hxw, ad, rfl, _, hc⟩ := (HR.out.below HB.out).at_ k x hx
      have hlt : ((k : Int) < n) := by omega
      have HM := Lib.hid (mp_more (f := fun x => x * a % p) hx)
      go_wp2_with fail
      refine (refMul_any x a p rfl rfl rfl hxw ha hp h0 _).mono ?_
      rintro _ _ ⟨y, rfl, hy, rfl⟩
      have hO1 := HOWN.out.own.alloc (.cells #[.int .u32 y] 24)
      clear hc
      go_wp2_with (at_builtin; refine wpList_append_own _ rfl _ _ 23 rfl w.heap.size 24 i0 (.int .u32 0) 1 4 Tryz.underlying23 hi0 hz0 hz1 hz2 rfl (by decide) _ _ _ rfl hO1 ⟨wr.heap.size, 0, none⟩ 1 1 [.int .u32 y] rfl rfl (World.news_of_block (cs := #[.int .u32 y]) (t := 24) (fr := (0, 0)) (heap_alloc_new wr _)) (by simp [Value.oneCell']) (by unfold maxLen; omega) (by omega) (by have := HB.out.size; simp; omega) ?_; intro v' w6 hown' hgrow _)
      have hG : (wr.alloc (.cells #[.int .u32 y] 24)).grownBy w6 (Value.slice A0 k c0).ownBlock := hgrow
      clear hgrow
      obtain ⟨A6, c6, rfl⟩ := row_sl hown'
      have hB1 : Below w.heap.size w (wr.alloc (.cells #[.int .u32 y] 24)) := HB.out.alloc HB.out.size _
      exact ⟨⟨k + 1, A6, c6, by simp, rfl, by omega, Lib.hid ⟨ow_more HOWN.out (by rw [hy.out]; exact Nat.lt_trans (Nat.mod_lt _ h0) hp) rfl (by rw [hy.out]; exact HM.out) hown', hB1.grown hG hB1.size (own_block hO1)⟩⟩, by simp [intOf]; omega⟩
    · obtain rfl : k = n := by omega
      have HOWN' := HOWN.out
      rw [List.take_of_length_le (by rw [HLEN.out]; exact Nat.le_refl _)] at HOWN'
      have HR0 := Lib.hid HOWN'.rd
      clear HOWN HOWN'
      go_wp2_with fail
      refine (rNorm_any p h0 hp HR0.out (by omega)).mono ?_
      intro _ w3 h3
      obtain ⟨A3, n3, c3, M3, rfl, hp3, hM3, hb3⟩ := h3.later HB.out
      have HM3 := Lib.hid (pn_cg hM3.out (mp_cg (p := p) (f := fun x => x * a % p) (g := fun z => (a : Int) * z) L (fun x _ => by have := Pm.cz_mod (p := p) (x * a); rw [Nat.mul_comm x a, Int.natCast_mul] at this; rw [Nat.mul_comm x a]; exact this) (by simp)))
      go_wp2
      go_ret
      exact ⟨A3, n3, c3, M3, rfl, hp3, HM3.out, hb3⟩

theorem wide_u32 {q : Nat} (hq : q < 4294967296) : IntKind.u32.wrap (q : Int) = (q : Int) := by simp [IntKind.wrap, IntKind.bits, IntKind.signed]; omega
theorem wide_u64 {a : Nat} (ha : a < 4294967296) : IntKind.u64.wrap (a : Int) = (a : Int) := by rw [IntWalk.u64_in _ (by omega)]
end Go.Proofs.YtmgacikdgbedfaaGreatDoor

/- modpoly: Shift. -/
namespace Pm
open Dg
/-- k places up. -/
def sh (k : Nat) (f : Nat → Int) : Nat → Int := fun j => if j < k then 0 else f (j - k)
theorem sh_cg {p k : Nat} {f g : Nat → Int} (h : Cg p f g) : Cg p (sh k f) (sh k g) := fun j => by
  unfold sh
  by_cases hj : j < k
  · rw [if_pos hj, if_pos hj]; exact cz.refl _
  · rw [if_neg hj, if_neg hj]; exact h _
theorem ld_zeros (k : Nat) (M : List Nat) (j : Nat) : ld (List.replicate k 0 ++ M) j = if j < k then 0 else ld M (j - k) := by
  by_cases hj : j < k
  · rw [if_pos hj, ld_lt (by simp; omega), List.getElem_append_left (by simpa using hj), List.getElem_replicate]
  · rw [if_neg hj]
    by_cases h2 : j - k < M.length
    · rw [ld_lt (by simp; omega), ld_lt h2, List.getElem_append_right (by simp; omega)]
      simp
    · rw [ld_ge (by simp; omega), ld_ge (by omega)]
theorem sh_co (k : Nat) (M : List Nat) : co (List.replicate k 0 ++ M) = sh k (co M) := funext fun j => by
  unfold co sh
  rw [ld_zeros]
  by_cases hj : j < k
  · rw [if_pos hj, if_pos hj]; rfl
  · rw [if_neg hj, if_neg hj]
theorem sh_pn {p k : Nat} {M : List Nat} (h0 : 0 < p) (h : Pn p M) (hl : 0 < M.length) : Pn p (List.replicate k 0 ++ M) := by
  refine pn_of (.inr ?_) fun x hx => ?_
  · rw [ld_zeros, if_neg (by simp; omega)]
    have : (List.replicate k 0 ++ M).length - 1 - k = M.length - 1 := by simp; omega
    rw [this]
    exact nm_top h.1 hl
  · rcases List.mem_append.1 hx with hx | hx
    · rw [List.eq_of_mem_replicate hx]; exact h0
    · exact h.2 x hx
theorem sh_nil (k : Nat) : sh k (co []) = co [] := funext fun j => by
  unfold sh co
  by_cases hj : j < k
  · rw [if_pos hj]; rfl
  · rw [if_neg hj]; rfl
end Pm
namespace Go.Proofs.YtmgacikdgbedfaaGreatDoor
open Go.RowKit Go.IntWalk
attribute [local go_sem ↓] Go.wp_at_zero Go.wp_at_succ

theorem zeros_own {W : World} {b : Nat} (k : Nat) (hk : k ≤ 10000) (hb : b ≤ W.heap.size) : OwU (W.alloc (.cells (madeCells #[.int .u32 0] k) 24)) b (some ⟨W.heap.size, 0, none⟩) k k (List.replicate k 0) := by
  have h := (UB.made W k).own (b := b) (k := k) (fun x hx => by rw [List.eq_of_mem_replicate hx]; omega) hb (by simp) (by simp; unfold maxLen; omega)
  simpa using h
/-- The sources of an appended list. -/
theorem po_src {w w' : World} {b n c : Nat} {ad : Addr} {L : List Nat} (h : Po w b (some ad) n c L) (hb : Below w.heap.size w w') : ∀ (j : Nat) v, (uc L)[j]? = some v → w'.cell? (ad.add j) = some v := by
  intro j v hv
  have hj : j < (uc L).length := by
    rcases Nat.lt_or_ge j (uc L).length with h1 | h1
    · exact h1
    · rw [List.getElem?_eq_none h1] at hv; cases hv
  rw [uc_len] at hj
  obtain ⟨_, ad', e, _, hc⟩ := (h.next hb).rd.at_ j (Dg.ld L j) (Dg.get_of_ld hj)
  injection e with e
  subst e
  rw [uc_at (Dg.get_of_ld hj)] at hv
  injection hv with hv
  rw [← hv]
  exact hc
theorem ow_app {w' : World} {b k n c' : Nat} {A' : Option Addr} {L M : List Nat} (hw : Dg.Wd L) (hw' : Dg.Wd M) (ho : w'.ownsRow b 24 1 (.slice A' (k + n) c') (k + n) (uc L ++ uc M)) : OwU w' b A' (k + n) c' (L ++ M) :=
  ⟨by rw [show uc (L ++ M) = uc L ++ uc M by simp [uc]]; exact ho, fun x hx => by
    rcases List.mem_append.1 hx with hx | hx
    · exact hw x hx
    · exact hw' x hx⟩
end Go.Proofs.YtmgacikdgbedfaaGreatDoor

/- modpoly's laws: Shifts. -/
namespace Go.Proofs.YtmgacikdgbedfaaGreatDoor
open Go.RowKit Go.IntWalk
attribute [local go_sem ↓] Go.wp_at_zero Go.wp_at_succ

/-- nil is nil. -/
def NilOk (A : Option Addr) (n c : Nat) : Prop := A = none → n = 0 ∧ c = 0
/-- The boxed argument. -/
structure BX (w : World) (b : Nat) (a z p : Int) : Prop where
  lt : b < w.heap.size
  c0 : w.cell? ⟨b, 0, none⟩ = some (.int .u32 a)
  c1 : w.cell? ⟨b, 1, none⟩ = some (.int .i64 z)
  c2 : w.cell? ⟨b, 2, none⟩ = some (.int .u32 p)
theorem BX.next {w w' : World} {b : Nat} {a z p : Int} (h : BX w b a z p) (hb : Below w.heap.size w w') : BX w' b a z p :=
  ⟨Nat.lt_of_lt_of_le h.lt hb.size, (hb.cell (p := ⟨b, 0, none⟩) h.lt).trans h.c0, (hb.cell (p := ⟨b, 1, none⟩) h.lt).trans h.c1, (hb.cell (p := ⟨b, 2, none⟩) h.lt).trans h.c2⟩
theorem rd_src {w w' : World} {n c : Nat} {ad : Addr} {L : List Nat} (h : RdU w w.heap.size (some ad) n c L) (hb : Below w.heap.size w w') : ∀ (j : Nat) v, (uc L)[j]? = some v → w'.cell? (ad.add j) = some v := by
  intro j v hv
  have hj : j < (uc L).length := by
    rcases Nat.lt_or_ge j (uc L).length with h1 | h1
    · exact h1
    · rw [List.getElem?_eq_none h1] at hv; cases hv
  rw [uc_len] at hj
  obtain ⟨_, ad', e, _, hc⟩ := (h.next hb).at_ j (Dg.ld L j) (Dg.get_of_ld hj)
  injection e with e
  subst e
  rw [uc_at (Dg.get_of_ld hj)] at hv
  injection hv with hv
  rw [← hv]
  exact hc
theorem pe_same {p : Nat} (h0 : 0 < p) {M M' : List Nat} {f g : Nat → Int} (h : Pm.Pn p M ∧ Pm.Cg p (Pm.co M) f) (h' : Pm.Pn p M' ∧ Pm.Cg p (Pm.co M') g) (e : Pm.Cg p f g) : M = M' :=
  h.1.ext h0 h'.1 ((h.2.trans e).trans h'.2.symm)
theorem make_polys (n : Nat) (hn : n ≤ 17592186044416) (w : World) :
    (Instr.makeSlice 23 (.int .i64 (n : Int)) (.int .i64 (n : Int))).run Tryz.prog w = .ok (.slice (some ⟨w.heap.size, 0, none⟩) n n) (w.alloc (.cells (madeCells #[.int .u32 0] n) 24)) :=
  run_make_row' 23 24 (.int .u32 0) 4 Tryz.underlying23 infoW rfl .i64 .i64 n (by omega) (by omega) w
end Go.Proofs.YtmgacikdgbedfaaGreatDoor
