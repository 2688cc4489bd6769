/- modpoly's laws: the reference's normal form, what is told. -/
import Derived.Test.YtmgacikdgbedfaaDoorF10
namespace Go.Proofs.YtmgacikdgbedfaaDoor
open Go.RowKit Go.IntWalk
attribute [local go_sem ↓] Go.wp_at_zero Go.wp_at_succ

theorem ow_po {w : World} {b n c : Nat} {A : Option Addr} {L : List Nat} (h : OwU w b A n c L) : Po w b A n c L := by
  have hl := h.len
  rcases h.own.2 with ⟨h1, h2⟩ | ⟨g, cap, cur, h1, h2, h3, h4, h5, h6, h7⟩
  · injection h1 with h1 h1' h1''
    exact ⟨hl, by omega, by rw [h1'']; exact Nat.zero_le _, h.wd, .inl h2⟩
  · injection h1 with h1 h1' h1''
    subst h1''
    exact ⟨hl, h4, h5, h.wd, .inr ⟨g, cur, h1, h2, h3, by omega, by simpa using h7⟩⟩
/-- The numbers' rests. -/
def md (p : Nat) (L : List Nat) : List Nat := L.map (· % p)
theorem md_lt {p : Nat} (hp : 0 < p) (L : List Nat) : Lt p (md p L) := fun x hx => by
  obtain ⟨y, _, rfl⟩ := List.mem_map.1 hx
  exact Nat.mod_lt _ hp
theorem md_cg (p : Nat) (L : List Nat) : Pm.Cg p (Pm.co (md p L)) (Pm.co L) := fun k => by
  unfold Pm.co md
  by_cases hk : k < L.length
  · rw [Dg.ld_lt (by simpa using hk), Dg.ld_lt hk, List.getElem_map]
    exact Pm.cz_mod _
  · rw [Dg.ld_ge (by simpa using hk), Dg.ld_ge (by omega)]; exact Pm.cz.refl _
theorem md_more {p k x : Nat} {L : List Nat} (hx : L[k]? = some x) : md p (L.take k) ++ [x % p] = md p (L.take (k + 1)) := by
  unfold md; rw [List.take_add_one, hx]; simp
theorem tm_front {L : List Nat} {n k : Nat} (hn : L.length = n) (hk : k ≤ n) (h : ∀ i, k ≤ i → Dg.ld L i = 0) (ht : k = 0 ∨ Dg.ld L (k - 1) ≠ 0) : k ≤ L.length ∧ Dg.Nm (L.take k) ∧ ∀ i, Dg.ld (L.take k) i = Dg.ld L i := tm_done (by omega) h ht
/-- One word more in a row of one's own. -/
theorem ow_more {w w' : World} {b k c c' y : Nat} {A A' : Option Addr} {L M : List Nat} {z : Int} (h : OwU w b A k c L) (hy : y < 4294967296) (hz : z = y) (hM : L ++ [y] = M) (ho : w'.ownsRow b 27 1 (.slice A' (k + 1) c') (k + 1) (uc L ++ [.int .u32 z])) : OwU w' b A' (k + 1) c' M := by
  subst hM hz
  exact ⟨by rw [show uc (L ++ [y]) = uc L ++ [.int .u32 (y : Int)] by simp [uc]]; exact ho, fun x hx => by
    rcases List.mem_append.1 hx with hx | hx
    · exact h.wd x hx
    · simp at hx; omega⟩
set_option maxRecDepth 100000 in
set_option maxHeartbeats 4000000 in
theorem rNorm_any {A : Option Addr} {n c : Nat} {L : List Nat} {w : World} (p : Nat) (h0 : 0 < p) (hp : p < 4294967296) (h : RdU w w.heap.size A n c L) (hn : n ≤ 17592186044416) :
    Calls Tryd.prog 20 #[.slice A n c, .int .u32 p] w (RetPo p (Pm.co L) w) := by
  have HLEN := Lib.hid h.len
  have HR := Lib.hid h
  obtain ⟨i0, hi0, hz0, hz1, hz2⟩ := info_parts infoU
  have hpn : ¬ p = 0 := by omega
  clear h
  go_enter Tryd.func20, Tryd.ntmps20
  go_wp2_with fail
  go_loopw [5, 10] (fun v kv wr => ∃ (k : Nat) (A0 : Option Addr) (c0 : Nat), kv = .int .i64 k ∧ v = .slice A0 k c0 ∧ k ≤ n ∧ Hid (OwU wr w.heap.size A0 k c0 (md p (L.take k)) ∧ Below w.heap.size w wr)) (fun _ kv _ => n - (intOf kv).toNat)
  case atStart => exact ⟨0, none, 0, rfl, rfl, Nat.zero_le _, Lib.hid ⟨OwU.nil _ _, Below.refl _ _⟩⟩
  case round =>
    obtain ⟨k, A0, c0, rfl, rfl, hk, hI⟩ := hrel
    have HOWN := Lib.hid hI.out.1
    have HB := Lib.hid hI.out.2
    clear hI
    by_cases hkn : k < n
    · obtain ⟨x, hx⟩ : ∃ x, L[k]? = some x := ⟨_, List.getElem?_eq_getElem (by rw [HLEN.out]; exact hkn)⟩
      obtain ⟨hxw, ad, rfl, _, hc⟩ := (HR.out.below HB.out).at_ k x hx
      have hlt : ((k : Int) < n) := by omega
      have HM := Lib.hid (md_more (p := p) hx)
      have hO1 := HOWN.out.own.alloc (.cells #[.int .u32 ((x : Int) % p)] 27)
      go_wp2_with (at_builtin; refine wpList_append_own _ rfl _ _ 26 rfl w.heap.size 27 i0 (.int .u32 0) 1 4 Tryd.underlying26 hi0 hz0 hz1 hz2 rfl (by decide) _ _ _ rfl hO1 ⟨wr.heap.size, 0, none⟩ 1 1 [.int .u32 ((x : Int) % p)] rfl rfl (World.news_of_block (cs := #[.int .u32 ((x : Int) % p)]) (t := 27) (fr := (0, 0)) (heap_alloc_new wr _)) (by simp [Value.oneCell']) (by unfold maxLen; omega) (by omega) (by have := HB.out.size; simp; omega) ?_; intro v' w6 hown' hgrow _)
      have hG : (wr.alloc (.cells #[.int .u32 ((x : Int) % p)] 27)).grownBy w6 (Value.slice A0 k c0).ownBlock := hgrow
      clear hgrow
      obtain ⟨A6, c6, rfl⟩ := row_sl hown'
      have hB1 : Below w.heap.size w (wr.alloc (.cells #[.int .u32 ((x : Int) % p)] 27)) := HB.out.alloc HB.out.size _
      refine ⟨⟨k + 1, A6, c6, by simp, rfl, by omega, Lib.hid ⟨ow_more HOWN.out (Nat.lt_trans (Nat.mod_lt x h0) hp) rfl HM.out hown', hB1.grown hG hB1.size (own_block hO1)⟩⟩, by simp [intOf]; omega⟩
    · obtain rfl : k = n := by omega
      have hmdL : md p (L.take k) = md p L := by rw [List.take_of_length_le (by rw [HLEN.out]; exact Nat.le_refl _)]
      have HOWN' := HOWN.out
      rw [hmdL] at HOWN'
      have HR0 := Lib.hid HOWN'.rd
      have HO := Lib.hid HOWN'
      have hlen := Lib.hid HOWN'.len
      clear HOWN HOWN' hmdL
      go_wp2_with fail
      go_loop [5] (fun a => ∃ j : Nat, j ≤ k ∧ a = .slice A0 j c0 ∧ Hid (∀ i, j ≤ i → Dg.ld (md p L) i = 0)) (fun a => slLen a)
      case atStart => exact ⟨k, Nat.le_refl _, rfl, Lib.hid fun i hi => Dg.ld_ge (by rw [hlen.out]; exact hi)⟩
      case round =>
        obtain ⟨j, hj, rfl, hz⟩ := hrel
        rcases Nat.eq_zero_or_pos j with hj0 | hj0
        · subst hj0
          go_wp2
          go_ret
          exact ⟨A0, 0, c0, _, rfl, (ow_po HO.out).take (Nat.zero_le _), Lib.hid (cut_pn (md_lt h0 L) (md_cg p L) (tm_front hlen.out (by omega) hz.out (.inl rfl))), HB.out⟩
        · obtain ⟨i, rfl⟩ : ∃ i, j = i + 1 := ⟨j - 1, by omega⟩
          obtain ⟨hx, ad, rfl, hb, hc⟩ := HR0.out.at_ i (Dg.ld (md p L) i) (Dg.get_of_ld (by rw [hlen.out]; omega))
          have hmx := HR0.out.mx
          have hle := HR0.out.le
          by_cases hzz : Dg.ld (md p L) i = 0
          · have hc0 : wr.cell? (ad.add i) = some (.int .u32 0) := by rw [hc, hzz]; rfl
            have HZ := Lib.hid hzz
            clear hzz hc
            go_wp2
            go_round
            case rel => exact ⟨i, by omega, rfl, Lib.hid fun q hq => by
              rcases Nat.lt_or_ge i q with h1 | h1
              · exact hz.out q h1
              · rw [show q = i by omega]; exact HZ.out⟩
            case measure => simp [slLen]
          · have hz' : ((Dg.ld (md p L) i : Int) == 0) = false := by simpa using hzz
            have HZ := Lib.hid hzz
            clear hzz
            go_wp2
            go_ret
            exact ⟨_, i + 1, c0, _, rfl, (ow_po HO.out).take hj, Lib.hid (cut_pn (md_lt h0 L) (md_cg p L) (tm_front hlen.out hj hz.out (.inr HZ.out))), HB.out⟩

/-- The modulus, if it is a prime, and the error. -/
def RetGood (p : Nat) (w : World) (e : Ending) (w' : World) : Prop := w = w' ∧ ∃ (q : Nat) (code : Int), e = .returned (.tuple #[.int .u32 q, .int .i64 code]) ∧ Hid ((Nt.Pr p ∧ q = p ∧ code = 0) ∨ (¬ Nt.Pr p ∧ q = 7 ∧ code = 40))
set_option maxHeartbeats 400000 in
theorem good_any (p : Nat) (hp : p < 4294967296) (w : World) : Calls Tryd.prog 15 #[.int .u32 p] w (RetGood p w) := by
  go_enter Tryd.func15, Tryd.ntmps15
  go_wp2_with fail
  refine (refIs_any p rfl hp _).mono ?_
  rintro _ _ ⟨rfl, rfl⟩
  by_cases hpr : Nt.Pr p
  · rw [Nt.isP_iff.2 hpr]
    have HP := Lib.hid hpr
    clear hpr
    go_wp2
    go_ret2
    exact ⟨rfl, p, 0, rfl, Lib.hid (.inl ⟨HP.out, rfl, rfl⟩)⟩
  · rw [Nt.isP_false_iff.2 hpr]
    have HP := Lib.hid hpr
    clear hpr
    go_wp2
    go_ret2
    exact ⟨rfl, 7, 40, rfl, Lib.hid (.inr ⟨HP.out, rfl, rfl⟩)⟩
/-- What is told: an error. -/
theorem ltold_err {v : Value} (z : Int) (hz : z ≠ 0) (w : World) : Calls Tryd.prog 18 #[.slice none 0 0, .int .i64 z, v, .int .i64 z] w (RetBD true w) := by
  have hz' : (z != 0) = true := by simpa using hz
  have hzz : (z == z) = true := by simp
  go_enter Tryd.func18, Tryd.ntmps18
  go_wp2_with fail
  refine (num_any _ _).mono ?_
  rintro _ _ ⟨y, rfl, hy, rfl⟩
  obtain rfl := hy.out
  go_wp2
  go_ret
  exact ⟨rfl, 0, rfl⟩
/-- What is told: a polynomial. -/
theorem ltold_ok {A A' : Option Addr} {B n n' c c' : Nat} {L L' : List Nat} {w : World} (h : RdU w B A n c L) (h' : RdU w B A' n' c' L') (e : L = L') :
    Calls Tryd.prog 18 #[.slice A n c, .int .i64 0, .slice A' n' c', .int .i64 0] w (RetBD true w) := by
  have hLL : (L == L') = true := by simpa using e
  have HS := Lib.hid (lsame_any h h')
  rw [hLL] at HS
  clear h h' hLL
  go_enter Tryd.func18, Tryd.ntmps18
  go_wp2_with fail
  refine (num_any _ _).mono ?_
  rintro _ _ ⟨y, rfl, hy, rfl⟩
  obtain rfl := hy.out
  go_wp2_with fail
  refine HS.out.mono ?_
  rintro _ _ ⟨rfl, j, rfl⟩
  go_wp2
  go_ret
  exact ⟨rfl, j, rfl⟩
end Go.Proofs.YtmgacikdgbedfaaDoor

/- modpoly: Scale and Shift, the reference's and the program's. -/
namespace Go.Proofs.YtmgacikdgbedfaaDoor
open Go.RowKit Go.IntWalk
attribute [local go_sem ↓] Go.wp_at_zero Go.wp_at_succ

theorem mp_more {f : Nat → Nat} {k x : Nat} {L : List Nat} (hx : L[k]? = some x) : (L.take k).map f ++ [f x] = (L.take (k + 1)).map f := by
  rw [List.take_add_one, hx]; simp
theorem mp_cg {p : Nat} {f : Nat → Nat} {g : Int → Int} (L : List Nat) (hf : ∀ x ∈ L, Pm.cz p (f x : Nat) (g x)) (h0 : g 0 = 0) : Pm.Cg p (Pm.co (L.map f)) (fun k => g (Pm.co L k)) := fun k => by
  unfold Pm.co
  dsimp only
  by_cases hk : k < L.length
  · rw [Dg.ld_lt (by simpa using hk), Dg.ld_lt hk, List.getElem_map]
    exact hf _ (List.getElem_mem hk)
  · rw [Dg.ld_ge (show (L.map f).length ≤ k by simpa using hk), Dg.ld_ge (show L.length ≤ k by omega)]
    show Pm.cz p 0 (g 0)
    rw [h0]; exact Pm.cz.refl _
set_option maxRecDepth 100000 in
set_option maxHeartbeats 4000000 in
theorem rScale_any {A : Option Addr} {n c : Nat} {L : List Nat} {w : World} (a p : Nat) (ha : a < 4294967296) (h0 : 0 < p) (hp : p < 4294967296) (h : RdU w w.heap.size A n c L) (hn : n ≤ 17592186044416) :
    Calls Tryd.prog 19 #[.slice A n c, .int .u32 a, .int .u32 p] w (RetPo p (fun k => (a : Int) * Pm.co L k) w) := by
  have HLEN := Lib.hid h.len
  have HR := Lib.hid h
  obtain ⟨i0, hi0, hz0, hz1, hz2⟩ := info_parts infoU
  clear h
  go_enter Tryd.func19, Tryd.ntmps19
  go_wp2_with fail
  go_loopw [7, 12] (fun v kv wr => ∃ (k : Nat) (A0 : Option Addr) (c0 : Nat), kv = .int .i64 k ∧ v = .slice A0 k c0 ∧ k ≤ n ∧ Hid (OwU wr w.heap.size A0 k c0 ((L.take k).map (fun x => x * a % p)) ∧ Below w.heap.size w wr)) (fun _ kv _ => n - (intOf kv).toNat)
  case atStart => exact ⟨0, none, 0, rfl, rfl, Nat.zero_le _, Lib.hid ⟨OwU.nil _ _, Below.refl _ _⟩⟩
  case round =>
    obtain ⟨k, A0, c0, rfl, rfl, hk, hI⟩ := hrel
    have HOWN := Lib.hid hI.out.1
    have HB := Lib.hid hI.out.2
    clear hI
    by_cases hkn : k < n
    · obtain ⟨x, hx⟩ : ∃ x, L[k]? = some x := ⟨_, List.getElem?_eq_getElem (by rw [HLEN.out]; exact hkn)⟩
      obtain ⟨hxw, ad, rfl, _, hc⟩ := (HR.out.below HB.out).at_ k x hx
      have hlt : ((k : Int) < n) := by omega
      have HM := Lib.hid (mp_more (f := fun x => x * a % p) hx)
      go_wp2_with fail
      refine (refMul_any x a p rfl rfl rfl hxw ha hp h0 _).mono ?_
      rintro _ _ ⟨y, rfl, hy, rfl⟩
      have hO1 := HOWN.out.own.alloc (.cells #[.int .u32 y] 27)
      clear hc
      go_wp2_with (at_builtin; refine wpList_append_own _ rfl _ _ 26 rfl w.heap.size 27 i0 (.int .u32 0) 1 4 Tryd.underlying26 hi0 hz0 hz1 hz2 rfl (by decide) _ _ _ rfl hO1 ⟨wr.heap.size, 0, none⟩ 1 1 [.int .u32 y] rfl rfl (World.news_of_block (cs := #[.int .u32 y]) (t := 27) (fr := (0, 0)) (heap_alloc_new wr _)) (by simp [Value.oneCell']) (by unfold maxLen; omega) (by omega) (by have := HB.out.size; simp; omega) ?_; intro v' w6 hown' hgrow _)
      have hG : (wr.alloc (.cells #[.int .u32 y] 27)).grownBy w6 (Value.slice A0 k c0).ownBlock := hgrow
      clear hgrow
      obtain ⟨A6, c6, rfl⟩ := row_sl hown'
      have hB1 : Below w.heap.size w (wr.alloc (.cells #[.int .u32 y] 27)) := HB.out.alloc HB.out.size _
      exact ⟨⟨k + 1, A6, c6, by simp, rfl, by omega, Lib.hid ⟨ow_more HOWN.out (by rw [hy.out]; exact Nat.lt_trans (Nat.mod_lt _ h0) hp) rfl (by rw [hy.out]; exact HM.out) hown', hB1.grown hG hB1.size (own_block hO1)⟩⟩, by simp [intOf]; omega⟩
    · obtain rfl : k = n := by omega
      have HOWN' := HOWN.out
      rw [List.take_of_length_le (by rw [HLEN.out]; exact Nat.le_refl _)] at HOWN'
      have HR0 := Lib.hid HOWN'.rd
      clear HOWN HOWN'
      go_wp2_with fail
      refine (rNorm_any p h0 hp HR0.out (by omega)).mono ?_
      intro _ w3 h3
      obtain ⟨A3, n3, c3, M3, rfl, hp3, hM3, hb3⟩ := h3.later HB.out
      have HM3 := Lib.hid (pn_cg hM3.out (mp_cg (p := p) (f := fun x => x * a % p) (g := fun z => (a : Int) * z) L (fun x _ => by have := Pm.cz_mod (p := p) (x * a); rw [Nat.mul_comm x a, Int.natCast_mul] at this; rw [Nat.mul_comm x a]; exact this) (by simp)))
      go_wp2
      go_ret
      exact ⟨A3, n3, c3, M3, rfl, hp3, HM3.out, hb3⟩

set_option maxRecDepth 100000 in
set_option maxHeartbeats 1000000 in
theorem mScale_none {A : Option Addr} {n c : Nat} {w : World} {z : Int} (p : Nat) (hpr : ¬ Nt.Pr p) (hp : p < 4294967296) (hT : Tabs w) :
    Calls Tryd.prog 16 #[.slice A n c, .int .u32 z, .int .u32 p] w (RetNE 40 w) := by
  have HP := Lib.hid hpr
  have hB0 := below1 w (.cells #[.slice A n c] 26)
  have hT0 := hT.below hB0
  clear hpr
  go_enter Tryd.func16, Tryd.ntmps16
  go_wp2_with fail
  refine (mall_none p HP.out hp hT0).mono ?_
  rintro _ w1 ⟨rfl, hb1⟩
  have HB := Lib.hid ((hB0.trans (hb1.mono hB0.size)).alloc (Nat.le_trans hB0.size hb1.size) (.cells #[.int .u64 0] 63))
  go_wp2
  go_ret2
  exact ⟨rfl, HB.out⟩
theorem wide_u32 {q : Nat} (hq : q < 4294967296) : IntKind.u32.wrap (q : Int) = (q : Int) := by simp [IntKind.wrap, IntKind.bits, IntKind.signed]; omega
theorem wide_u64 {a : Nat} (ha : a < 4294967296) : IntKind.u64.wrap (a : Int) = (a : Int) := by rw [IntWalk.u64_in _ (by omega)]
set_option maxRecDepth 100000 in
set_option maxHeartbeats 1000000 in
theorem mScale_ok {A : Option Addr} {n c : Nat} {L : List Nat} {w : World} (a p : Nat) (ha : a < 4294967296) (hpr : Nt.Pr p) (hp : p < 4294967296) (h : RdU w w.heap.size A n c L) (hn : n ≤ 1099511627776) (hT : Tabs w) :
    Calls Tryd.prog 16 #[.slice A n c, .int .u32 a, .int .u32 p] w (RetPE (fun R => Pm.Pn p R ∧ Pm.Cg p (Pm.co R) (fun k => (a : Int) * Pm.co L k)) w) := by
  have HA := Lib.hid (mall1_any p hpr hp h hn hT)
  have h0 := hpr.pos
  have hpn : ¬ p = 0 := by omega
  clear hpr
  go_enter Tryd.func16, Tryd.ntmps16
  go_wp2_with fail
  refine HA.out.mono ?_
  rintro _ w1 ⟨g, A1, n1, c1, M1, rfl, hg, hcg0, hp1, hM, hn1, hb1⟩
  have hB2 := below1 w1 (.cells #[.int .u64 p] 63)
  have HC0 := Lib.hid ((hB2.cell (p := ⟨g, 0, none⟩) hg).trans hcg0)
  have hP1 := hp1.next hB2
  have HB := Lib.hid (hb1.trans (hB2.mono hb1.size))
  have hsz : w1.heap.size < (w1.alloc (.cells #[.int .u64 p] 63)).heap.size := by simp
  have HCB := Lib.hid (show (w1.alloc (.cells #[.int .u64 p] 63)).cell? ⟨w1.heap.size, 0, none⟩ = some (.int .u64 p) by go_simp)
  clear hcg0 hB2 hp1
  go_wp2_with fail
  generalize w1.alloc (.cells #[.int .u64 p] 63) = W2 at HC0 HCB hP1 HB hsz ⊢
  have hgl : g < W2.heap.size := Nat.lt_trans hg hsz
  have hc0 := HC0.out
  have hcb := HCB.out
  obtain ⟨q, hq⟩ : ∃ q, q = a % p := ⟨_, rfl⟩
  have hq32 : q < 4294967296 := by rw [hq]; exact Nat.lt_of_le_of_lt (Nat.mod_le _ _) ha
  have htm : (a : Int).tmod p = q := by rw [hq]; rfl
  have hw1 : IntKind.u64.wrap (a : Int) = a := wide_u64 ha
  have hw2 : IntKind.u32.wrap (q : Int) = q := wide_u32 hq32
  have HQ := Lib.hid hq
  have HE := Lib.hid (mscale_any p q h0 hp hq32 hP1.rd.drew (by omega))
  have HSZ := Lib.hid (HB.out.size)
  clear hq
  go_region_held3 (fun w' => w'.cell? ⟨w1.heap.size, 0, none⟩ = some (.int .u64 p) ∧ w'.cell? ⟨g, 0, none⟩ = some (.slice A1 n1 c1)) (go_keep)
    (first
      | (go_at_call 39; refine HE.out.mono ?_; rintro _ w3 ⟨A3, n3, c3, M3, rfl, hp3, hM3, hb3⟩; have hcb3 := (hb3.cell (p := ⟨w1.heap.size, 0, none⟩) hsz).trans hcb; have hc03 := (hb3.cell (p := ⟨g, 0, none⟩) hgl).trans hc0)
      | (go_at_call 31; refine (mtold_any hp3).mono ?_; rintro _ _ ⟨A4, c4, rfl, hp4, rfl⟩))
  have HF := Lib.hid (HB.out.drew.trans (hb3.mono HB.out.size))
  have HP4 := Lib.hid (hp4.base HSZ.out)
  have HM3 := Lib.hid (pn_cg hM3.out (f := fun k => (q : Int) * Pm.co M1 k) (g := fun k => (a : Int) * Pm.co L k) (fun k => Pm.cz.mul (by rw [HQ.out]; exact Pm.cz_mod a) (hM.out.2 k)))
  clear hcb3 hc03
  go_wp2
  go_ret2
  exact ⟨A4, n3, c4, M3, rfl, HP4.out, HM3.out, HF.out⟩
end Go.Proofs.YtmgacikdgbedfaaDoor

/- modpoly: Shift. -/
namespace Pm
open Dg
/-- k places up. -/
def sh (k : Nat) (f : Nat → Int) : Nat → Int := fun j => if j < k then 0 else f (j - k)
theorem sh_cg {p k : Nat} {f g : Nat → Int} (h : Cg p f g) : Cg p (sh k f) (sh k g) := fun j => by
  unfold sh
  by_cases hj : j < k
  · rw [if_pos hj, if_pos hj]; exact cz.refl _
  · rw [if_neg hj, if_neg hj]; exact h _
theorem ld_zeros (k : Nat) (M : List Nat) (j : Nat) : ld (List.replicate k 0 ++ M) j = if j < k then 0 else ld M (j - k) := by
  by_cases hj : j < k
  · rw [if_pos hj, ld_lt (by simp; omega), List.getElem_append_left (by simpa using hj), List.getElem_replicate]
  · rw [if_neg hj]
    by_cases h2 : j - k < M.length
    · rw [ld_lt (by simp; omega), ld_lt h2, List.getElem_append_right (by simp; omega)]
      simp
    · rw [ld_ge (by simp; omega), ld_ge (by omega)]
theorem sh_co (k : Nat) (M : List Nat) : co (List.replicate k 0 ++ M) = sh k (co M) := funext fun j => by
  unfold co sh
  rw [ld_zeros]
  by_cases hj : j < k
  · rw [if_pos hj, if_pos hj]; rfl
  · rw [if_neg hj, if_neg hj]
theorem sh_pn {p k : Nat} {M : List Nat} (h0 : 0 < p) (h : Pn p M) (hl : 0 < M.length) : Pn p (List.replicate k 0 ++ M) := by
  refine pn_of (.inr ?_) fun x hx => ?_
  · rw [ld_zeros, if_neg (by simp; omega)]
    have : (List.replicate k 0 ++ M).length - 1 - k = M.length - 1 := by simp; omega
    rw [this]
    exact nm_top h.1 hl
  · rcases List.mem_append.1 hx with hx | hx
    · rw [List.eq_of_mem_replicate hx]; exact h0
    · exact h.2 x hx
theorem sh_nil (k : Nat) : sh k (co []) = co [] := funext fun j => by
  unfold sh co
  by_cases hj : j < k
  · rw [if_pos hj]; rfl
  · rw [if_neg hj]; rfl
end Pm
namespace Go.Proofs.YtmgacikdgbedfaaDoor
open Go.RowKit Go.IntWalk
attribute [local go_sem ↓] Go.wp_at_zero Go.wp_at_succ

set_option maxRecDepth 100000 in
set_option maxHeartbeats 1000000 in
theorem mShift_none {A : Option Addr} {n c : Nat} {w : World} {z : Int} (p : Nat) (hpr : ¬ Nt.Pr p) (hp : p < 4294967296) (hT : Tabs w) :
    Calls Tryd.prog 17 #[.slice A n c, .int .i64 z, .int .u32 p] w (RetNE 40 w) := by
  have HP := Lib.hid hpr
  have hB0 := below1 w (.cells #[.slice A n c] 26)
  have hT0 := hT.below hB0
  clear hpr
  go_enter Tryd.func17, Tryd.ntmps17
  go_wp2_with fail
  refine (mall_none p HP.out hp hT0).mono ?_
  rintro _ w1 ⟨rfl, hb1⟩
  have HB := Lib.hid ((hB0.trans (hb1.mono hB0.size)).alloc (Nat.le_trans hB0.size hb1.size) (.cells #[.int .u64 0] 63))
  go_wp2
  go_ret2
  exact ⟨rfl, HB.out⟩
set_option maxRecDepth 100000 in
set_option maxHeartbeats 1000000 in
theorem mShift_far {A : Option Addr} {n c : Nat} {L : List Nat} {w : World} (z : Int) (hz : z < 0 ∨ 10000 < z) (p : Nat) (hpr : Nt.Pr p) (hp : p < 4294967296) (h : RdU w w.heap.size A n c L) (hn : n ≤ 1099511627776) (hT : Tabs w) :
    Calls Tryd.prog 17 #[.slice A n c, .int .i64 z, .int .u32 p] w (RetNE 1 w) := by
  have HA := Lib.hid (mall1_any p hpr hp h hn hT)
  clear hpr
  go_enter Tryd.func17, Tryd.ntmps17
  go_wp2_with fail
  refine HA.out.mono ?_
  rintro _ w1 ⟨g, A1, n1, c1, M1, rfl, hg, hcg0, hp1, hM, hn1, hb1⟩
  have HB := Lib.hid (hb1.alloc hb1.size (.cells #[.int .u64 p] 63))
  clear hcg0 hp1 hM hn1
  rcases hz with hz | hz
  · go_wp2
    go_ret2
    exact ⟨rfl, HB.out⟩
  · by_cases hz0 : z < 0
    · omega
    · go_wp2
      go_ret2
      exact ⟨rfl, HB.out⟩

theorem zeros_own {W : World} {b : Nat} (k : Nat) (hk : k ≤ 10000) (hb : b ≤ W.heap.size) : OwU (W.alloc (.cells (madeCells #[.int .u32 0] k) 27)) b (some ⟨W.heap.size, 0, none⟩) k k (List.replicate k 0) := by
  have h := (UB.made W k).own (b := b) (k := k) (fun x hx => by rw [List.eq_of_mem_replicate hx]; omega) hb (by simp) (by simp; unfold maxLen; omega)
  simpa using h
/-- The sources of an appended list. -/
theorem po_src {w w' : World} {b n c : Nat} {ad : Addr} {L : List Nat} (h : Po w b (some ad) n c L) (hb : Below w.heap.size w w') : ∀ (j : Nat) v, (uc L)[j]? = some v → w'.cell? (ad.add j) = some v := by
  intro j v hv
  have hj : j < (uc L).length := by
    rcases Nat.lt_or_ge j (uc L).length with h1 | h1
    · exact h1
    · rw [List.getElem?_eq_none h1] at hv; cases hv
  rw [uc_len] at hj
  obtain ⟨_, ad', e, _, hc⟩ := (h.next hb).rd.at_ j (Dg.ld L j) (Dg.get_of_ld hj)
  injection e with e
  subst e
  rw [uc_at (Dg.get_of_ld hj)] at hv
  injection hv with hv
  rw [← hv]
  exact hc
theorem ow_app {w' : World} {b k n c' : Nat} {A' : Option Addr} {L M : List Nat} (hw : Dg.Wd L) (hw' : Dg.Wd M) (ho : w'.ownsRow b 27 1 (.slice A' (k + n) c') (k + n) (uc L ++ uc M)) : OwU w' b A' (k + n) c' (L ++ M) :=
  ⟨by rw [show uc (L ++ M) = uc L ++ uc M by simp [uc]]; exact ho, fun x hx => by
    rcases List.mem_append.1 hx with hx | hx
    · exact hw x hx
    · exact hw' x hx⟩
set_option maxRecDepth 100000 in
set_option maxHeartbeats 4000000 in
theorem mShift_ok {A : Option Addr} {n c : Nat} {L : List Nat} {w : World} (k : Nat) (hk : k ≤ 10000) (p : Nat) (hpr : Nt.Pr p) (hp : p < 4294967296) (h : RdU w w.heap.size A n c L) (hn : n ≤ 1099511627776) (hT : Tabs w) :
    Calls Tryd.prog 17 #[.slice A n c, .int .i64 k, .int .u32 p] w (RetPE (fun R => Pm.Pn p R ∧ Pm.Cg p (Pm.co R) (Pm.sh k (Pm.co L))) w) := by
  have HA := Lib.hid (mall1_any p hpr hp h hn hT)
  have h0 := hpr.pos
  have hmk := Lib.hid (fun W : World => make_words k (by omega) W)
  obtain ⟨i0, hi0, hz0, hz1, hz2⟩ := info_parts infoU
  clear hpr
  go_enter Tryd.func17, Tryd.ntmps17
  go_wp2_with fail
  refine HA.out.mono ?_
  rintro _ w1 ⟨g, A1, n1, c1, M1, rfl, hg, hcg0, hp1, hM, hn1, hb1⟩
  have hB2 := below1 w1 (.cells #[.int .u64 p] 63)
  have HC0 := Lib.hid ((hB2.cell (p := ⟨g, 0, none⟩) hg).trans hcg0)
  have HP1 := Lib.hid (hp1.next hB2)
  have HB := Lib.hid (hb1.trans (hB2.mono hb1.size))
  have hgl : g < (w1.alloc (.cells #[.int .u64 p] 63)).heap.size := by simp; omega
  have hlen := Lib.hid hp1.len
  clear hcg0 hB2 hp1
  have hc0 := HC0.out
  have hk0 : ¬ (k : Int) < 0 := by omega
  have hk1 : ¬ 10000 < (k : Int) := by omega
  rcases Nat.eq_zero_or_pos n1 with e1 | e1
  · subst e1
    have hM1 : M1 = [] := List.eq_nil_of_length_eq_zero hlen.out
    subst hM1
    go_wp2
    go_ret2
    exact ⟨none, 0, 0, [], rfl, Po.nil _ _ _ _ (Nat.zero_le _), Lib.hid ⟨Pm.Pn.nil, by rw [← Pm.sh_nil k]; exact Pm.sh_cg hM.out.2⟩, HB.out⟩
  · have hn0 : ((n1 : Int) == 0) = false := by simp; omega
    go_wp2_with fail
    clear hc0
    generalize w1.alloc (.cells #[.int .u64 p] 63) = W2 at HC0 HP1 HB hgl ⊢
    have hc0 := HC0.out
    have hne1 := World.new_ne W2 ⟨g, 0, none⟩ hc0
    obtain ⟨ad, rfl⟩ : ∃ ad, A1 = some ad := by
      rcases HP1.out.at_ with h | ⟨g', _, h, _⟩
      · omega
      · exact ⟨_, h⟩
    have hB3 : Below W2.heap.size W2 (W2.alloc (.cells (madeCells #[.int .u32 0] k) 27)).drew := (below1 W2 _).drew
    have HOWN := Lib.hid ((zeros_own (W := W2) k hk HB.out.size).next (Below.refl _ _).drew)
    have HSRC := Lib.hid (po_src HP1.out hB3)
    have HUL := Lib.hid (show (uc M1).length = n1 * 1 by rw [uc_len, hlen.out, Nat.mul_one])
    have HBW := Lib.hid (Nat.le_trans HB.out.size hB3.size)
    have HB3 := Lib.hid (HB.out.trans (hB3.mono HB.out.size))
    have hmk' := hmk.out
    clear hB3
    go_region_law (first
      | (refine step_append_lies _ (by rfl) _ _ _ (by rfl) w.heap.size 27 i0 (.int .u32 0) 1 4 Tryd.underlying25 hi0 hz0 hz1 hz2 rfl (by decide) (.slice (some ⟨W2.heap.size, 0, none⟩) k k) k (uc (List.replicate k 0)) (by rfl) HOWN.out.own ad n1 c1 (uc M1) (by rfl) HUL.out HSRC.out (uc_one M1) e1 (by unfold maxLen; omega) (by omega) HBW.out _ rfl ?_; intro g5 cap5 w5 hown5 hgrow5 hat5 hlt5; have HPO := Lib.hid (ow_po (ow_app HOWN.out.wd HP1.out.wd hown5)))
      | (go_simp; go_at_call 31; refine (mtold_any HPO.out).mono ?_; rintro _ _ ⟨A4, c4, rfl, hp4, rfl⟩))
    all_goals
      have HX := Lib.hid (HB3.out.grown hgrow5 HBW.out (own_block HOWN.out.own))
      have HP4 := Lib.hid hp4
      clear hp4 hgrow5 hown5 hat5 hlt5 hmk'
      go_wp2
      go_ret2
      exact ⟨A4, k + n1, c4, _, rfl, HP4.out, Lib.hid ⟨Pm.sh_pn h0 hM.out.1 (by rw [hlen.out]; exact e1), by rw [Pm.sh_co]; exact Pm.sh_cg hM.out.2⟩, HX.out⟩
end Go.Proofs.YtmgacikdgbedfaaDoor

/- modpoly's laws: Shifts. -/
namespace Go.Proofs.YtmgacikdgbedfaaDoor
open Go.RowKit Go.IntWalk
attribute [local go_sem ↓] Go.wp_at_zero Go.wp_at_succ

/-- nil is nil. -/
def NilOk (A : Option Addr) (n c : Nat) : Prop := A = none → n = 0 ∧ c = 0
/-- The boxed argument. -/
structure BX (w : World) (b : Nat) (a z p : Int) : Prop where
  lt : b < w.heap.size
  c0 : w.cell? ⟨b, 0, none⟩ = some (.int .u32 a)
  c1 : w.cell? ⟨b, 1, none⟩ = some (.int .i64 z)
  c2 : w.cell? ⟨b, 2, none⟩ = some (.int .u32 p)
theorem BX.next {w w' : World} {b : Nat} {a z p : Int} (h : BX w b a z p) (hb : Below w.heap.size w w') : BX w' b a z p :=
  ⟨Nat.lt_of_lt_of_le h.lt hb.size, (hb.cell (p := ⟨b, 0, none⟩) h.lt).trans h.c0, (hb.cell (p := ⟨b, 1, none⟩) h.lt).trans h.c1, (hb.cell (p := ⟨b, 2, none⟩) h.lt).trans h.c2⟩
set_option maxRecDepth 100000 in
set_option maxHeartbeats 4000000 in
theorem shifts_none {A : Option Addr} {n c : Nat} {L : List Nat} {w : World} (a p : Nat) (z : Int) (ha : a < 4294967296) (hp : p < 4294967296) (hpr : ¬ Nt.Pr p) (h : RdU w w.heap.size A n c L) (hn : n ≤ 1048576) (hT : Tabs w) :
    Calls Tryd.prog 5 #[.slice A n c, .agg #[.int .u32 a, .int .i64 z, .int .u32 p]] w (RetT w) := by
  have hB0 := below1 w (.cells #[.int .u32 a, .int .i64 z, .int .u32 p] 37)
  have HBX := Lib.hid (show BX (w.alloc (.cells #[.int .u32 a, .int .i64 z, .int .u32 p] 37)) w.heap.size a z p from ⟨by simp, by go_simp, by go_simp, by go_simp⟩)
  have HP := Lib.hid hpr
  have HR := Lib.hid h
  clear hpr h
  go_enter Tryd.func5, Tryd.ntmps5
  go_wp2_with fail
  refine (good_any p hp _).mono ?_
  rintro _ _ ⟨rfl, q, code, rfl, hq⟩
  obtain ⟨rfl, rfl⟩ : q = 7 ∧ code = 40 := by
    rcases hq.out with ⟨h, _⟩ | ⟨_, h⟩
    · exact absurd h HP.out
    · exact h
  have HB0 := Lib.hid hB0
  have HT0 := Lib.hid (hT.below hB0)
  have HR0 := Lib.hid (HR.out.next hB0)
  clear hB0 hq
  generalize w.alloc (.cells #[.int .u32 a, .int .i64 z, .int .u32 p] 37) = W0 at HBX HB0 HT0 HR0 ⊢
  obtain ⟨b, hb⟩ : ∃ b, b = w.heap.size := ⟨_, rfl⟩
  rw [← hb] at HBX ⊢
  have hbw : w.heap.size ≤ b := by omega
  clear hb
  have hc0 := HBX.out.c0
  have hc2 := HBX.out.c2
  go_wp2_with fail
  refine (mScale_none p HP.out hp HT0.out).mono ?_
  rintro _ w1 ⟨rfl, hb1⟩
  have HX1 := Lib.hid (HBX.out.next hb1)
  have HB1 := Lib.hid (HB0.out.trans (hb1.mono HB0.out.size))
  have hc1' := HX1.out.c1
  have hc2' := HX1.out.c2
  clear hc0 hc2 hb1
  go_wp2_with fail
  refine (mShift_none p HP.out hp (hT.below HB1.out)).mono ?_
  rintro _ w2 ⟨rfl, hb2⟩
  have HX2 := Lib.hid (HX1.out.next hb2)
  have HB2 := Lib.hid (HB1.out.trans (hb2.mono HB1.out.size))
  have hc0'' := HX2.out.c0
  clear hc1' hc2' hb2
  go_wp2_with fail
  refine (rScale_any a 7 ha (by omega) (by omega) (HR.out.next HB2.out) (by omega)).mono ?_
  rintro _ w3 ⟨A3, n3, c3, M3, rfl, hp3, hM3, hb3⟩
  have HX3 := Lib.hid (HX2.out.next hb3)
  have HB3 := Lib.hid (HB2.out.trans (hb3.mono HB2.out.size))
  clear hc0'' hp3 hM3 hb3
  go_wp2_with fail
  refine (ltold_err 40 (by decide) _).mono ?_
  rintro _ _ ⟨rfl, j, rfl⟩
  have HX4 := Lib.hid (HX3.out.next (below_drewN (Below.refl _ _) j))
  have HB4 := Lib.hid (below_drewN HB3.out j)
  generalize w3.drewN j = W4 at HX4 HB4 ⊢
  have hc4 := HX4.out.c1
  have hnn : ((40 : Int) != 0) = true := by decide
  have hn0 : ((40 : Int) == 0) = false := by decide
  go_wp2_with fail
  refine (ltold_err 40 (by decide) _).mono ?_
  rintro _ _ ⟨rfl, j2, rfl⟩
  have HB5 := Lib.hid (below_drewN HB4.out j2)
  generalize W4.drewN j2 = W5 at HB5 ⊢
  clear hc4 hnn hn0
  go_wp2_with fail
  refine (awake_any W5 (hT.below HB5.out)).mono ?_
  rintro _ w6 ⟨rfl, hb6⟩
  have HB6 := Lib.hid (HB5.out.trans (hb6.mono HB5.out.size))
  go_wp2
  go_ret
  exact ⟨rfl, HB6.out⟩
theorem rd_src {w w' : World} {n c : Nat} {ad : Addr} {L : List Nat} (h : RdU w w.heap.size (some ad) n c L) (hb : Below w.heap.size w w') : ∀ (j : Nat) v, (uc L)[j]? = some v → w'.cell? (ad.add j) = some v := by
  intro j v hv
  have hj : j < (uc L).length := by
    rcases Nat.lt_or_ge j (uc L).length with h1 | h1
    · exact h1
    · rw [List.getElem?_eq_none h1] at hv; cases hv
  rw [uc_len] at hj
  obtain ⟨_, ad', e, _, hc⟩ := (h.next hb).at_ j (Dg.ld L j) (Dg.get_of_ld hj)
  injection e with e
  subst e
  rw [uc_at (Dg.get_of_ld hj)] at hv
  injection hv with hv
  rw [← hv]
  exact hc
theorem pe_same {p : Nat} (h0 : 0 < p) {M M' : List Nat} {f g : Nat → Int} (h : Pm.Pn p M ∧ Pm.Cg p (Pm.co M) f) (h' : Pm.Pn p M' ∧ Pm.Cg p (Pm.co M') g) (e : Pm.Cg p f g) : M = M' :=
  h.1.ext h0 h'.1 ((h.2.trans e).trans h'.2.symm)
theorem make_polys (n : Nat) (hn : n ≤ 17592186044416) (w : World) :
    (Instr.makeSlice 26 (.int .i64 (n : Int)) (.int .i64 (n : Int))).run Tryd.prog w = .ok (.slice (some ⟨w.heap.size, 0, none⟩) n n) (w.alloc (.cells (madeCells #[.int .u32 0] n) 27)) :=
  run_make_row' 26 27 (.int .u32 0) 4 Tryd.underlying26 infoW rfl .i64 .i64 n (by omega) (by omega) w
set_option maxRecDepth 100000 in
set_option maxHeartbeats 4000000 in
theorem shifts_far {A : Option Addr} {n c : Nat} {L : List Nat} {w : World} (a p : Nat) (z : Int) (hz : z < 0 ∨ 10000 < z) (ha : a < 4294967296) (hp : p < 4294967296) (hpr : Nt.Pr p) (h : RdU w w.heap.size A n c L) (hn : n ≤ 1048576) (hT : Tabs w) :
    Calls Tryd.prog 5 #[.slice A n c, .agg #[.int .u32 a, .int .i64 z, .int .u32 p]] w (RetT w) := by
  have hB0 := below1 w (.cells #[.int .u32 a, .int .i64 z, .int .u32 p] 37)
  have HBX := Lib.hid (show BX (w.alloc (.cells #[.int .u32 a, .int .i64 z, .int .u32 p] 37)) w.heap.size a z p from ⟨by simp, by go_simp, by go_simp, by go_simp⟩)
  have HP := Lib.hid hpr
  have HR := Lib.hid h
  have h0 := hpr.pos
  clear hpr h
  go_enter Tryd.func5, Tryd.ntmps5
  go_wp2_with fail
  refine (good_any p hp _).mono ?_
  rintro _ _ ⟨rfl, q, code, rfl, hq⟩
  obtain ⟨rfl, rfl⟩ : q = p ∧ code = 0 := by
    rcases hq.out with ⟨_, h⟩ | ⟨h, _⟩
    · exact h
    · exact absurd HP.out h
  have HB0 := Lib.hid hB0
  have HT0 := Lib.hid (hT.below hB0)
  have HR0 := Lib.hid (HR.out.next hB0)
  clear hB0 hq
  generalize w.alloc (.cells #[.int .u32 a, .int .i64 z, .int .u32 q] 37) = W0 at HBX HB0 HT0 HR0 ⊢
  obtain ⟨b, hb⟩ : ∃ b, b = w.heap.size := ⟨_, rfl⟩
  rw [← hb] at HBX ⊢
  have hbw : w.heap.size ≤ b := by omega
  clear hb
  have hc0 := HBX.out.c0
  have hc2 := HBX.out.c2
  go_wp2_with fail
  refine (mScale_ok a q ha HP.out hp HR0.out (by omega) HT0.out).mono ?_
  rintro _ w1 ⟨A1, n1, c1, M1, rfl, hp1, hM1, hb1⟩
  have HX1 := Lib.hid (HBX.out.next hb1)
  have HB1 := Lib.hid (HB0.out.trans (hb1.mono HB0.out.size))
  have HP1 := Lib.hid hp1
  have hc1' := HX1.out.c1
  have hc2' := HX1.out.c2
  clear hc0 hc2 hb1 hp1
  go_wp2_with fail
  refine (mShift_far z hz q HP.out hp (HR.out.next HB1.out) (by omega) (hT.below HB1.out)).mono ?_
  rintro _ w2 ⟨rfl, hb2⟩
  have HX2 := Lib.hid (HX1.out.next hb2)
  have HB2 := Lib.hid (HB1.out.trans (hb2.mono HB1.out.size))
  have HP1' := Lib.hid (HP1.out.next hb2)
  have hc0'' := HX2.out.c0
  clear hc1' hc2' hb2
  go_wp2_with fail
  refine (rScale_any a q ha h0 hp (HR.out.next HB2.out) (by omega)).mono ?_
  rintro _ w3 ⟨A3, n3, c3, M3, rfl, hp3, hM3, hb3⟩
  have HX3 := Lib.hid (HX2.out.next hb3)
  have HB3 := Lib.hid (HB2.out.trans (hb3.mono HB2.out.size))
  have HTO := Lib.hid (ltold_ok (HP1'.out.next hb3).rd hp3.rd (pe_same h0 hM1.out hM3.out (Pm.Cg.refl _)))
  clear hc0'' hp3 hM3 hb3
  go_wp2_with fail
  refine HTO.out.mono ?_
  rintro _ _ ⟨rfl, j, rfl⟩
  have HX4 := Lib.hid (HX3.out.next (below_drewN (Below.refl _ _) j))
  have HB4 := Lib.hid (below_drewN HB3.out j)
  clear HTO
  generalize w3.drewN j = W4 at HX4 HB4 ⊢
  have hc4 := HX4.out.c1
  rcases hz with hz | hz
  · go_wp2_with fail
    refine (ltold_err 1 (by decide) _).mono ?_
    rintro _ _ ⟨rfl, j2, rfl⟩
    have HB5 := Lib.hid (below_drewN HB4.out j2)
    generalize W4.drewN j2 = W5 at HB5 ⊢
    clear hc4
    go_wp2_with fail
    refine (awake_any W5 (hT.below HB5.out)).mono ?_
    rintro _ w6 ⟨rfl, hb6⟩
    have HB6 := Lib.hid (HB5.out.trans (hb6.mono HB5.out.size))
    go_wp2
    go_ret
    exact ⟨rfl, HB6.out⟩
  · have hz0 : ¬ z < 0 := by omega
    go_wp2_with fail
    refine (ltold_err 1 (by decide) _).mono ?_
    rintro _ _ ⟨rfl, j2, rfl⟩
    have HB5 := Lib.hid (below_drewN HB4.out j2)
    generalize W4.drewN j2 = W5 at HB5 ⊢
    clear hc4
    go_wp2_with fail
    refine (awake_any W5 (hT.below HB5.out)).mono ?_
    rintro _ w6 ⟨rfl, hb6⟩
    have HB6 := Lib.hid (HB5.out.trans (hb6.mono HB5.out.size))
    go_wp2
    go_ret
    exact ⟨rfl, HB6.out⟩
set_option maxRecDepth 100000 in
set_option maxHeartbeats 4000000 in
theorem shifts_ok {A : Option Addr} {n c : Nat} {L : List Nat} {w : World} (a p : Nat) (k : Nat) (hk : k ≤ 10000) (hnil : NilOk A n c) (ha : a < 4294967296) (hp : p < 4294967296) (hpr : Nt.Pr p) (h : RdU w w.heap.size A n c L) (hn : n ≤ 1048576) (hT : Tabs w) :
    Calls Tryd.prog 5 #[.slice A n c, .agg #[.int .u32 a, .int .i64 (k : Int), .int .u32 p]] w (RetT w) := by
  have hB0 := below1 w (.cells #[.int .u32 a, .int .i64 (k : Int), .int .u32 p] 37)
  have HBX := Lib.hid (show BX (w.alloc (.cells #[.int .u32 a, .int .i64 (k : Int), .int .u32 p] 37)) w.heap.size a (k : Int) p from ⟨by simp, by go_simp, by go_simp, by go_simp⟩)
  have HP := Lib.hid hpr
  have HR := Lib.hid h
  have h0 := hpr.pos
  clear hpr h
  go_enter Tryd.func5, Tryd.ntmps5
  go_wp2_with fail
  refine (good_any p hp _).mono ?_
  rintro _ _ ⟨rfl, q, code, rfl, hq⟩
  obtain ⟨rfl, rfl⟩ : q = p ∧ code = 0 := by
    rcases hq.out with ⟨_, h⟩ | ⟨h, _⟩
    · exact h
    · exact absurd HP.out h
  have HB0 := Lib.hid hB0
  have HT0 := Lib.hid (hT.below hB0)
  have HR0 := Lib.hid (HR.out.next hB0)
  clear hB0 hq
  generalize w.alloc (.cells #[.int .u32 a, .int .i64 (k : Int), .int .u32 q] 37) = W0 at HBX HB0 HT0 HR0 ⊢
  obtain ⟨b, hb⟩ : ∃ b, b = w.heap.size := ⟨_, rfl⟩
  rw [← hb] at HBX ⊢
  have hbw : w.heap.size ≤ b := by omega
  clear hb
  have hc0 := HBX.out.c0
  have hc2 := HBX.out.c2
  go_wp2_with fail
  refine (mScale_ok a q ha HP.out hp HR0.out (by omega) HT0.out).mono ?_
  rintro _ w1 ⟨A1, n1, c1, M1, rfl, hp1, hM1, hb1⟩
  have HX1 := Lib.hid (HBX.out.next hb1)
  have HB1 := Lib.hid (HB0.out.trans (hb1.mono HB0.out.size))
  have HP1 := Lib.hid hp1
  have hc1' := HX1.out.c1
  have hc2' := HX1.out.c2
  clear hc0 hc2 hb1 hp1
  go_wp2_with fail
  refine (mShift_ok k hk q HP.out hp (HR.out.next HB1.out) (by omega) (hT.below HB1.out)).mono ?_
  rintro _ w2 ⟨A2, n2, c2, M2, rfl, hp2, hM2, hb2⟩
  have HP2 := Lib.hid hp2
  clear hp2
  have HX2 := Lib.hid (HX1.out.next hb2)
  have HB2 := Lib.hid (HB1.out.trans (hb2.mono HB1.out.size))
  have HP1' := Lib.hid (HP1.out.next hb2)
  have hc0'' := HX2.out.c0
  clear hc1' hc2' hb2
  go_wp2_with fail
  refine (rScale_any a q ha h0 hp (HR.out.next HB2.out) (by omega)).mono ?_
  rintro _ w3 ⟨A3, n3, c3, M3, rfl, hp3, hM3, hb3⟩
  have HX3 := Lib.hid (HX2.out.next hb3)
  have HB3 := Lib.hid (HB2.out.trans (hb3.mono HB2.out.size))
  have HTO := Lib.hid (ltold_ok (HP1'.out.next hb3).rd hp3.rd (pe_same h0 hM1.out hM3.out (Pm.Cg.refl _)))
  have HP2' := Lib.hid (HP2.out.next hb3)
  clear hc0'' hp3 hM3 hb3
  go_wp2_with fail
  refine HTO.out.mono ?_
  rintro _ _ ⟨rfl, j, rfl⟩
  have HX4 := Lib.hid (HX3.out.next (below_drewN (Below.refl _ _) j))
  have HB4 := Lib.hid (below_drewN HB3.out j)
  have HP2'' := Lib.hid (HP2'.out.next (below_drewN (Below.refl _ _) j))
  clear HP2 HP2'
  clear HTO
  generalize w3.drewN j = W4 at HX4 HB4 HP2'' ⊢
  have hc4 := HX4.out.c1
  have hk0 : ¬ (k : Int) < 0 := by omega
  have hk1 : ¬ 10000 < (k : Int) := by omega
  have hmk := fun W : World => make_polys k (by omega) W
  obtain ⟨i0, hi0, hz0, hz1, hz2⟩ := info_parts infoU
  have HOWN := Lib.hid (zeros_own (W := W4) (b := W4.heap.size) k hk (Nat.le_refl _))
  have hB5 := below1 W4 (.cells (madeCells #[.int .u32 0] k) 27)
  rcases A with _ | ad
  · obtain ⟨rfl, rfl⟩ := hnil rfl
    have hL : L = [] := List.eq_nil_of_length_eq_zero HR.out.len
    subst hL
    have HRES : RdU (W4.alloc (.cells (madeCells #[.int .u32 0] k) 27)) (W4.alloc (.cells (madeCells #[.int .u32 0] k) 27)).heap.size (some ⟨W4.heap.size, 0, none⟩) k k (List.replicate k 0 ++ []) ∧ Below W4.heap.size W4 (W4.alloc (.cells (madeCells #[.int .u32 0] k) 27)) := ⟨by rw [List.append_nil]; exact HOWN.out.rd, hB5⟩
    go_wp2_with (at_builtin; refine wpList_append_own_none rfl _ _ 26 rfl W4.heap.size 27 i0 1 Tryd.underlying26 hi0 _ _ _ rfl HOWN.out.own rfl ?_)
    clear hmk hc4
    have HO := Lib.hid HRES
    clear HRES
    go_wp2_with fail
    refine (rNorm_any q h0 hp HO.out.1 (by omega)).mono ?_
    intro _ w7 h7
    obtain ⟨A7, n7, c7, M7, rfl, hp7, hM7, hb7⟩ := h7.later HO.out.2
    have HB7 := Lib.hid (HB4.out.trans (hb7.mono HB4.out.size))
    have HT7 := Lib.hid (ltold_ok (HP2''.out.next hb7).rd hp7.rd (pe_same h0 hM2.out hM7.out (Pm.Cg.of_eq fun j => by rw [Pm.sh_co])))
    clear hp7 hM7 hb7
    go_wp2_with fail
    refine HT7.out.mono ?_
    rintro _ _ ⟨rfl, j2, rfl⟩
    have HB8 := Lib.hid (below_drewN HB7.out j2)
    clear HT7
    generalize w7.drewN j2 = W8 at HB8 ⊢
    go_wp2_with fail
    refine (awake_any W8 (hT.below HB8.out)).mono ?_
    rintro _ w9 ⟨rfl, hb9⟩
    have HB9 := Lib.hid (HB8.out.trans (hb9.mono HB8.out.size))
    go_wp2
    go_ret
    exact ⟨rfl, HB9.out⟩
  · have HSRC := Lib.hid (rd_src (HR.out.next HB4.out) hB5)
    have HUL := Lib.hid (show (uc L).length = n * 1 by rw [uc_len, HR.out.len, Nat.mul_one])
    go_wp2_with (at_builtin; refine wpList_append_own _ rfl _ _ 26 rfl W4.heap.size 27 i0 (.int .u32 0) 1 4 Tryd.underlying26 hi0 hz0 hz1 hz2 rfl (by decide) _ _ _ rfl HOWN.out.own ad n c (uc L) rfl HUL.out HSRC.out (uc_one L) (by unfold maxLen; omega) (by omega) (by simp) ?_; intro v' w6 hown' hgrow _; obtain ⟨A6, c6, rfl⟩ := row_sl hown')
    have HRES : RdU w6 w6.heap.size A6 (k + n) c6 (List.replicate k 0 ++ L) ∧ Below W4.heap.size W4 w6 := ⟨(ow_app HOWN.out.wd HR.out.wd hown').rd, hB5.grown hgrow hB5.size (own_block HOWN.out.own)⟩
    clear hmk hc4 hown' hgrow
    have HO := Lib.hid HRES
    clear HRES
    go_wp2_with fail
    refine (rNorm_any q h0 hp HO.out.1 (by omega)).mono ?_
    intro _ w7 h7
    obtain ⟨A7, n7, c7, M7, rfl, hp7, hM7, hb7⟩ := h7.later HO.out.2
    have HB7 := Lib.hid (HB4.out.trans (hb7.mono HB4.out.size))
    have HT7 := Lib.hid (ltold_ok (HP2''.out.next hb7).rd hp7.rd (pe_same h0 hM2.out hM7.out (Pm.Cg.of_eq fun j => by rw [Pm.sh_co])))
    clear hp7 hM7 hb7
    go_wp2_with fail
    refine HT7.out.mono ?_
    rintro _ _ ⟨rfl, j2, rfl⟩
    have HB8 := Lib.hid (below_drewN HB7.out j2)
    clear HT7
    generalize w7.drewN j2 = W8 at HB8 ⊢
    go_wp2_with fail
    refine (awake_any W8 (hT.below HB8.out)).mono ?_
    rintro _ w9 ⟨rfl, hb9⟩
    have HB9 := Lib.hid (HB8.out.trans (hb9.mono HB8.out.size))
    go_wp2
    go_ret
    exact ⟨rfl, HB9.out⟩
theorem walk_ModpolyShifts {A : Option Addr} {n c : Nat} {L : List Nat} {w : World} (h : RdU w w.heap.size A n c L) (hnil : A = none → n = 0 ∧ c = 0) (hn : n ≤ 1048576) (a : Nat) (ha : a < 4294967296) (z : Int) (_ : -9223372036854775808 ≤ z) (_ : z ≤ 9223372036854775807) (p : Nat) (hp : p < 4294967296) (hT : Tabs w) :
    Calls Tryd.prog 5 #[.slice A n c, .agg #[.int .u32 a, .int .i64 z, .int .u32 p]] w (RetT w) := by
  by_cases hpr : Nt.Pr p
  · by_cases h1 : z < 0
    · exact shifts_far a p z (.inl h1) ha hp hpr h hn hT
    · by_cases h2 : 10000 < z
      · exact shifts_far a p z (.inr h2) ha hp hpr h hn hT
      · obtain ⟨k, rfl⟩ : ∃ k : Nat, z = k := ⟨z.toNat, by omega⟩
        exact shifts_ok a p k (by omega) hnil ha hp hpr h hn hT
  · exact shifts_none a p z ha hp hpr h hn hT
end Go.Proofs.YtmgacikdgbedfaaDoor
