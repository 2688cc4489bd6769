/- Polynomials modulo a prime: Bezout's lengths, and where one is nought. Nothing of the program. -/
import Derived.Test.YtmgacikdgbedfaaDoorPm3
import Derived.Test.YtmgacikdgbedfaaDoorPm6
import Derived.Test.YtmgacikdgbedfaaDoorM8
import Derived.Test.YtmgacikdgbedfaaDoorM4
import Derived.Shelf.Abstract
import Derived.Test.YtmgacikdgbedfaaDoorM5
import Derived.Test.YtmgacikdgbedfaaDoorM13
import Derived.Test.YtmgacikdgbedfaaDoorS1
namespace Pm
open Dg

theorem one_pn {p v : Nat} (hv : v < p) (h0 : v ≠ 0) : Pn p [v] := pn_of (.inr (by simpa [ld] using h0)) (fun x hx => by simp at hx; omega)
theorem co_num (v k : Nat) : co [v] k = v * mono 1 0 k := by
  cases k with
  | zero => simp [co, ld, mono]
  | succ k => unfold co mono; rw [ld_ge (by simp)]; simp
theorem cv_num (v : Nat) (f : Nat → Int) (k : Nat) : cv (co [v]) f k = v * f k := by
  rw [show co [v] = fun k => (v : Int) * mono 1 0 k from funext (co_num v), cv_smul_left, cv_one]
theorem inv_ne {p v : Nat} (hp : Nt.Pr p) {x : Int} (h : cz p ((v : Int) * x) 1) : v ≠ 0 := by
  rintro rfl
  have h1 : cz p 0 1 := by simpa using h
  have h3 : (p : Int) ∣ 0 - 1 := h1
  have h4 : (p : Int) ∣ 1 := by have := Int.dvd_neg.2 h3; simpa using this
  have h5 := Int.le_of_dvd (by omega) h4
  have := hp.two_le
  omega
/-- a monic multiple by any inverse -/
theorem mo_by {p : Nat} {a g : List Nat} {v : Nat} (h : Mo p a g) (hl : 0 < a.length) (hv : cz p ((v : Int) * co a (a.length - 1)) 1) : Cg p (co g) (fun i => v * co a i) := by
  obtain ⟨c, hc, hg⟩ := h.2.2 hl
  have e : cz p c v := by
    have h1 := (cz.refl (p := p) c).mul hv
    have h2 := (cz.refl (p := p) (v : Int)).mul hc
    rw [Int.mul_one] at h1 h2
    rw [show c * ((v : Int) * co a (a.length - 1)) = v * (c * co a (a.length - 1)) by grind] at h1
    exact h1.symm.trans h2
  exact fun k => (hg k).trans (e.mul (cz.refl _))
theorem br_nil {p : Nat} : Br p [] [] [] [] [] :=
  ⟨fun k => cz.of_eq (by dsimp only; rw [cv_none (.inl rfl), co_nil]; rfl), Di.refl _, Di.refl _⟩
theorem di_mo {p : Nat} {a g : List Nat} (h : Mo p a g) : Di p (co g) (co a) := by
  rcases Nat.eq_zero_or_pos a.length with h0 | h0
  · have ha := List.eq_nil_of_length_eq_zero h0
    rw [ha, h.2.1 ha]; exact Di.refl _
  · obtain ⟨c, hc, hg⟩ := h.2.2 h0
    refine Di.scale (c := co a (a.length - 1)) (Di.refl _) fun k => ?_
    have h1 := (cz.refl (p := p) (co a (a.length - 1))).mul (hg k)
    refine cz.trans ?_ h1.symm
    have h2 := hc.mul (cz.refl (p := p) (co a k))
    rw [Int.one_mul] at h2
    rw [show co a (a.length - 1) * (c * co a k) = c * co a (a.length - 1) * co a k by grind]
    exact h2.symm
theorem br_right {p : Nat} {b g : List Nat} {v : Nat} (h : Mo p b g) (hl : 0 < b.length) (hv : cz p ((v : Int) * co b (b.length - 1)) 1) : Br p [] b g [] [v] :=
  ⟨fun k => (mo_by h hl hv k).trans (cz.of_eq (by dsimp only; rw [cv_none (.inl rfl), cv_num]; omega)), (Di.zero _).cg (Cg.of_eq co_nil), di_mo h⟩
theorem br_left {p : Nat} {a g : List Nat} {v : Nat} (h : Mo p a g) (hl : 0 < a.length) (hv : cz p ((v : Int) * co a (a.length - 1)) 1) : Br p a [] g [v] [] :=
  ⟨fun k => (mo_by h hl hv k).trans (cz.of_eq (by dsimp only; rw [cv_none (L := []) (M := []) (.inl rfl), cv_num]; omega)), di_mo h, (Di.zero _).cg (Cg.of_eq co_nil)⟩
/-- the length of s - q u -/
theorem bz_len {p : Nat} (hp : 0 < p) {a b r x s u q n : List Nat} (h : Bz p a b r x s u) (hq : q.length ≤ r.length + 1 - x.length) (hn : Pn p n) (e : Cg p (co n) (fun k => co s k - cv (co q) (co u) k)) : n.length + x.length ≤ b.length + 1 := by
  have h1 := h.l1
  rcases Nat.eq_zero_or_pos q.length with hq0 | hq0
  · have : n.length ≤ s.length := hn.short hp fun k hk => (e k).trans (by
      dsimp only
      rw [cv_none (.inl hq0), Int.sub_zero]
      exact co_up s k hk)
    omega
  · rcases h.l2 with hu | hu
    · have : n.length ≤ s.length := hn.short hp fun k hk => (e k).trans (by
        dsimp only
        rw [cv_none (.inr (by rw [hu]; rfl)), Int.sub_zero]
        exact co_up s k hk)
      omega
    · rcases Nat.eq_zero_or_pos u.length with hu0 | hu0
      · have : n.length ≤ s.length := hn.short hp fun k hk => (e k).trans (by
          dsimp only
          rw [cv_none (.inr hu0), Int.sub_zero]
          exact co_up s k hk)
        omega
      · have : n.length ≤ b.length + 1 - x.length := hn.short hp fun k hk => (e k).trans (by
          have h3 := (co_up (p := p) s k (by omega)).sub (cv_end (p := p) hq0 hu0 (show q.length + u.length - 1 ≤ k by omega))
          rwa [Int.sub_zero] at h3)
        omega
end Pm

/- Polynomials modulo a prime: the end of Bezout. Nothing of the program. -/
namespace Pm
open Dg

/-- The last steps of Bezout. -/
theorem Br.mk' {p : Nat} (hp : Nt.Pr p) {a b r s g part rp s2 s3 m t rt : List Nat} {s3q : Nat → Int} {c : Int} (hq3 : Fn p s3q) (hb : Pn p b) (hbl : 0 < b.length) (hrl : 0 < r.length)
    (hz : (∃ t, Fn p t ∧ Cg p (co r) (fun k => cv (co s) (co a) k + cv t (co b) k)) ∧ Di p (co r) (co a) ∧ Di p (co r) (co b))
    (hc : cz p (c * co r (r.length - 1)) 1) (hg : Cg p (co g) (fun k => c * co r k)) (hgn : Pn p g) (hgl : g.length = r.length)
    (hpart : Dv p (co b) (co g) (co part) (co rp) (g.length - 1)) (hrp : Pn p rp) (hs2 : Cg p (co s2) (fun k => c * co s k))
    (hs3 : Dv p (co s2) (co part) s3q (co s3) (part.length - 1))
    (hm : Cg p (co m) (fun k => co g k - cv (co s3) (co a) k)) (ht : Dv p (co m) (co b) (co t) (co rt) (b.length - 1)) (hrt : Pn p rt) : Br p a b g s3 t := by
  obtain ⟨⟨t0, ht0, er⟩, da, db⟩ := hz
  have hcinv : ∃ d : Int, Cg p (co r) (fun k => d * co g k) := ⟨co r (r.length - 1), fun k => by
    have h1 := (cz.refl (p := p) (co r (r.length - 1))).mul (hg k)
    refine cz.trans ?_ h1.symm
    rw [show co r (r.length - 1) * (c * co r k) = c * co r (r.length - 1) * co r k by grind]
    have h2 := hc.mul (cz.refl (p := p) (co r k))
    rw [Int.one_mul] at h2
    exact h2.symm⟩
  obtain ⟨d, hd⟩ := hcinv
  have dga := da.scale hd
  have dgb := db.scale hd
  refine ⟨?_, dga, dgb⟩
  have hgl0 : 0 < g.length := by omega
  obtain ⟨_, eb⟩ := dv_exact hp hgn hgl0 (Cg.refl _) hpart hrp dgb
  obtain ⟨a', ha', ea⟩ := dga
  -- m is a multiple of b
  have hmb : Di p (co b) (co m) := by
    obtain ⟨n0, hn0⟩ := ht0
    refine ⟨fun k => c * t0 k + cv s3q a' k, (Fn.add ⟨n0, fun k hk => by have := (cz.refl (p := p) c).mul (hn0 k hk); rwa [Int.mul_zero] at this⟩ (hq3.cv ha')), fun k => ?_⟩
    rw [cv_add_left, cv_smul_left]
    -- g - s3 a = c r - (s2 - k part) a
    have e1 : cz p (co m k) (co g k - cv (co s3) (co a) k) := hm k
    have e2 : Cg p (co s3) (fun i => co s2 i - cv s3q (co part) i) := fun i => by
      have := (hs3.1 i).sub (cz.refl (p := p) (cv s3q (co part) i))
      rw [show cv s3q (co part) i + co s3 i - cv s3q (co part) i = co s3 i by omega] at this
      exact this.symm
    have e3 := Cg.cv e2 (Cg.refl (co a)) k
    rw [cv_sub_left, cv_assoc] at e3
    have e4 := Cg.cv hs2 (Cg.refl (co a)) k
    rw [cv_smul_left] at e4
    have e5 : Cg p (cv (co part) (co a)) (cv a' (co b)) := fun i => by
      have h1 := Cg.cv (Cg.refl (p := p) (co part)) ea i
      have h2 := Cg.cv (Cg.refl (p := p) a') eb i
      refine h1.trans (cz.trans ?_ h2.symm)
      rw [← cv_assoc, ← cv_assoc]
      rw [show cv (co part) a' = cv a' (co part) from funext fun j => cv_comm _ _ j]
      exact cz.refl _
    have e6 := Cg.cv (Cg.refl (p := p) s3q) e5 k
    rw [← cv_assoc s3q a'] at e6
    have e7 := (hg k).trans ((cz.refl (p := p) c).mul (er k))
    have e8 := e7.sub (e3.trans (e4.sub e6))
    refine e1.trans (e8.trans (cz.of_eq ?_))
    rw [Int.mul_add]
    omega
  obtain ⟨_, em⟩ := dv_exact hp hb hbl (Cg.refl _) ht hrt hmb
  intro k
  have := ((hm k).symm.trans (em k)).add (cz.refl (p := p) (cv (co s3) (co a) k))
  rw [Int.sub_add_cancel] at this
  refine this.trans (cz.of_eq ?_)
  dsimp only
  omega
/-- The part is not nought. -/
theorem part_pos {p : Nat} (hp : Nt.Pr p) {b r g part rp : List Nat} {c : Int} (hb : Pn p b) (hbl : 0 < b.length) (hrl : 0 < r.length) (db : Di p (co r) (co b))
    (hc : cz p (c * co r (r.length - 1)) 1) (hg : Cg p (co g) (fun k => c * co r k)) (hgn : Pn p g) (hgl : g.length = r.length)
    (hpart : Dv p (co b) (co g) (co part) (co rp) (g.length - 1)) (hrp : Pn p rp) : 0 < part.length := by
  have hd : Cg p (co r) (fun k => co r (r.length - 1) * co g k) := fun k => by
    have h1 := (cz.refl (p := p) (co r (r.length - 1))).mul (hg k)
    refine cz.trans ?_ h1.symm
    rw [show co r (r.length - 1) * (c * co r k) = c * co r (r.length - 1) * co r k by grind]
    have h2 := hc.mul (cz.refl (p := p) (co r k))
    rw [Int.one_mul] at h2
    exact h2.symm
  obtain ⟨_, eb⟩ := dv_exact hp hgn (by omega) (Cg.refl _) hpart hrp (db.scale hd)
  rcases Nat.eq_zero_or_pos part.length with h0 | h0
  · exfalso
    have := (hb.tops hp hbl).2
    refine this ((eb _).trans (cz.of_eq ?_))
    rw [cv_none (.inl h0)]
  · exact h0
/-- a product's length -/
theorem mul_len {p : Nat} (hp : 0 < p) {L M R : List Nat} (hR : Pn p R) (e : Cg p (co R) (cv (co L) (co M))) : R.length ≤ L.length + M.length :=
  hR.short hp fun k hk => (e k).trans (by
    rcases Nat.eq_zero_or_pos L.length with h0 | h0
    · rw [cv_none (.inl h0)]; exact cz.refl _
    · rcases Nat.eq_zero_or_pos M.length with h1 | h1
      · rw [cv_none (.inr h1)]; exact cz.refl _
      · exact cv_end h0 h1 (by omega))
theorem sub_len {p : Nat} (hp : 0 < p) {L M R : List Nat} {N : Nat} (hR : Pn p R) (e : Cg p (co R) (fun k => co L k - co M k)) (h1 : L.length ≤ N) (h2 : M.length ≤ N) : R.length ≤ N :=
  hR.short hp fun k hk => (e k).trans (by
    have := (co_up (p := p) L k (by omega)).sub (co_up (p := p) M k (by omega))
    rwa [Int.sub_zero] at this)
theorem smul_len {p : Nat} (hp : 0 < p) {L R : List Nat} {c : Int} (hR : Pn p R) (e : Cg p (co R) (fun k => c * co L k)) : R.length ≤ L.length :=
  hR.short hp fun k hk => (e k).trans (by
    have := (cz.refl (p := p) c).mul (co_up (p := p) L k hk)
    rwa [Int.mul_zero] at this)
theorem unit_len {p : Nat} (hp : Nt.Pr p) {L R : List Nat} {c : Int} (hR : Pn p R) (hl : 0 < L.length) (hc : cz p (c * co L (L.length - 1)) 1) (e : Cg p (co R) (fun k => c * co L k)) : R.length = L.length := by
  have h : Mo p L R := ⟨hR, fun h0 => by rw [h0] at hl; simp at hl, fun _ => ⟨c, hc, e⟩⟩
  exact h.len hp
end Pm

/- modpoly: Bezout's numbers. -/
namespace Go.Proofs.YtmgacikdgbedfaaDoor
open Go.RowKit Go.IntWalk
attribute [local go_sem ↓] Go.wp_at_zero Go.wp_at_succ

/-- Three polynomials come back. -/
def RetBz (p : Nat) (L L' : List Nat) (w : World) (e : Ending) (w' : World) : Prop :=
  ∃ (A1 A2 A3 : Option Addr) (n1 c1 n2 c2 n3 c3 : Nat) (G S T : List Nat), e = .returned (.tuple #[.slice A1 n1 c1, .slice A2 n2 c2, .slice A3 n3 c3]) ∧ Po w' w.heap.size A1 n1 c1 G ∧ Po w' w.heap.size A2 n2 c2 S ∧ Po w' w.heap.size A3 n3 c3 T ∧
    Hid (Pm.Pn p G ∧ Pm.Pn p S ∧ Pm.Pn p T ∧ Pm.Br p L L' G S T ∧ n1 ≤ 4194304 ∧ n2 ≤ 4194304 ∧ n3 ≤ 4194304) ∧ Below w.heap.size w w'
/-- The leading number. -/
theorem lead_of {w : World} {B p n c : Nat} {A : Option Addr} {L : List Nat} (h : RdU w B A n c L) (hpos : 0 < p) (hL : Pm.Pn p L) (hn : 0 < n) (hn2 : n ≤ 1048576) :
    ∃ (ad : Addr) (m x : Nat), A = some ad ∧ (ad.add m).block < B ∧ w.cell? (ad.add m) = some (.int .u32 x) ∧ x < 4294967296 ∧ Hid (¬ x % p = 0) ∧ Hid (x = Dg.ld L (L.length - 1)) ∧ IntKind.i64.wrap ((n : Int) - 1) = (m : Int) ∧ (m : Int) < (n : Int) := by
  obtain ⟨hx, ad, rfl, hbx, hcx⟩ := h.at_ (n - 1) _ (Dg.get_of_ld (by rw [h.len]; omega))
  refine ⟨ad, n - 1, _, rfl, by rw [add_blk]; exact hbx, hcx, hx, Lib.hid ?_, Lib.hid (by rw [h.len]), ?_, by omega⟩
  · have h1 := Pm.nm_top hL.1 (by rw [h.len]; exact hn)
    rw [h.len] at h1
    have h2 := hL.lt hpos (n - 1)
    rwa [Nat.mod_eq_of_lt h2]
  · rw [IntWalk.i64_in _ (by omega)]; omega
theorem po_one {w : World} {b g v : Nat} (h : UB w g [v]) (hv : v < 4294967296) (hb : b ≤ g) : Po w b (some ⟨g, 0, none⟩) 1 1 [v] := by
  have := h.po (b := b) (fun x hx => by simp at hx; omega) hb (k := 1) (c := 1) (Nat.le_refl _) (Nat.le_refl _) (by unfold maxLen; simp)
  simpa using this

set_option maxRecDepth 100000 in
set_option maxHeartbeats 4000000 in
theorem bez_right {A A' : Option Addr} {n' c c' : Nat} {L' : List Nat} {w : World} (p : Nat) (hpr : Nt.Pr p) (hp : p < 4294967296)
    (h' : RdU w w.heap.size A' n' c' L') (hn' : n' ≤ 1048576) (hL' : Pm.Pn p L') (hT : Tabs w) :
    Calls Tryd.prog 48 #[.agg #[.int .u64 p], .slice A 0 c, .slice A' n' c'] w (RetBz p [] L' w) := by
  have HP := Lib.hid hpr
  have hpos := hpr.pos
  have HL' := Lib.hid hL'
  have HLEN' := Lib.hid h'.len
  have hB0 := below1 w (.cells #[.int .u64 p] 63)
  rcases Nat.eq_zero_or_pos n' with h0 | h0
  · subst h0
    have hl : L' = [] := List.eq_nil_of_length_eq_zero HLEN'.out
    subst hl
    clear h' hT hpr hL'
    go_enter Tryd.func48, Tryd.ntmps48
    go_wp2
    refine bodyPost_ret (v := .tuple #[.slice none 0 0, .slice none 0 0, .slice none 0 0]) (by simp [results, Tryd.results48, go_sem]) rfl ?_
    exact ⟨none, none, none, 0, 0, 0, 0, 0, 0, [], [], [], rfl, Po.nil _ _ _ _ (Nat.zero_le _), Po.nil _ _ _ _ (Nat.zero_le _), Po.nil _ _ _ _ (Nat.zero_le _), Lib.hid ⟨Pm.Pn.nil, Pm.Pn.nil, Pm.Pn.nil, Pm.br_nil, by omega, by omega, by omega⟩, hB0⟩
  · obtain ⟨ad, m, x, rfl, hbx, hcx, hx, HNE, EX, hs1, hm1⟩ := lead_of h' hpos hL' h0 hn'
    have h1 : ((n' : Int) == 0) = false := by simp; omega
    have hcb : (w.alloc (.cells #[.int .u64 p] 63)).cell? ⟨w.heap.size, 0, none⟩ = some (.int .u64 p) := by go_simp
    have hct := (hB0.cell (p := ad.add m) hbx).trans hcx
    have hT1 := hT.below hB0
    have hR1 := h'.next hB0
    have hsz : w.heap.size < (w.alloc (.cells #[.int .u64 p] 63)).heap.size := by simp
    clear hpr hL' hcx
    go_enter Tryd.func48, Tryd.ntmps48
    go_wp2_with fail
    generalize w.alloc (.cells #[.int .u64 p] 63) = W1 at hcb hct hT1 hR1 hB0 hsz ⊢
    have HBA := Lib.hid (Nat.lt_trans hbx hsz)
    have hm0 : (0 : Int) ≤ (m : Int) := by omega
    have HMO : Hid (∀ W' : World, Below W1.heap.size W1 W' → Calls Tryd.prog 61 #[.agg #[.int .u64 p], .slice (some ad) n' c'] W' (RetQ (Pm.Mo p L') W')) :=
      Lib.hid fun W' hb => mmonic_any p HP.out hp (hR1.next hb) (by omega) HL'.out (hT1.below hb)
    have HIV : Hid (∀ W' : World, Below W1.heap.size W1 W' → Calls Tryd.prog 44 #[.agg #[.int .u64 p], .int .u32 x] W' (RetV p x W')) :=
      Lib.hid fun W' hb => finv_any p x HP.out hp hx HNE.out W' (hT1.below hb)
    have HBD := Lib.hid ((Below.refl W1.heap.size W1).drew)
    go_region_held3 (fun w' => w'.cell? ⟨w.heap.size, 0, none⟩ = some (.int .u64 p) ∧ w'.cell? (ad.add m) = some (.int .u32 x)) (go_keep)
      (first
        | (go_at_call 61; refine (HMO.out _ HBD.out).mono ?_; rintro _ w3 ⟨A3, n3, c3, G, rfl, hp3, hG, hb3⟩; have HBM := Lib.hid (HBD.out.trans hb3); have HPG := Lib.hid hp3; have hcb3 := (HBM.out.cell (p := ⟨w.heap.size, 0, none⟩) hsz).trans hcb; have hct3 := (HBM.out.cell (p := ad.add m) HBA.out).trans hct)
        | (go_at_call 44; refine (HIV.out _ HBM.out).mono ?_; rintro _ wv ⟨v, rfl, hv, hz, hbv⟩; have HBF := Lib.hid (HBM.out.trans (hbv.mono HBM.out.size)); have hcbv := (HBF.out.cell (p := ⟨w.heap.size, 0, none⟩) hsz).trans hcb; have hctv := (HBF.out.cell (p := ad.add m) HBA.out).trans hct))
    have HBW := Lib.hid (hB0.trans ((HBF.out.alloc HBF.out.size (.cells #[.int .u32 v] 27)).mono hB0.size))
    have HG1 := Lib.hid ((HPG.out.next (hbv.trans ((below1 wv (.cells #[.int .u32 v] 27)).mono hbv.size))).base hB0.size)
    have HG2 := Lib.hid (po_one (UB.new wv [v]) (Nat.lt_trans hv hp) (Nat.le_trans hB0.size HBF.out.size))
    have HV := Lib.hid hz.out
    clear hcb3 hct3 hcbv hctv hp3 hz
    go_wp2
    refine bodyPost_ret (v := .tuple #[.slice A3 n3 c3, .slice none 0 0, .slice (some ⟨wv.heap.size, 0, none⟩) 1 1]) (by simp [results, Tryd.results48, go_sem]) rfl ?_
    exact ⟨A3, none, _, n3, c3, 0, 0, 1, 1, G, [], [v], rfl, HG1.out, Po.nil _ _ _ _ (Nat.zero_le _), HG2.out, Lib.hid ⟨hG.out.1, Pm.Pn.nil, Pm.one_pn hv (Pm.inv_ne HP.out HV.out),
      Pm.br_right hG.out (by rw [HLEN'.out]; exact h0) (by unfold Pm.co; rw [← EX.out]; exact HV.out), by have := hG.out.len HP.out; have := HPG.out.len; have := HLEN'.out; omega, by omega, by omega⟩, HBW.out⟩
set_option maxRecDepth 100000 in
set_option maxHeartbeats 4000000 in
theorem bez_left {A A' : Option Addr} {n' c c' : Nat} {L' : List Nat} {w : World} (p : Nat) (hpr : Nt.Pr p) (hp : p < 4294967296)
    (h' : RdU w w.heap.size A' n' c' L') (hn' : n' ≤ 1048576) (hL' : Pm.Pn p L') (hne : 0 < n') (hT : Tabs w) :
    Calls Tryd.prog 48 #[.agg #[.int .u64 p], .slice A' n' c', .slice A 0 c] w (RetBz p L' [] w) := by
  have HP := Lib.hid hpr
  have hpos := hpr.pos
  have HL' := Lib.hid hL'
  have HLEN' := Lib.hid h'.len
  have hB0 := below1 w (.cells #[.int .u64 p] 63)
  have h0 := hne
  obtain ⟨ad, m, x, rfl, hbx, hcx, hx, HNE, EX, hs1, hm1⟩ := lead_of h' hpos hL' h0 hn'
  have h1 : ((n' : Int) == 0) = false := by simp; omega
  have hcb : (w.alloc (.cells #[.int .u64 p] 63)).cell? ⟨w.heap.size, 0, none⟩ = some (.int .u64 p) := by go_simp
  have hct := (hB0.cell (p := ad.add m) hbx).trans hcx
  have hT1 := hT.below hB0
  have hR1 := h'.next hB0
  have hsz : w.heap.size < (w.alloc (.cells #[.int .u64 p] 63)).heap.size := by simp
  clear hpr hL' hcx
  go_enter Tryd.func48, Tryd.ntmps48
  go_wp2_with fail
  generalize w.alloc (.cells #[.int .u64 p] 63) = W1 at hcb hct hT1 hR1 hB0 hsz ⊢
  have HBA := Lib.hid (Nat.lt_trans hbx hsz)
  have hm0 : (0 : Int) ≤ (m : Int) := by omega
  have HMO : Hid (∀ W' : World, Below W1.heap.size W1 W' → Calls Tryd.prog 61 #[.agg #[.int .u64 p], .slice (some ad) n' c'] W' (RetQ (Pm.Mo p L') W')) :=
    Lib.hid fun W' hb => mmonic_any p HP.out hp (hR1.next hb) (by omega) HL'.out (hT1.below hb)
  have HIV : Hid (∀ W' : World, Below W1.heap.size W1 W' → Calls Tryd.prog 44 #[.agg #[.int .u64 p], .int .u32 x] W' (RetV p x W')) :=
    Lib.hid fun W' hb => finv_any p x HP.out hp hx HNE.out W' (hT1.below hb)
  have HBD := Lib.hid ((Below.refl W1.heap.size W1).drew)
  go_region_held3 (fun w' => w'.cell? ⟨w.heap.size, 0, none⟩ = some (.int .u64 p) ∧ w'.cell? (ad.add m) = some (.int .u32 x)) (go_keep)
    (first
      | (go_at_call 61; refine (HMO.out _ HBD.out).mono ?_; rintro _ w3 ⟨A3, n3, c3, G, rfl, hp3, hG, hb3⟩; have HBM := Lib.hid (HBD.out.trans hb3); have HPG := Lib.hid hp3; have hcb3 := (HBM.out.cell (p := ⟨w.heap.size, 0, none⟩) hsz).trans hcb; have hct3 := (HBM.out.cell (p := ad.add m) HBA.out).trans hct)
      | (go_at_call 44; refine (HIV.out _ HBM.out).mono ?_; rintro _ wv ⟨v, rfl, hv, hz, hbv⟩; have HBF := Lib.hid (HBM.out.trans (hbv.mono HBM.out.size)); have hcbv := (HBF.out.cell (p := ⟨w.heap.size, 0, none⟩) hsz).trans hcb; have hctv := (HBF.out.cell (p := ad.add m) HBA.out).trans hct))
  have HBW := Lib.hid (hB0.trans ((HBF.out.alloc HBF.out.size (.cells #[.int .u32 v] 27)).mono hB0.size))
  have HG1 := Lib.hid ((HPG.out.next (hbv.trans ((below1 wv (.cells #[.int .u32 v] 27)).mono hbv.size))).base hB0.size)
  have HG2 := Lib.hid (po_one (UB.new wv [v]) (Nat.lt_trans hv hp) (Nat.le_trans hB0.size HBF.out.size))
  have HV := Lib.hid hz.out
  clear hcb3 hct3 hcbv hctv hp3 hz
  go_wp2
  refine bodyPost_ret (v := .tuple #[.slice A3 n3 c3, .slice (some ⟨wv.heap.size, 0, none⟩) 1 1, .slice none 0 0]) (by simp [results, Tryd.results48, go_sem]) rfl ?_
  exact ⟨A3, _, none, n3, c3, 1, 1, 0, 0, G, [v], [], rfl, HG1.out, HG2.out, Po.nil _ _ _ _ (Nat.zero_le _), Lib.hid ⟨hG.out.1, Pm.one_pn hv (Pm.inv_ne HP.out HV.out), Pm.Pn.nil,
    Pm.br_left hG.out (by rw [HLEN'.out]; exact h0) (by unfold Pm.co; rw [← EX.out]; exact HV.out), by have := hG.out.len HP.out; have := HPG.out.len; have := HLEN'.out; omega, by omega, by omega⟩, HBW.out⟩
end Go.Proofs.YtmgacikdgbedfaaDoor

/- modpoly: Bezout's numbers, both not nought. -/
namespace Go.Proofs.YtmgacikdgbedfaaDoor
open Go.RowKit Go.IntWalk
attribute [local go_sem ↓] Go.wp_at_zero Go.wp_at_succ

theorem fld_sub_any {p : Nat} (h0 : 0 < p) (hp : p < 4294967296) (W : World) (x y : Nat) (hx : x < p) (hy : y < p) : Calls Tryd.prog 43 #[.agg #[.int .u64 p], .int .u32 x, .int .u32 y] W (RetC p ((x : Int) - y) W) := fsub_any p x y h0 hp (by omega) (by omega) W
/-- The difference. -/
theorem msub_any {A A' : Option Addr} {n c n' c' : Nat} {L L' : List Nat} {w : World} (p : Nat) (h0 : 0 < p) (hp : p < 4294967296) (h : RdU w w.heap.size A n c L) (h' : RdU w w.heap.size A' n' c' L') (hn : n ≤ 4398046511104) (hn' : n' ≤ 4398046511104) (hL : Pm.Pn p L) (hL' : Pm.Pn p L') :
    Calls Tryd.prog 45 #[.agg #[.int .u64 p], .slice A n c, .slice A' n' c', .func (.func 43) #[.agg #[.int .u64 p]] #[]] w (RetPo p (fun k => Pm.co L k - Pm.co L' k) w) :=
  meach_any (F := fun x y => x - y) p h0 hp (enters_of Tryd.func43 (by kernel_rfl) rfl) (fld_sub_any h0 hp) rfl h h' (by omega) (by omega) hL.2 hL'.2
theorem one_po (w : World) (b : Nat) (hb : b ≤ w.heap.size) : Po (w.alloc (.cells #[.int .u32 1] 27)) b (some ⟨w.heap.size, 0, none⟩) 1 1 [1] := po_one (UB.new w [1]) (by omega) hb
/-- The lists of a round. -/
def BzL (p : Nat) (L L' R X S U : List Nat) : Prop := Pm.Pn p R ∧ Pm.Pn p X ∧ Pm.Pn p S ∧ Pm.Pn p U ∧ Pm.Bz p L L' R X S U ∧ 0 < R.length ∧ R.length ≤ 1048576 ∧ X.length ≤ 1048576 ∧ L'.length ≤ 1048576
theorem BzL.su {p : Nat} {L L' R X S U : List Nat} (h : BzL p L L' R X S U) : S.length ≤ 1048577 ∧ U.length ≤ 1048577 := by
  obtain ⟨_, _, _, _, hb, h1, h2, h3, h4⟩ := h
  have := hb.l1
  refine ⟨by omega, ?_⟩
  rcases hb.l2 with h | h
  · rw [h]; simp
  · omega
theorem BzL.step {p : Nat} (hp : Nt.Pr p) {L L' R X S U Q Y T N : List Nat} (h : BzL p L L' R X S U) (hx : 0 < X.length) (hd : Pm.Pn p Q ∧ Pm.Pn p Y ∧ Pm.Dv p (Pm.co R) (Pm.co X) (Pm.co Q) (Pm.co Y) (X.length - 1) ∧ Q.length ≤ R.length + 1 - X.length ∧ Y.length ≤ R.length)
    (ht : Pm.Pn p T ∧ Pm.Cg p (Pm.co T) (Pm.cv (Pm.co Q) (Pm.co U))) (hn : Pm.Pn p N ∧ Pm.Cg p (Pm.co N) (fun k => Pm.co S k - Pm.co T k)) : BzL p L L' X Y U N := by
  obtain ⟨h1, h2, h3, h4, hb, h5, h6, h7, h8⟩ := h
  have hn2 : Pm.Cg p (Pm.co N) (fun k => Pm.co S k - Pm.cv (Pm.co Q) (Pm.co U) k) := fun k => (hn.2 k).trans ((Pm.cz.refl _).sub (ht.2 k))
  have hy : Y.length < X.length := by
    have : Y.length ≤ X.length - 1 := hd.2.1.short hp.pos hd.2.2.1.2
    omega
  exact ⟨h2, hd.2.1, h4, hn.1, hb.step hd.2.2.1.1 hn2 hy hd.2.2.2.2 (Pm.bz_len hp.pos hb hd.2.2.2.1 hn.1 hn2), hx, h7, by omega, h8⟩

set_option maxRecDepth 100000 in
set_option maxHeartbeats 4000000 in
theorem bez_any {A A' : Option Addr} {n n' c c' : Nat} {L L' : List Nat} {w : World} (p : Nat) (hpr : Nt.Pr p) (hp : p < 4294967296)
    (h : RdU w w.heap.size A n c L) (h' : RdU w w.heap.size A' n' c' L') (hn : n ≤ 1048576) (hn' : n' ≤ 1048576) (hL : Pm.Pn p L) (hL' : Pm.Pn p L') (hne : 0 < n) (hne' : 0 < n') (hT : Tabs w) :
    Calls Tryd.prog 48 #[.agg #[.int .u64 p], .slice A n c, .slice A' n' c'] w (RetBz p L L' w) := by
  have HP := Lib.hid hpr
  have hpos := hpr.pos
  have HL := Lib.hid hL
  have HL' := Lib.hid hL'
  have HLEN := Lib.hid h.len
  have HLEN' := Lib.hid h'.len
  have hB0 := below1 w (.cells #[.int .u64 p] 63)
  have h1 : ((n : Int) == 0) = false := by simp; omega
  have h1' : ((n' : Int) == 0) = false := by simp; omega
  have hcb : (w.alloc (.cells #[.int .u64 p] 63)).cell? ⟨w.heap.size, 0, none⟩ = some (.int .u64 p) := by go_simp
  have HT1 := Lib.hid (hT.below hB0)
  have HR := Lib.hid (h.next hB0)
  have HR' := Lib.hid (h'.next hB0)
  have hsz : w.heap.size < (w.alloc (.cells #[.int .u64 p] 63)).heap.size := by simp
  have HCB := Lib.hid hcb
  clear hpr hL' hL hcb h h' hT
  go_enter Tryd.func48, Tryd.ntmps48
  go_wp2_with fail
  have hsw : (w.alloc (.cells #[.int .u64 p] 63)).heap.size = w.heap.size + 1 := by simp
  generalize w.alloc (.cells #[.int .u64 p] 63) = W1 at HCB HT1 HR HR' hB0 hsz hsw ⊢
  obtain ⟨gb, hgb⟩ : ∃ gb, gb = w.heap.size := ⟨_, rfl⟩
  rw [← hgb] at HCB hsz hsw ⊢
  have hgw : w.heap.size ≤ gb := by omega
  have HP1 := Lib.hid (one_po W1 w.heap.size (by omega))
  have hB2 := below1 W1 (.cells #[.int .u32 1] 27)
  have HB2 := Lib.hid (hB0.trans (hB2.mono hB0.size))
  have HR2 := Lib.hid (HR.out.next hB2)
  have HR2' := Lib.hid (HR'.out.next hB2)
  have HT2 := Lib.hid (HT1.out.below hB2)
  have HCB2 := Lib.hid ((hB2.cell (p := ⟨gb, 0, none⟩) hsz).trans HCB.out)
  have hsz2 := Nat.lt_of_lt_of_le hsz hB2.size
  clear hgb hB2
  rw [hsw] at HP1
  generalize W1.alloc (.cells #[.int .u32 1] 27) = W2 at HP1 HB2 HR2 HR2' HT2 HCB2 hsz2 ⊢
  clear HCB HT1 HR HR' hB0 hsz hsw
  go_loopw [9, 10, 11, 12] (fun rv xv sv uv wr => ∃ (A1 A2 A3 A4 : Option Addr) (m1 c1 m2 c2 m3 c3 m4 c4 : Nat) (R X S U : List Nat), rv = .slice A1 m1 c1 ∧ xv = .slice A2 m2 c2 ∧ sv = .slice A3 m3 c3 ∧ uv = .slice A4 m4 c4 ∧
    Hid (RdU wr wr.heap.size A1 m1 c1 R ∧ RdU wr wr.heap.size A2 m2 c2 X ∧ RdU wr wr.heap.size A3 m3 c3 S ∧ RdU wr wr.heap.size A4 m4 c4 U ∧ BzL p L L' R X S U ∧ Below w.heap.size w wr ∧ Below W2.heap.size W2 wr)) (fun _ xv _ _ _ => slLen xv)
  case atStart => exact ⟨A, A', some ⟨gb + 1, 0, none⟩, none, n, c, n', c', 1, 1, 0, 0, L, L', [1], [], rfl, rfl, rfl, rfl, Lib.hid ⟨HR2.out, HR2'.out, HP1.out.rd, RdU.nil _ _ _ _ (Nat.zero_le _), ⟨HL.out, HL'.out, Pm.one_pn HP.out.two_le (by omega), Pm.Pn.nil, Pm.Bz.start L L', by rw [HLEN.out]; exact hne, by rw [HLEN.out]; exact hn, by rw [HLEN'.out]; exact hn', by rw [HLEN'.out]; exact hn'⟩, HB2.out, Below.refl _ _⟩⟩
  case round =>
    obtain ⟨A1, A2, A3, A4, m1, c1, m2, c2, m3, c3, m4, c4, R, X, S, U, rfl, rfl, rfl, rfl, hI⟩ := hrel
    have HRR := Lib.hid hI.out.1
    have HRX := Lib.hid hI.out.2.1
    have HRS := Lib.hid hI.out.2.2.1
    have HRU := Lib.hid hI.out.2.2.2.1
    have HBZ := Lib.hid hI.out.2.2.2.2.1
    have HB := Lib.hid hI.out.2.2.2.2.2.1
    have HBX := Lib.hid hI.out.2.2.2.2.2.2
    clear hI
    have e1 := HRR.out.len
    have e2 := HRX.out.len
    have hcb := (HBX.out.cell (p := ⟨gb, 0, none⟩) hsz2).trans HCB2.out
    have hT := HT2.out.below HBX.out
    have hgl := Nat.lt_of_lt_of_le hsz2 HBX.out.size
    rcases Nat.eq_zero_or_pos m2 with h0 | h0
    · subst h0
      have hX : X = [] := List.eq_nil_of_length_eq_zero e2
      subst hX
      obtain ⟨ad, m, x, rfl, hbx, hcx, hx, HNE, EX, hs1, hm1⟩ := lead_of HRR.out hpos HBZ.out.1 (by have := HBZ.out.2.2.2.2.2.1; omega) (by have := HBZ.out.2.2.2.2.2.2.1; omega)
      have hm0 : (0 : Int) ≤ (m : Int) := by omega
      go_wp2_with fail
      go_region_held3 (fun w' => w'.cell? ⟨gb, 0, none⟩ = some (.int .u64 p) ∧ w'.cell? (ad.add m) = some (.int .u32 x)) (go_keep)
        (first
          | (go_at_call 44; refine (finv_any p x HP.out hp hx HNE.out _ hT.drew).mono ?_; rintro _ w3 ⟨v, rfl, hv, hz, hb3⟩; have HB3 := Lib.hid ((Below.refl wr.heap.size wr).drew.trans hb3); have hcb3 := (HB3.out.cell (p := ⟨gb, 0, none⟩) hgl).trans hcb; have hct3 := (HB3.out.cell (p := ad.add m) hbx).trans hcx))
      have HV := Lib.hid (show Pm.cz p ((v : Int) * Pm.co R (R.length - 1)) 1 by unfold Pm.co; rw [← EX.out]; exact hz.out)
      clear hct3 hcx hcb hz
      go_wp2_with fail
      refine (mscale_any p v hpos hp (by omega) (HRR.out.next HB3.out) (by have := HBZ.out.2.2.2.2.2.2.1; omega)).mono ?_
      rintro _ w4 ⟨A5, n5, c5, G, rfl, hp5, hG, hb4⟩
      have hcb4 := (hb4.cell (p := ⟨gb, 0, none⟩) (Nat.lt_of_lt_of_le hgl HB3.out.size)).trans hcb3
      have HGL := Lib.hid (Pm.unit_len HP.out hG.out.1 HBZ.out.2.2.2.2.2.1 HV.out hG.out.2)
      have HB4 := Lib.hid (HB3.out.trans (hb4.mono HB3.out.size))
      have HP5 := Lib.hid hp5
      have HN5 := Lib.hid (show 0 < n5 ∧ n5 ≤ 1048576 by have := hp5.len; have := HGL.out; have := HBZ.out.2.2.2.2.2.1; have := HBZ.out.2.2.2.2.2.2.1; omega)
      clear hcb3 hb4 hp5
      go_wp2_with fail
      refine (mdiv_any p HP.out hp (HR2'.out.next (HBX.out.trans (HB4.out.mono HBX.out.size))) HP5.out.rd (by omega) (by have := HN5.out.2; omega) HL'.out hG.out.1 HN5.out.1 (HT2.out.below (HBX.out.trans (HB4.out.mono HBX.out.size)))).mono ?_
      rintro _ w5 ⟨A6, A7, n6, c6, n7, c7, Q, Y, rfl, hq, hy, hd, hb5⟩
      have hcb5 := (hb5.cell (p := ⟨gb, 0, none⟩) (Nat.lt_of_lt_of_le hgl HB4.out.size)).trans hcb4
      have HB5 := Lib.hid (HB4.out.trans (hb5.mono HB4.out.size))
      have hgl5 := Nat.lt_of_lt_of_le hgl HB5.out.size
      have HZ := Lib.hid HBZ.out.2.2.2.2.1.done
      have HRL := Lib.hid HBZ.out.2.2.2.2.2.1
      have HPP := Lib.hid (Pm.part_pos HP.out HL'.out (by rw [HLEN'.out]; exact hne') HRL.out HZ.out.2.2 HV.out hG.out.2 hG.out.1 HGL.out hd.out.2.2.1 hd.out.2.1)
      have HQ6 := Lib.hid (show 0 < n6 ∧ n6 ≤ 1048577 by have := hq.len; have := HPP.out; have := hd.out.2.2.2.1; have := HLEN'.out; omega)
      have HPQ := Lib.hid hq
      have HPG5 := Lib.hid (HP5.out.next hb5)
      have HSC : Hid (Calls Tryd.prog 39 #[.agg #[.int .u64 p], .slice A3 m3 c3, .int .u32 v] w5.drew (RetPo p (fun k => (v : Int) * Pm.co S k) w5.drew)) :=
        Lib.hid (mscale_any p v hpos hp (by omega) (HRS.out.next (HB5.out.drew)) (by have := HBZ.out.su.1; have := HRS.out.len; omega))
      clear hcb4 hb5 hq hy
      go_wp2_with fail
      go_region_held3 (fun w' => w'.cell? ⟨gb, 0, none⟩ = some (.int .u64 p)) (go_keep)
        (first
          | (go_at_call 39; refine HSC.out.mono ?_; rintro _ w6 ⟨A8, n8, c8, S2, rfl, hp8, hS2, hb6⟩; have HB6 := Lib.hid ((Below.refl w5.heap.size w5).drew.trans hb6); have hcb6 := (HB6.out.cell (p := ⟨gb, 0, none⟩) hgl5).trans hcb5)
          | (go_at_call 56; refine (mrest_any p HP.out hp hp8.rd (HPQ.out.next HB6.out).rd (by have := Pm.smul_len hpos hS2.out.1 hS2.out.2; have := hp8.len; have := HBZ.out.su.1; omega) (by have := HQ6.out.2; omega) hS2.out.1 hd.out.1 HQ6.out.1 (HT2.out.below (HBX.out.trans ((HB5.out.trans (HB6.out.mono HB5.out.size)).mono HBX.out.size)))).mono ?_; rintro _ w7 ⟨A9, n9, c9, S3, rfl, hp9, hS3, hb7⟩; have HB7 := Lib.hid (HB6.out.trans (hb7.mono HB6.out.size)); have hcb7 := (HB7.out.cell (p := ⟨gb, 0, none⟩) hgl5).trans hcb5))
      have HB57 := Lib.hid (HB5.out.trans (HB7.out.mono HB5.out.size))
      have hgl7 := Nat.lt_of_lt_of_le hgl HB57.out.size
      have HPG7 := Lib.hid (HPG5.out.next HB7.out)
      have HP9 := Lib.hid hp9
      have HS3L := Lib.hid (show n9 ≤ 1048577 by have := hp9.len; have := hS3.out.2; have := Pm.smul_len hpos hS2.out.1 hS2.out.2; have := HBZ.out.su.1; omega)
      have HTI : Hid (Calls Tryd.prog 47 #[.agg #[.int .u64 p], .slice A9 n9 c9, .slice A n c] w7.drew (RetPo p (Pm.cv (Pm.co S3) (Pm.co L)) w7.drew)) :=
        Lib.hid (mtimes_any p HP.out hp hp9.rd.drew (HR2.out.next (HBX.out.trans (HB57.out.mono HBX.out.size))).drew (by have := HS3L.out; omega) (by omega) hS3.out.1.1 HL.out)
      clear hcb5 hcb6 hb6 hb7 hp8 hp9
      go_wp2_with fail
      go_region_held3 (fun w' => w'.cell? ⟨gb, 0, none⟩ = some (.int .u64 p)) (go_keep)
        (first
          | (go_at_call 47; refine HTI.out.mono ?_; rintro _ w8 ⟨A10, n10, c10, T, rfl, hp10, hT8, hb8⟩; have HB8 := Lib.hid ((Below.refl w7.heap.size w7).drew.trans hb8); have hcb8 := (HB8.out.cell (p := ⟨gb, 0, none⟩) hgl7).trans hcb7)
          | (go_at_call 45; refine (msub_any p hpos hp (HPG7.out.next HB8.out).rd hp10.rd (by have := HN5.out.2; omega) (by have := Pm.mul_len hpos hT8.out.1 hT8.out.2; have := hp10.len; have := HP9.out.len; have := HS3L.out; have := HLEN.out; omega) hG.out.1 hT8.out.1).mono ?_; rintro _ w9 ⟨A11, n11, c11, M, rfl, hp11, hM, hb9⟩; have HB9 := Lib.hid (HB8.out.trans (hb9.mono HB8.out.size)); have hcb9 := (HB9.out.cell (p := ⟨gb, 0, none⟩) hgl7).trans hcb7; have HML := Lib.hid (show M.length ≤ 3145728 from Pm.sub_len hpos hM.out.1 hM.out.2 (by have := HPG7.out.len; have := HN5.out.2; omega) (by have := Pm.mul_len hpos hT8.out.1 hT8.out.2; have := HP9.out.len; have := HS3L.out; have := HLEN.out; omega)))
          | (go_at_call 49; refine (mdiv_any p HP.out hp hp11.rd (HR2'.out.next (HBX.out.trans ((HB57.out.trans (HB9.out.mono HB57.out.size)).mono HBX.out.size))) (by have := HML.out; have := hp11.len; omega) (by omega) hM.out.1 HL'.out hne' (HT2.out.below (HBX.out.trans ((HB57.out.trans (HB9.out.mono HB57.out.size)).mono HBX.out.size)))).mono ?_; rintro _ w10 ⟨A12, A13, n12, c12, n13, c13, T2, RT, rfl, hp12, hp13, hd2, hb10⟩; have HB10 := Lib.hid (HB9.out.trans (hb10.mono HB9.out.size)); have hcb10 := (HB10.out.cell (p := ⟨gb, 0, none⟩) hgl7).trans hcb7))
      all_goals
        have HW := Lib.hid (HB.out.trans ((HB57.out.trans (HB10.out.mono HB57.out.size)).mono HB.out.size))
        have hbs : w.heap.size ≤ wr.heap.size := HB.out.size
        have HF1 := Lib.hid ((HPG7.out.next HB10.out).base (b' := w.heap.size) (Nat.le_trans hbs HB3.out.size))
        have hbs5 := Nat.le_trans hbs HB5.out.size
        have hbs7 := Nat.le_trans hbs HB57.out.size
        have HF2 := Lib.hid ((HP9.out.next HB10.out).base (b' := w.heap.size) (Nat.le_trans hbs5 HB6.out.size))
        have HF3 := Lib.hid (hp12.base (b' := w.heap.size) (Nat.le_trans hbs7 HB9.out.size))
        have HN := Lib.hid (show n5 ≤ 4194304 ∧ n9 ≤ 4194304 ∧ n12 ≤ 4194304 by have := HN5.out.2; have := HS3L.out; have := hp12.len; have := hd2.out.2.2.2.1; have := HML.out; omega)
        have HBR := Lib.hid (show Pm.Br p L L' G S3 T2 by
          obtain ⟨s3q, hq1, hq2⟩ := hS3.out.1.2
          exact Pm.Br.mk' HP.out hq1 HL'.out (by rw [HLEN'.out]; exact hne') HRL.out HZ.out HV.out hG.out.2 hG.out.1 HGL.out hd.out.2.2.1 hd.out.2.1 hS2.out.2 hq2 (m := M) (fun k => (hM.out.2 k).trans ((Pm.cz.refl _).sub (hT8.out.2 k))) hd2.out.2.2.1 hd2.out.2.1)
        clear hcb7 hcb8 hcb9 hcb10 hp10 hp11 hp12 hp13 hb8 hb9 hb10
        go_wp2
        refine bodyPost_ret (v := .tuple #[.slice A5 n5 c5, .slice A9 n9 c9, .slice A12 n12 c12]) (by simp [results, Tryd.results48, go_sem]) rfl ?_
        exact ⟨A5, A9, A12, n5, c5, n9, c9, n12, c12, G, S3, T2, rfl, HF1.out, HF2.out, HF3.out, Lib.hid ⟨hG.out.1, hS3.out.1.1, hd2.out.1, HBR.out, HN.out⟩, HW.out⟩
    · have hm2 : (0 : Int) < m2 := by omega
      go_wp2_with fail
      refine (mdiv_any p HP.out hp HRR.out HRX.out (by have := HBZ.out.2.2.2.2.2.2.1; omega) (by have := HBZ.out.2.2.2.2.2.2.2.1; omega) HBZ.out.1 HBZ.out.2.1 h0 hT).mono ?_
      rintro _ w3 ⟨A5, A6, n5, c5, n6, c6, Q, Y, rfl, hq, hy, hd, hb3⟩
      have HPQ := Lib.hid hq
      have HPY := Lib.hid hy
      have HB3 := Lib.hid hb3
      have hcb3 := (hb3.cell (p := ⟨gb, 0, none⟩) hgl).trans hcb
      have hgl3 := Nat.lt_of_lt_of_le hgl hb3.size
      have HTM : Hid (Calls Tryd.prog 47 #[.agg #[.int .u64 p], .slice A5 n5 c5, .slice A4 m4 c4] w3.drew (RetPo p (Pm.cv (Pm.co Q) (Pm.co U)) w3.drew)) :=
        Lib.hid (mtimes_any p HP.out hp hq.rd.drew (HRU.out.next hb3).drew (by have := hq.len; have := hd.out.2.2.2.1; have := HBZ.out.2.2.2.2.2.2.1; omega) (by have := HBZ.out.su.2; have := HRU.out.len; omega) hd.out.1 HBZ.out.2.2.2.1)
      clear hq hy hb3 hcb
      go_wp2_with fail
      go_region_held3 (fun w' => w'.cell? ⟨gb, 0, none⟩ = some (.int .u64 p)) (go_keep)
        (first
          | (go_at_call 47; refine HTM.out.mono ?_; rintro _ w4 ⟨A7, n7, c7, T, rfl, hp7, hT7, hb4⟩; have hcb4 := (hb4.cell (p := ⟨gb, 0, none⟩) hgl3).trans hcb3; have HB4 := Lib.hid ((Below.refl w3.heap.size w3).drew.trans hb4))
          | (go_at_call 45; refine (msub_any p hpos hp (HRS.out.next (HB3.out.trans (HB4.out.mono HB3.out.size))) hp7.rd (by have := HBZ.out.su.1; have := HRS.out.len; omega) (by have := Pm.mul_len hpos hT7.out.1 hT7.out.2; have := hp7.len; have := hd.out.2.2.2.1; have := HBZ.out.2.2.2.2.2.2.1; have := HBZ.out.su.2; omega) HBZ.out.2.2.1 hT7.out.1).mono ?_; rintro _ w5 ⟨A8, n8, c8, N, rfl, hp8, hN, hb5⟩; have HB5 := Lib.hid (HB3.out.trans ((HB4.out.trans (hb5.mono HB4.out.size)).mono HB3.out.size)); have hcb5 := (HB5.out.cell (p := ⟨gb, 0, none⟩) hgl).trans ((HBX.out.cell (p := ⟨gb, 0, none⟩) hsz2).trans HCB2.out)))
      all_goals
        have HX := Lib.hid (And.intro (HRX.out.next HB5.out) (And.intro ((HPY.out.next (HB4.out.trans (hb5.mono HB4.out.size))).rd) (And.intro (HRU.out.next HB5.out) (And.intro hp8.rd (And.intro (HBZ.out.step HP.out (by rw [e2]; exact h0) hd.out hT7.out hN.out) (And.intro (HB.out.trans (HB5.out.mono HB.out.size)) (HBX.out.trans (HB5.out.mono HBX.out.size))))))))
        have HLT := Lib.hid (show n6 < m2 by
          have h6 : Y.length ≤ X.length - 1 := hd.out.2.1.short hpos hd.out.2.2.1.2
          have := HPY.out.len
          omega)
        clear hcb4 hcb5 hp7 hp8 hT7 hN hb4 hb5
        go_wp2
        go_roundw
        case rel => exact ⟨A2, A6, A4, A8, m2, c2, n6, c6, m4, c4, n8, c8, X, Y, U, N, rfl, rfl, rfl, rfl, HX⟩
        case measure => exact HLT.out
end Go.Proofs.YtmgacikdgbedfaaDoor

/- modpoly: Bezout and Div. -/
namespace Pm
theorem Br.cg {p : Nat} {a a' b b' g s t : List Nat} (h : Br p a b g s t) (ea : Cg p (co a) (co a')) (eb : Cg p (co b) (co b')) : Br p a' b' g s t :=
  ⟨fun k => (h.1 k).trans ((Cg.cv (Cg.refl (co s)) ea k).add (Cg.cv (Cg.refl (co t)) eb k)), h.2.1.cg ea.symm, h.2.2.cg eb.symm⟩
end Pm
namespace Go.Proofs.YtmgacikdgbedfaaDoor
open Go.RowKit Go.IntWalk
attribute [local go_sem ↓] Go.wp_at_zero Go.wp_at_succ

theorem bezout_any {A A' : Option Addr} {n n' c c' : Nat} {L L' : List Nat} {w : World} (p : Nat) (hpr : Nt.Pr p) (hp : p < 4294967296)
    (h : RdU w w.heap.size A n c L) (h' : RdU w w.heap.size A' n' c' L') (hn : n ≤ 1048576) (hn' : n' ≤ 1048576) (hL : Pm.Pn p L) (hL' : Pm.Pn p L') (hT : Tabs w) :
    Calls Tryd.prog 48 #[.agg #[.int .u64 p], .slice A n c, .slice A' n' c'] w (RetBz p L L' w) := by
  rcases Nat.eq_zero_or_pos n with h0 | h0
  · subst h0
    have hl : L = [] := List.eq_nil_of_length_eq_zero h.len
    subst hl
    exact bez_right p hpr hp h' hn' hL' hT
  · rcases Nat.eq_zero_or_pos n' with h1 | h1
    · subst h1
      have hl : L' = [] := List.eq_nil_of_length_eq_zero h'.len
      subst hl
      exact bez_left p hpr hp h hn hL h0 hT
    · exact bez_any p hpr hp h h' hn hn' hL hL' h0 h1 hT
/-- No polynomials, and an error. -/
def RetN3 (code : Int) (w : World) (e : Ending) (w' : World) : Prop := e = .returned (.tuple #[.slice none 0 0, .slice none 0 0, .slice none 0 0, .int .i64 code]) ∧ Below w.heap.size w w'
def RetN2 (code : Int) (w : World) (e : Ending) (w' : World) : Prop := e = .returned (.tuple #[.slice none 0 0, .slice none 0 0, .int .i64 code]) ∧ Below w.heap.size w w'
/-- Three polynomials and no error. -/
def RetBE (p : Nat) (L L' : List Nat) (w : World) (e : Ending) (w' : World) : Prop :=
  ∃ (A1 A2 A3 : Option Addr) (n1 c1 n2 c2 n3 c3 : Nat) (G S T : List Nat), e = .returned (.tuple #[.slice A1 n1 c1, .slice A2 n2 c2, .slice A3 n3 c3, .int .i64 0]) ∧ Po w' w.heap.size A1 n1 c1 G ∧ Po w' w.heap.size A2 n2 c2 S ∧ Po w' w.heap.size A3 n3 c3 T ∧
    Hid (Pm.Pn p G ∧ Pm.Pn p S ∧ Pm.Pn p T ∧ Pm.Br p L L' G S T ∧ n1 ≤ 4194304 ∧ n2 ≤ 4194304 ∧ n3 ≤ 4194304) ∧ Below w.heap.size w w'
/-- Quotient, rest and no error. -/
def RetDE (p : Nat) (L L' : List Nat) (w : World) (e : Ending) (w' : World) : Prop :=
  ∃ (A1 A2 : Option Addr) (n1 c1 n2 c2 : Nat) (Q R M M' : List Nat), e = .returned (.tuple #[.slice A1 n1 c1, .slice A2 n2 c2, .int .i64 0]) ∧ Po w' w.heap.size A1 n1 c1 Q ∧ Po w' w.heap.size A2 n2 c2 R ∧
    Hid (Pm.Pn p Q ∧ Pm.Pn p R ∧ (Pm.Pn p M ∧ Pm.Cg p (Pm.co M) (Pm.co L)) ∧ (Pm.Pn p M' ∧ Pm.Cg p (Pm.co M') (Pm.co L')) ∧ 0 < M'.length ∧ Pm.Dv p (Pm.co M) (Pm.co M') (Pm.co Q) (Pm.co R) (M'.length - 1) ∧ n1 ≤ 4194305 ∧ n2 ≤ 4194305) ∧ Below w.heap.size w w'
set_option maxRecDepth 100000 in
set_option maxHeartbeats 1000000 in
theorem mBez_none {A A' : Option Addr} {n c n' c' : Nat} {w : World} (p : Nat) (hpr : ¬ Nt.Pr p) (hp : p < 4294967296) (hT : Tabs w) :
    Calls Tryd.prog 24 #[.slice A n c, .slice A' n' c', .int .u32 p] w (RetN3 40 w) := by
  have HP := Lib.hid hpr
  have hB0 := below1 w (.cells #[.slice A n c, .slice A' n' c'] 26)
  have hT0 := hT.below hB0
  clear hpr
  go_enter Tryd.func24, Tryd.ntmps24
  go_wp2_with fail
  refine (mall_none p HP.out hp hT0).mono ?_
  rintro _ w1 ⟨rfl, hb1⟩
  have HB := Lib.hid ((hB0.trans (hb1.mono hB0.size)).alloc (Nat.le_trans hB0.size hb1.size) (.cells #[.int .u64 0] 63))
  go_wp2
  refine bodyPost_ret (v := .tuple #[.slice none 0 0, .slice none 0 0, .slice none 0 0, .int .i64 40]) (by simp [results, Tryd.results24, go_sem]) rfl ?_
  exact ⟨rfl, HB.out⟩
set_option maxRecDepth 100000 in
set_option maxHeartbeats 4000000 in
theorem mBez_ok {A A' : Option Addr} {n c n' c' : Nat} {L L' : List Nat} {w : World} (p : Nat) (hpr : Nt.Pr p) (hp : p < 4294967296) (h : RdU w w.heap.size A n c L) (h' : RdU w w.heap.size A' n' c' L') (hn : n ≤ 1048576) (hn' : n' ≤ 1048576) (hT : Tabs w) :
    Calls Tryd.prog 24 #[.slice A n c, .slice A' n' c', .int .u32 p] w (RetBE p L L' w) := by
  have HP := Lib.hid hpr
  have HR := Lib.hid (And.intro h h')
  have HA := Lib.hid (mall2_any p hpr hp h h' (by omega) (by omega) hT)
  have h0 := hpr.pos
  clear hpr h h'
  go_enter Tryd.func24, Tryd.ntmps24
  go_wp2_with fail
  refine HA.out.mono ?_
  rintro _ w1 ⟨g, A1, n1, c1, M1, A2, n2, c2, M2, rfl, hg, hcg0, hcg1, hp1, hp2, hM, _, _, hb1⟩
  have hn1 := pn_short h0 hM.out.1 hM.out.2.1 hp1 HR.out.1
  have hn2 := pn_short h0 hM.out.2.2.1 hM.out.2.2.2 hp2 HR.out.2
  have hB2 := below1 w1 (.cells #[.int .u64 p] 63)
  have hcb : (w1.alloc (.cells #[.int .u64 p] 63)).cell? ⟨w1.heap.size, 0, none⟩ = some (.int .u64 p) := by go_simp
  have HC0 := Lib.hid ((hB2.cell (p := ⟨g, 0, none⟩) hg).trans hcg0)
  have HC1 := Lib.hid ((hB2.cell (p := ⟨g, 1, none⟩) hg).trans hcg1)
  have hP1 := hp1.next hB2
  have hP2 := hp2.next hB2
  have hT2 := (hT.below hb1).below hB2
  have HB := Lib.hid (hb1.trans (hB2.mono hb1.size))
  have hsz : w1.heap.size < (w1.alloc (.cells #[.int .u64 p] 63)).heap.size := by simp
  have HCB := Lib.hid hcb
  clear hcb hcg0 hcg1 hB2 hp1 hp2
  go_wp2_with fail
  generalize w1.alloc (.cells #[.int .u64 p] 63) = W2 at HC0 HC1 HCB hP1 hP2 hT2 HB hsz ⊢
  have hgl : g < W2.heap.size := Nat.lt_trans hg hsz
  have hc0 := HC0.out
  have hc1 := HC1.out
  have hcb := HCB.out
  have HSZ := Lib.hid (HB.out.size)
  have HE := Lib.hid (bezout_any p HP.out hp hP1.rd.drew hP2.rd.drew (by omega) (by omega) hM.out.1 hM.out.2.2.1 hT2.drew)
  go_region_held3 (fun w' => w'.cell? ⟨w1.heap.size, 0, none⟩ = some (.int .u64 p) ∧ w'.cell? ⟨g, 0, none⟩ = some (.slice A1 n1 c1) ∧ w'.cell? ⟨g, 1, none⟩ = some (.slice A2 n2 c2)) (go_keep)
    (first
      | (go_at_call 48; refine HE.out.mono ?_; rintro _ w3 ⟨A3, A4, A5, n3, c3, n4, c4, n5, c5, G, S, T, rfl, hp3, hp4, hp5, hz, hb3⟩; have hcb3 := (hb3.cell (p := ⟨w1.heap.size, 0, none⟩) hsz).trans hcb; have hc03 := (hb3.cell (p := ⟨g, 0, none⟩) hgl).trans hc0; have hc13 := (hb3.cell (p := ⟨g, 1, none⟩) hgl).trans hc1))
  have HF := Lib.hid (HB.out.drew.trans (hb3.mono HB.out.size))
  have HQ := Lib.hid (And.intro (hp3.base HSZ.out) (And.intro (hp4.base HSZ.out) (hp5.base HSZ.out)))
  clear hcb3 hc03 hc13 hp3 hp4 hp5 hb3
  go_wp2_with fail
  refine (mtold_any HQ.out.1).mono ?_
  rintro _ _ ⟨A6, c6, rfl, hp6, rfl⟩
  go_wp2_with fail
  refine (mtold_any HQ.out.2.1).mono ?_
  rintro _ _ ⟨A7, c7, rfl, hp7, rfl⟩
  go_wp2_with fail
  refine (mtold_any HQ.out.2.2).mono ?_
  rintro _ _ ⟨A8, c8, rfl, hp8, rfl⟩
  go_wp2
  refine bodyPost_ret (v := .tuple #[.slice A6 n3 c6, .slice A7 n4 c7, .slice A8 n5 c8, .int .i64 0]) (by simp [results, Tryd.results24, go_sem]) rfl ?_
  exact ⟨A6, A7, A8, n3, c6, n4, c7, n5, c8, G, S, T, rfl, hp6, hp7, hp8, Lib.hid ⟨hz.out.1, hz.out.2.1, hz.out.2.2.1, hz.out.2.2.2.1.cg hM.out.2.1 hM.out.2.2.2, hz.out.2.2.2.2⟩, HF.out⟩
set_option maxRecDepth 100000 in
set_option maxHeartbeats 1000000 in
theorem mDiv_none {A A' : Option Addr} {n c n' c' : Nat} {w : World} (p : Nat) (hpr : ¬ Nt.Pr p) (hp : p < 4294967296) (hT : Tabs w) :
    Calls Tryd.prog 28 #[.slice A n c, .slice A' n' c', .int .u32 p] w (RetN2 40 w) := by
  have HP := Lib.hid hpr
  have hB0 := below1 w (.cells #[.slice A n c, .slice A' n' c'] 26)
  have hT0 := hT.below hB0
  clear hpr
  go_enter Tryd.func28, Tryd.ntmps28
  go_wp2_with fail
  refine (mall_none p HP.out hp hT0).mono ?_
  rintro _ w1 ⟨rfl, hb1⟩
  have HB := Lib.hid ((hB0.trans (hb1.mono hB0.size)).alloc (Nat.le_trans hB0.size hb1.size) (.cells #[.int .u64 0] 63))
  go_wp2
  refine bodyPost_ret (v := .tuple #[.slice none 0 0, .slice none 0 0, .int .i64 40]) (by simp [results, Tryd.results28, go_sem]) rfl ?_
  exact ⟨rfl, HB.out⟩
/-- Div's answer: an error just where the divisor is nought. -/
def RetDiv (p : Nat) (L L' : List Nat) (w : World) (e : Ending) (w' : World) : Prop := (RetN2 70 w e w' ∧ Hid (Pm.Cg p (Pm.co []) (Pm.co L'))) ∨ RetDE p L L' w e w'
set_option maxRecDepth 100000 in
set_option maxHeartbeats 4000000 in
theorem mDiv_ok {A A' : Option Addr} {n c n' c' : Nat} {L L' : List Nat} {w : World} (p : Nat) (hpr : Nt.Pr p) (hp : p < 4294967296) (h : RdU w w.heap.size A n c L) (h' : RdU w w.heap.size A' n' c' L') (hn : n ≤ 4194304) (hn' : n' ≤ 4194304) (hT : Tabs w) :
    Calls Tryd.prog 28 #[.slice A n c, .slice A' n' c', .int .u32 p] w (RetDiv p L L' w) := by
  have HP := Lib.hid hpr
  have HR := Lib.hid (And.intro h h')
  have HA := Lib.hid (mall2_any p hpr hp h h' (by omega) (by omega) hT)
  have h0 := hpr.pos
  clear hpr h h'
  go_enter Tryd.func28, Tryd.ntmps28
  go_wp2_with fail
  refine HA.out.mono ?_
  rintro _ w1 ⟨g, A1, n1, c1, M1, A2, n2, c2, M2, rfl, hg, hcg0, hcg1, hp1, hp2, hM, _, _, hb1⟩
  have hn1 := pn_short h0 hM.out.1 hM.out.2.1 hp1 HR.out.1
  have hn2 := pn_short h0 hM.out.2.2.1 hM.out.2.2.2 hp2 HR.out.2
  have hB2 := below1 w1 (.cells #[.int .u64 p] 63)
  have hcb : (w1.alloc (.cells #[.int .u64 p] 63)).cell? ⟨w1.heap.size, 0, none⟩ = some (.int .u64 p) := by go_simp
  have HC0 := Lib.hid ((hB2.cell (p := ⟨g, 0, none⟩) hg).trans hcg0)
  have HC1 := Lib.hid ((hB2.cell (p := ⟨g, 1, none⟩) hg).trans hcg1)
  have hP1 := hp1.next hB2
  have hP2 := hp2.next hB2
  have hT2 := (hT.below hb1).below hB2
  have HB := Lib.hid (hb1.trans (hB2.mono hb1.size))
  have hsz : w1.heap.size < (w1.alloc (.cells #[.int .u64 p] 63)).heap.size := by simp
  have HCB := Lib.hid hcb
  have HLEN1 := Lib.hid hp1.len
  have HLEN2 := Lib.hid hp2.len
  have hc1 := HC1.out
  clear hcb hcg0 hcg1 hB2 hp1 hp2
  rcases Nat.eq_zero_or_pos n2 with e2 | e2
  · subst e2
    have hl : M2 = [] := List.eq_nil_of_length_eq_zero HLEN2.out
    subst hl
    go_wp2
    refine bodyPost_ret (v := .tuple #[.slice none 0 0, .slice none 0 0, .int .i64 70]) (by simp [results, Tryd.results28, go_sem]) rfl ?_
    exact .inl ⟨⟨rfl, HB.out⟩, Lib.hid hM.out.2.2.2⟩
  · have hnz : ((n2 : Int) == 0) = false := by simp; omega
    go_wp2_with fail
    clear hc1
    generalize w1.alloc (.cells #[.int .u64 p] 63) = W2 at HC0 HC1 HCB hP1 hP2 hT2 HB hsz ⊢
    have hgl : g < W2.heap.size := Nat.lt_trans hg hsz
    have hc0 := HC0.out
    have hc1 := HC1.out
    have hcb := HCB.out
    have HSZ := Lib.hid (HB.out.size)
    have HE := Lib.hid (mdiv_any p HP.out hp hP1.rd.drew hP2.rd.drew (by omega) (by omega) hM.out.1 hM.out.2.2.1 e2 hT2.drew)
    go_region_held3 (fun w' => w'.cell? ⟨w1.heap.size, 0, none⟩ = some (.int .u64 p) ∧ w'.cell? ⟨g, 0, none⟩ = some (.slice A1 n1 c1) ∧ w'.cell? ⟨g, 1, none⟩ = some (.slice A2 n2 c2)) (go_keep)
      (first
        | (go_at_call 49; refine HE.out.mono ?_; rintro _ w3 ⟨A3, A4, n3, c3, n4, c4, Q, R, rfl, hp3, hp4, hd, hb3⟩; have hcb3 := (hb3.cell (p := ⟨w1.heap.size, 0, none⟩) hsz).trans hcb; have hc03 := (hb3.cell (p := ⟨g, 0, none⟩) hgl).trans hc0; have hc13 := (hb3.cell (p := ⟨g, 1, none⟩) hgl).trans hc1))
    have HF := Lib.hid (HB.out.drew.trans (hb3.mono HB.out.size))
    have HQ := Lib.hid (And.intro (hp3.base HSZ.out) (hp4.base HSZ.out))
    have HN := Lib.hid (show n3 ≤ 4194305 ∧ n4 ≤ 4194305 by have := hp3.len; have := hp4.len; have := hd.out.2.2.2.1; have := hd.out.2.2.2.2; have := HLEN1.out; have := HLEN2.out; omega)
    clear hcb3 hc03 hc13 hp3 hp4 hb3
    go_wp2_with fail
    refine (mtold_any HQ.out.1).mono ?_
    rintro _ _ ⟨A6, c6, rfl, hp6, rfl⟩
    go_wp2_with fail
    refine (mtold_any HQ.out.2).mono ?_
    rintro _ _ ⟨A7, c7, rfl, hp7, rfl⟩
    go_wp2
    refine bodyPost_ret (v := .tuple #[.slice A6 n3 c6, .slice A7 n4 c7, .int .i64 0]) (by simp [results, Tryd.results28, go_sem]) rfl ?_
    exact .inr ⟨A6, A7, n3, c6, n4, c7, Q, R, M1, M2, rfl, hp6, hp7, Lib.hid ⟨hd.out.1, hd.out.2.1, ⟨hM.out.1, hM.out.2.1⟩, ⟨hM.out.2.2.1, hM.out.2.2.2⟩, by rw [HLEN2.out]; exact e2, hd.out.2.2.1, HN.out⟩, HF.out⟩
end Go.Proofs.YtmgacikdgbedfaaDoor

/- modpoly's laws: Makes. -/
namespace Go.Proofs.YtmgacikdgbedfaaDoor
open Go.RowKit Go.IntWalk
attribute [local go_sem ↓] Go.wp_at_zero Go.wp_at_succ

set_option maxRecDepth 100000 in
set_option maxHeartbeats 1000000 in
theorem lall_any {g k : Nat} {w : World} (h : VB w g 23 (List.replicate k (.int .i64 0))) (hk : k ≤ 100) :
    Calls Tryd.prog 27 #[.slice (some ⟨g, 0, none⟩) k k] w fun e w' => e = .returned (.bool true) ∧ w' = w := by
  go_enter Tryd.func27, Tryd.ntmps27
  go_wp2_with fail
  go_loop [7] (fun iv => ∃ i : Nat, iv = .int .i64 i ∧ i ≤ k) (fun iv => k - (intOf iv).toNat)
  case atStart => exact ⟨0, rfl, Nat.zero_le _⟩
  case round =>
    obtain ⟨i, rfl, hi⟩ := hrel
    by_cases hik : i < k
    · have hc := h.cell (j := i) (v := .int .i64 0) (by rw [List.getElem?_replicate, if_pos hik])
      have hlt : (i : Int) < k := by omega
      go_wp2_with (go_at_call 8; refine (num_any _ _).mono ?_; rintro _ _ ⟨z, rfl, hz, rfl⟩; obtain rfl := hz.out)
      go_round
      case rel => exact ⟨i + 1, by simp, by omega⟩
      case measure => simp [intOf]; omega
    · obtain rfl : i = k := by omega
      go_wp2
      go_ret
      exact ⟨rfl, rfl⟩
end Go.Proofs.YtmgacikdgbedfaaDoor

/- modpoly's laws: Makes. -/
namespace Go.Proofs.YtmgacikdgbedfaaDoor
open Go.RowKit Go.IntWalk
attribute [local go_sem ↓] Go.wp_at_zero Go.wp_at_succ

theorem lsame_eq {A A' : Option Addr} {B n n' c c' : Nat} {L L' : List Nat} {w : World} (h : RdU w B A n c L) (h' : RdU w B A' n' c' L') (e : L = L') :
    Calls Tryd.prog 14 #[.slice A n c, .slice A' n' c'] w (RetBD true w) := by
  have := lsame_any h h'
  rwa [show (L == L') = true by simpa using e] at this
theorem all4 (w : World) : Calls Tryd.prog 27 #[.slice (some ⟨w.heap.size, 0, none⟩) 4 4] (w.alloc (.cells #[.int .i64 0, .int .i64 0, .int .i64 0, .int .i64 0] 23)) fun e w' => e = .returned (.bool true) ∧ w' = (w.alloc (.cells #[.int .i64 0, .int .i64 0, .int .i64 0, .int .i64 0] 23)) :=
  lall_any (k := 4) (VB.new w 23 (List.replicate 4 (.int .i64 0))) (by omega)
theorem all2 (w : World) : Calls Tryd.prog 27 #[.slice (some ⟨w.heap.size, 0, none⟩) 2 2] (w.alloc (.cells #[.int .i64 0, .int .i64 0] 23)) fun e w' => e = .returned (.bool true) ∧ w' = (w.alloc (.cells #[.int .i64 0, .int .i64 0] 23)) :=
  lall_any (k := 2) (VB.new w 23 (List.replicate 2 (.int .i64 0))) (by omega)
set_option maxRecDepth 100000 in
set_option maxHeartbeats 1000000 in
theorem makes_none {v v' : Value} {w : World} (p : Nat) (hp : p < 4294967296) (hpr : ¬ Nt.Pr p) (hT : Tabs w) :
    Calls Tryd.prog 7 #[v, v', .int .u32 p] w (RetT w) := by
  have HP := Lib.hid (Nt.isP_false_iff.2 hpr)
  clear hpr
  go_enter Tryd.func7, Tryd.ntmps7
  go_wp2_with fail
  refine (refIs_any p rfl hp _).mono ?_
  rintro _ _ ⟨rfl, rfl⟩
  rw [HP.out]
  go_wp2_with fail
  refine (awake_any _ hT).mono ?_
  rintro _ w1 ⟨rfl, hb⟩
  go_wp2
  go_ret
  exact ⟨rfl, hb⟩
/-- What divides leaves no rest. -/
theorem no_rest {p : Nat} (hp : Nt.Pr p) {G L Q R M M' : List Nat} (hG : Pm.Pn p G) (hd : Pm.Di p (Pm.co G) (Pm.co L)) (h : Pm.Pn p Q ∧ Pm.Pn p R ∧ (Pm.Pn p M ∧ Pm.Cg p (Pm.co M) (Pm.co L)) ∧ (Pm.Pn p M' ∧ Pm.Cg p (Pm.co M') (Pm.co G)) ∧ 0 < M'.length ∧ Pm.Dv p (Pm.co M) (Pm.co M') (Pm.co Q) (Pm.co R) (M'.length - 1)) : R = [] := by
  have e : M' = G := h.2.2.2.1.1.ext hp.pos hG h.2.2.2.1.2
  subst e
  exact (Pm.dv_exact hp hG h.2.2.2.2.1 (Pm.Cg.refl _) h.2.2.2.2.2 h.2.1 (hd.cg h.2.2.1.2)).1
/-- Quotient and rest make it. -/
theorem div_back {p : Nat} {Q R M M' L L' : List Nat} (hM : Pm.Cg p (Pm.co M) (Pm.co L)) (hM' : Pm.Cg p (Pm.co M') (Pm.co L')) (h : Pm.Dv p (Pm.co M) (Pm.co M') (Pm.co Q) (Pm.co R) (M'.length - 1)) :
    ∀ k, Pm.cz p (Pm.cv (Pm.co Q) (Pm.co L') k + Pm.co R k) (Pm.co L k) := fun k =>
  ((((Pm.Cg.cv (Pm.Cg.refl (Pm.co Q)) hM'.symm k).add (Pm.cz.refl _)).trans (h.1 k).symm)).trans (hM k)
set_option maxRecDepth 100000 in
set_option maxHeartbeats 8000000 in
theorem makes_ok {A A' : Option Addr} {n n' c c' : Nat} {L L' : List Nat} {w : World} (p : Nat) (hp : p < 4294967296) (hpr : Nt.Pr p) (h : RdU w w.heap.size A n c L) (h' : RdU w w.heap.size A' n' c' L') (hn : n ≤ 1048576) (hn' : n' ≤ 1048576) (hT : Tabs w) :
    Calls Tryd.prog 7 #[.slice A n c, .slice A' n' c', .int .u32 p] w (RetT w) := by
  have HI := Lib.hid (Nt.isP_iff.2 hpr)
  have HP := Lib.hid hpr
  have h0 := hpr.pos
  have HR := Lib.hid h
  have HR' := Lib.hid h'
  clear hpr h h'
  go_enter Tryd.func7, Tryd.ntmps7
  go_wp2_with fail
  refine (refIs_any p rfl hp _).mono ?_
  rintro _ _ ⟨rfl, rfl⟩
  rw [HI.out]
  go_wp2_with fail
  refine (mBez_ok p HP.out hp HR.out HR'.out hn hn' hT).mono ?_
  rintro _ w1 ⟨A1, A2, A3, n1, c1, n2, c2, n3, c3, G, S, T, rfl, hg, hs, ht, hz, hb⟩
  have HB1 := Lib.hid hb
  have HG := Lib.hid hg
  have HS := Lib.hid hs
  have HLS := Lib.hid hs.len
  have HTT := Lib.hid ht
  clear hg hs ht hb
  go_wp2_with fail
  refine (mMul_ok p HP.out hp HS.out.rd (HR.out.next HB1.out) (by have := hz.out.2.2.2.2.2.1; omega) (by omega) (hT.below HB1.out)).mono ?_
  rintro _ w2 ⟨A4, n4, c4, X1, rfl, hp4, hX1, hb2⟩
  have HB2 := Lib.hid (HB1.out.trans (hb2.mono HB1.out.size))
  have HG2 := Lib.hid (HG.out.next hb2)
  have HT2 := Lib.hid (HTT.out.next hb2)
  have HX1 := Lib.hid hp4
  clear hb2 hp4 HG HS HTT
  go_wp2_with fail
  refine (mMul_ok p HP.out hp HT2.out.rd (HR'.out.next HB2.out) (by have := hz.out.2.2.2.2.2.2; omega) (by omega) (hT.below HB2.out)).mono ?_
  rintro _ w3 ⟨A5, n5, c5, X2, rfl, hp5, hX2, hb3⟩
  have HB3 := Lib.hid (HB2.out.trans (hb3.mono HB2.out.size))
  have HG3 := Lib.hid (HG2.out.next hb3)
  have HX13 := Lib.hid (HX1.out.next hb3)
  have HX2 := Lib.hid hp5
  have HN4 := Lib.hid (show n4 ≤ 1099511627776 by have := Pm.mul_len h0 hX1.out.1 hX1.out.2; have := HX1.out.len; have := hz.out.2.2.2.2.2.1; have := HR.out.len; have := HLS.out; omega)
  have HN5 := Lib.hid (show n5 ≤ 1099511627776 by have := Pm.mul_len h0 hX2.out.1 hX2.out.2; have := HX2.out.len; have := hz.out.2.2.2.2.2.2; have := HR'.out.len; have := HT2.out.len; omega)
  clear hb3 hp5 HG2 HT2 HX1 HLS
  go_wp2_with fail
  refine (mAdd_ok p HP.out hp HX13.out.rd HX2.out.rd HN4.out HN5.out (hT.below HB3.out)).mono ?_
  rintro _ w4 ⟨A6, n6, c6, X3, rfl, hp6, hX3, hb4⟩
  have HB4 := Lib.hid (HB3.out.trans (hb4.mono HB3.out.size))
  have HG4 := Lib.hid (HG3.out.next hb4)
  have HX3 := Lib.hid hp6
  have HE := Lib.hid (show X3 = G from hX3.out.1.ext h0 hz.out.1 ((hX3.out.2.trans (fun k => (hX1.out.2 k).add (hX2.out.2 k))).trans hz.out.2.2.2.1.1.symm))
  clear hb4 hp6 HG3 HX13 HX2 HN4 HN5
  go_wp2_with fail
  refine (all4 w4).mono ?_
  rintro _ _ ⟨rfl, rfl⟩
  have hB5 := below1 w4 (.cells #[.int .i64 0, .int .i64 0, .int .i64 0, .int .i64 0] 23)
  have HB5 := Lib.hid (HB4.out.trans (hB5.mono HB4.out.size))
  have HSM := Lib.hid (lsame_eq (HX3.out.next hB5).rd (HG4.out.next hB5).rd HE.out)
  have HG5 := Lib.hid (HG4.out.next hB5)
  clear hB5 HG4 HX3
  generalize w4.alloc (.cells #[.int .i64 0, .int .i64 0, .int .i64 0, .int .i64 0] 23) = W5 at HB5 HSM HG5 ⊢
  go_wp2_with fail
  refine HSM.out.mono ?_
  rintro _ _ ⟨rfl, j, rfl⟩
  have HB6 := Lib.hid (below_drewN HB5.out j)
  have HG6 := Lib.hid (HG5.out.next (below_drewN (Below.refl _ _) j))
  clear HSM HG5
  generalize W5.drewN j = W6 at HB6 HG6 ⊢
  have HLG := Lib.hid HG6.out.len
  rcases Nat.eq_zero_or_pos n1 with hn1 | hn1
  · subst hn1
    have HBX := HB6
    clear HB6 HG6
    go_wp2_with fail
    refine (mDiv_ok p HP.out hp (HR.out.next HBX.out) (HR'.out.next HBX.out) (by omega) (by omega) (hT.below HBX.out)).mono ?_
    rintro e w9 (⟨⟨rfl, hb9⟩, hz9⟩ | ⟨A7, A8, n7, c7, n8, c8, Q, R, M, M', rfl, hq, hr, hd, hb9⟩)
    · have HB9 := Lib.hid (HBX.out.trans (hb9.mono HBX.out.size))
      clear hb9
      go_wp2_with fail
      refine (num_any _ _).mono ?_
      rintro _ _ ⟨z, rfl, hz1, rfl⟩
      obtain rfl := hz1.out
      go_wp2_with fail
      refine (rNorm_any p h0 hp (HR'.out.next HB9.out) (by omega)).mono ?_
      rintro _ w10 ⟨A9, n9, c9, N, rfl, hp9, hN, hb10⟩
      have hN0 : N = [] := hN.out.1.ext h0 Pm.Pn.nil (hN.out.2.trans hz9.out.symm)
      subst hN0
      obtain rfl : n9 = 0 := hp9.len.symm
      have HB10 := Lib.hid (HB9.out.trans (hb10.mono HB9.out.size))
      clear hb10 hp9
      go_wp2_with fail
      refine (awake_any _ (hT.below HB10.out)).mono ?_
      rintro _ w11 ⟨rfl, hb11⟩
      have HB11 := Lib.hid (HB10.out.trans (hb11.mono HB10.out.size))
      go_wp2
      go_ret
      exact ⟨rfl, HB11.out⟩
    · have HB9 := Lib.hid (HBX.out.trans (hb9.mono HBX.out.size))
      have HQ := Lib.hid hq
      have HRR := Lib.hid hr
      clear hb9 hq hr
      go_wp2_with fail
      refine (num_any _ _).mono ?_
      rintro _ _ ⟨z, rfl, hz1, rfl⟩
      obtain rfl := hz1.out
      go_wp2_with fail
      refine (mMul_ok p HP.out hp HQ.out.rd (HR'.out.next HB9.out) (by have := hd.out.2.2.2.2.2.2.1; omega) (by omega) (hT.below HB9.out)).mono ?_
      rintro _ w10 ⟨A9, n9, c9, Y1, rfl, hp9, hY1, hb10⟩
      have HB10 := Lib.hid (HB9.out.trans (hb10.mono HB9.out.size))
      have HN9 := Lib.hid (show n9 ≤ 1099511627776 by have := Pm.mul_len h0 hY1.out.1 hY1.out.2; have := hp9.len; have := HQ.out.len; have := hd.out.2.2.2.2.2.2.1; have := HR'.out.len; omega)
      have HR10 := Lib.hid (HRR.out.next hb10)
      have HY1 := Lib.hid hp9
      clear hb10 hp9 HRR HQ
      go_wp2_with fail
      refine (mAdd_ok p HP.out hp HY1.out.rd HR10.out.rd HN9.out (by have := hd.out.2.2.2.2.2.2.2; omega) (hT.below HB10.out)).mono ?_
      rintro _ w11 ⟨A10, n10, c10, Y2, rfl, hp10, hY2, hb11⟩
      have HB11 := Lib.hid (HB10.out.trans (hb11.mono HB10.out.size))
      have HY2 := Lib.hid hp10
      have HLR := Lib.hid HR10.out.len
      clear hb11 hp10 HY1 HR10
      go_wp2_with fail
      refine (all2 w11).mono ?_
      rintro _ _ ⟨rfl, rfl⟩
      have hB12 := below1 w11 (.cells #[.int .i64 0, .int .i64 0] 23)
      have HB12 := Lib.hid (HB11.out.trans (hB12.mono HB11.out.size))
      have HY3 := Lib.hid (HY2.out.next hB12)
      clear hB12 HY2
      generalize w11.alloc (.cells #[.int .i64 0, .int .i64 0] 23) = W12 at HB12 HY3 ⊢
      go_wp2_with fail
      refine (rNorm_any p h0 hp (HR.out.next HB12.out) (by omega)).mono ?_
      rintro _ w13 ⟨A11, n11, c11, N, rfl, hp11, hN, hb13⟩
      have HSM := Lib.hid (lsame_eq (HY3.out.next hb13).rd hp11.rd (show Y2 = N from hY2.out.1.ext h0 hN.out.1 ((hY2.out.2.trans fun k => ((hY1.out.2 k).add (Pm.cz.refl _)).trans (div_back hd.out.2.2.1.2 hd.out.2.2.2.1.2 hd.out.2.2.2.2.2.1 k)).trans hN.out.2.symm)))
      have HB13 := Lib.hid (HB12.out.trans (hb13.mono HB12.out.size))
      clear hb13 hp11 HY3
      go_wp2_with fail
      refine HSM.out.mono ?_
      rintro _ _ ⟨rfl, j3, rfl⟩
      have HB14 := Lib.hid (below_drewN HB13.out j3)
      clear HSM
      generalize w13.drewN j3 = W14 at HB14 ⊢
      go_wp2_with fail
      refine (rNorm_any p h0 hp (HR'.out.next HB14.out) (by omega)).mono ?_
      rintro _ w15 ⟨A12, n12, c12, N', rfl, hp12, hN', hb15⟩
      have hNM : N' = M' := hN'.out.1.ext h0 hd.out.2.2.2.1.1 (hN'.out.2.trans hd.out.2.2.2.1.2.symm)
      have hlt : (n8 : Int) < n12 := by
        have h1 : R.length ≤ M'.length - 1 := hd.out.2.1.short h0 hd.out.2.2.2.2.2.1.2
        have h2 := hp12.len
        rw [hNM] at h2
        have h3 := hd.out.2.2.2.2.1
        have h4 := HLR.out
        omega
      have HB15 := Lib.hid (HB14.out.trans (hb15.mono HB14.out.size))
      clear hb15 hp12
      go_wp2_with fail
      refine (awake_any _ (hT.below HB15.out)).mono ?_
      rintro _ w16 ⟨rfl, hb16⟩
      have HB16 := Lib.hid (HB15.out.trans (hb16.mono HB15.out.size))
      go_wp2
      go_ret
      exact ⟨rfl, HB16.out⟩
  · have hn1' : (0 : Int) < n1 := by omega
    go_wp2_with fail
    refine (mDiv_ok p HP.out hp (HR.out.next HB6.out) HG6.out.rd (by omega) (by have := hz.out.2.2.2.2.1; omega) (hT.below HB6.out)).mono ?_
    rintro e w7 (⟨⟨rfl, hb7⟩, hz7⟩ | ⟨A7, A8, n7, c7, n8, c8, Q, R, M, M', rfl, hq, hr, hd, hb7⟩)
    · exfalso
      have : G = [] := hz.out.1.ext h0 Pm.Pn.nil hz7.out.symm
      have := HLG.out
      simp_all
    have hR0 : R = [] := no_rest HP.out hz.out.1 hz.out.2.2.2.1.2.1 ⟨hd.out.1, hd.out.2.1, hd.out.2.2.1, hd.out.2.2.2.1, hd.out.2.2.2.2.1, hd.out.2.2.2.2.2.1⟩
    subst hR0
    obtain rfl : n8 = 0 := hr.len.symm
    have HB7 := Lib.hid (HB6.out.trans (hb7.mono HB6.out.size))
    have HG7 := Lib.hid (HG6.out.next hb7)
    clear hb7 hq hr hd HG6
    go_wp2_with fail
    refine (mDiv_ok p HP.out hp (HR'.out.next HB7.out) HG7.out.rd (by omega) (by have := hz.out.2.2.2.2.1; omega) (hT.below HB7.out)).mono ?_
    rintro e w8 (⟨⟨rfl, hb8⟩, hz8⟩ | ⟨A9, A10, n9, c9, n10, c10, Q2, R2, M2, M2', rfl, hq, hr, hd, hb8⟩)
    · exfalso
      have : G = [] := hz.out.1.ext h0 Pm.Pn.nil hz8.out.symm
      have := HLG.out
      simp_all
    have hR0 : R2 = [] := no_rest HP.out hz.out.1 hz.out.2.2.2.1.2.2 ⟨hd.out.1, hd.out.2.1, hd.out.2.2.1, hd.out.2.2.2.1, hd.out.2.2.2.2.1, hd.out.2.2.2.2.2.1⟩
    subst hR0
    obtain rfl : n10 = 0 := hr.len.symm
    have HB8 := Lib.hid (HB7.out.trans (hb8.mono HB7.out.size))
    clear hb8 hq hr hd HG7
    go_wp2_with fail
    refine (all2 w8).mono ?_
    rintro _ _ ⟨rfl, rfl⟩
    have HBX := Lib.hid (HB8.out.alloc HB8.out.size (.cells #[.int .i64 0, .int .i64 0] 23))
    generalize w8.alloc (.cells #[.int .i64 0, .int .i64 0] 23) = W8 at HBX ⊢
    clear hn1'
    go_wp2_with fail
    refine (mDiv_ok p HP.out hp (HR.out.next HBX.out) (HR'.out.next HBX.out) (by omega) (by omega) (hT.below HBX.out)).mono ?_
    rintro e w9 (⟨⟨rfl, hb9⟩, hz9⟩ | ⟨A7, A8, n7, c7, n8, c8, Q, R, M, M', rfl, hq, hr, hd, hb9⟩)
    · have HB9 := Lib.hid (HBX.out.trans (hb9.mono HBX.out.size))
      clear hb9
      go_wp2_with fail
      refine (num_any _ _).mono ?_
      rintro _ _ ⟨z, rfl, hz1, rfl⟩
      obtain rfl := hz1.out
      go_wp2_with fail
      refine (rNorm_any p h0 hp (HR'.out.next HB9.out) (by omega)).mono ?_
      rintro _ w10 ⟨A9, n9, c9, N, rfl, hp9, hN, hb10⟩
      have hN0 : N = [] := hN.out.1.ext h0 Pm.Pn.nil (hN.out.2.trans hz9.out.symm)
      subst hN0
      obtain rfl : n9 = 0 := hp9.len.symm
      have HB10 := Lib.hid (HB9.out.trans (hb10.mono HB9.out.size))
      clear hb10 hp9
      go_wp2_with fail
      refine (awake_any _ (hT.below HB10.out)).mono ?_
      rintro _ w11 ⟨rfl, hb11⟩
      have HB11 := Lib.hid (HB10.out.trans (hb11.mono HB10.out.size))
      go_wp2
      go_ret
      exact ⟨rfl, HB11.out⟩
    · have HB9 := Lib.hid (HBX.out.trans (hb9.mono HBX.out.size))
      have HQ := Lib.hid hq
      have HRR := Lib.hid hr
      clear hb9 hq hr
      go_wp2_with fail
      refine (num_any _ _).mono ?_
      rintro _ _ ⟨z, rfl, hz1, rfl⟩
      obtain rfl := hz1.out
      go_wp2_with fail
      refine (mMul_ok p HP.out hp HQ.out.rd (HR'.out.next HB9.out) (by have := hd.out.2.2.2.2.2.2.1; omega) (by omega) (hT.below HB9.out)).mono ?_
      rintro _ w10 ⟨A9, n9, c9, Y1, rfl, hp9, hY1, hb10⟩
      have HB10 := Lib.hid (HB9.out.trans (hb10.mono HB9.out.size))
      have HN9 := Lib.hid (show n9 ≤ 1099511627776 by have := Pm.mul_len h0 hY1.out.1 hY1.out.2; have := hp9.len; have := HQ.out.len; have := hd.out.2.2.2.2.2.2.1; have := HR'.out.len; omega)
      have HR10 := Lib.hid (HRR.out.next hb10)
      have HY1 := Lib.hid hp9
      clear hb10 hp9 HRR HQ
      go_wp2_with fail
      refine (mAdd_ok p HP.out hp HY1.out.rd HR10.out.rd HN9.out (by have := hd.out.2.2.2.2.2.2.2; omega) (hT.below HB10.out)).mono ?_
      rintro _ w11 ⟨A10, n10, c10, Y2, rfl, hp10, hY2, hb11⟩
      have HB11 := Lib.hid (HB10.out.trans (hb11.mono HB10.out.size))
      have HY2 := Lib.hid hp10
      have HLR := Lib.hid HR10.out.len
      clear hb11 hp10 HY1 HR10
      go_wp2_with fail
      refine (all2 w11).mono ?_
      rintro _ _ ⟨rfl, rfl⟩
      have hB12 := below1 w11 (.cells #[.int .i64 0, .int .i64 0] 23)
      have HB12 := Lib.hid (HB11.out.trans (hB12.mono HB11.out.size))
      have HY3 := Lib.hid (HY2.out.next hB12)
      clear hB12 HY2
      generalize w11.alloc (.cells #[.int .i64 0, .int .i64 0] 23) = W12 at HB12 HY3 ⊢
      go_wp2_with fail
      refine (rNorm_any p h0 hp (HR.out.next HB12.out) (by omega)).mono ?_
      rintro _ w13 ⟨A11, n11, c11, N, rfl, hp11, hN, hb13⟩
      have HSM := Lib.hid (lsame_eq (HY3.out.next hb13).rd hp11.rd (show Y2 = N from hY2.out.1.ext h0 hN.out.1 ((hY2.out.2.trans fun k => ((hY1.out.2 k).add (Pm.cz.refl _)).trans (div_back hd.out.2.2.1.2 hd.out.2.2.2.1.2 hd.out.2.2.2.2.2.1 k)).trans hN.out.2.symm)))
      have HB13 := Lib.hid (HB12.out.trans (hb13.mono HB12.out.size))
      clear hb13 hp11 HY3
      go_wp2_with fail
      refine HSM.out.mono ?_
      rintro _ _ ⟨rfl, j3, rfl⟩
      have HB14 := Lib.hid (below_drewN HB13.out j3)
      clear HSM
      generalize w13.drewN j3 = W14 at HB14 ⊢
      go_wp2_with fail
      refine (rNorm_any p h0 hp (HR'.out.next HB14.out) (by omega)).mono ?_
      rintro _ w15 ⟨A12, n12, c12, N', rfl, hp12, hN', hb15⟩
      have hNM : N' = M' := hN'.out.1.ext h0 hd.out.2.2.2.1.1 (hN'.out.2.trans hd.out.2.2.2.1.2.symm)
      have hlt : (n8 : Int) < n12 := by
        have h1 : R.length ≤ M'.length - 1 := hd.out.2.1.short h0 hd.out.2.2.2.2.2.1.2
        have h2 := hp12.len
        rw [hNM] at h2
        have h3 := hd.out.2.2.2.2.1
        have h4 := HLR.out
        omega
      have HB15 := Lib.hid (HB14.out.trans (hb15.mono HB14.out.size))
      clear hb15 hp12
      go_wp2_with fail
      refine (awake_any _ (hT.below HB15.out)).mono ?_
      rintro _ w16 ⟨rfl, hb16⟩
      have HB16 := Lib.hid (HB15.out.trans (hb16.mono HB15.out.size))
      go_wp2
      go_ret
      exact ⟨rfl, HB16.out⟩
theorem walk_ModpolyMakes {A A' : Option Addr} {n n' c c' : Nat} {L L' : List Nat} {w : World} (h : RdU w w.heap.size A n c L) (_ : A = none → n = 0 ∧ c = 0) (hn : n ≤ 1048576) (h' : RdU w w.heap.size A' n' c' L') (_ : A' = none → n' = 0 ∧ c' = 0) (hn' : n' ≤ 1048576) (p : Nat) (hp : p < 4294967296) (hT : Tabs w) :
    Calls Tryd.prog 7 #[.slice A n c, .slice A' n' c', .int .u32 p] w (RetT w) := by
  by_cases hpr : Nt.Pr p
  · exact makes_ok p hp hpr h h' hn hn' hT
  · exact makes_none p hp hpr hT
end Go.Proofs.YtmgacikdgbedfaaDoor
