/- Tables of integers in memory; a row of Sylvester's table. -/
import Derived.Test.YtipbpdiahemmpaaGreatQo
import Derived.Test.YtipbpdiahemmpaaGreatQp
namespace Go.Proofs.YtipbpdiahemmpaaGreat
open Go.RowKit Go.IntWalk
attribute [local go_sem ↓] Go.wp_at_zero Go.wp_at_succ

/-- All blocks of words stay. -/
def KeepT (w w' : World) : Prop := ∀ (i : Nat) (c : Array Value) (f : Nat × Nat), w.heap[i]? = some (.cells c 35 f) → w'.heap[i]? = some (.cells c 35 f)
section
variable {w w' : World} {b B g : Nat} {A : Option Addr} {n c : Nat}
theorem KeepT.trans {w'' : World} (h : KeepT w w') (h' : KeepT w' w'') : KeepT w w'' := fun i c f e => h' i c f (h i c f e)
theorem KeepT.below (h : Below w.heap.size w w') : KeepT w w' := fun i _ _ e => (h.block i (Array.getElem?_eq_some_iff.1 e).1).trans e
theorem KeepT.set {p : Addr} {cs : Array Value} {t : TypeId} {f : Nat × Nat} (h : w.heap[p.block]? = some (.cells cs t f)) (ht : t ≠ 35) (v : Value) : KeepT w (w.setCell p v) := fun i c f' e => by
  have hne : i ≠ p.block := by
    rintro rfl
    rw [h] at e
    injection e with e
    injection e with _ e _
    exact ht e
  exact (Below.heap_setCell w p v i hne).trans e
theorem KeepT.grown {e : TypeId} {k : Nat} {v : Value} {xs : List Value} (h : w.ownsRow b e k v n xs) (he : e ≠ 35) (hg : w.grownBy w' v.ownBlock) : KeepT w w' := fun i c f hi => by
  have hne : some i ≠ v.ownBlock := by
    intro h0
    rcases h.2 with ⟨h1, _⟩ | ⟨g, cap, cur, h1, _, h3, _⟩
    · rw [h1] at h0; cases h0
    · rw [h1] at h0
      injection h0 with h0
      subst h0
      rw [h3] at hi
      injection hi with hi
      injection hi with _ hi _
      exact he hi
  exact (hg.block i (Array.getElem?_eq_some_iff.1 hi).1 hne).trans hi
theorem OwU.keep {L : List Nat} (h : OwU w b A n c L) (hk : KeepT w w') : OwU w' b A n c L := by
  refine ⟨⟨h.own.1, ?_⟩, h.wd⟩
  rcases h.own.2 with h0 | ⟨g, cap, cur, h1, h2, h3, h4⟩
  · exact .inl h0
  · exact .inr ⟨g, cap, cur, h1, h2, hk _ _ _ h3, h4⟩
theorem OwZ.keep {s : Bool} {z : Int} (h : OwZ w b s A n c z) (hk : KeepT w w') : OwZ w' b s A n c z := ⟨h.own.keep hk, h.sgn⟩
theorem EntF.keep {E : List Ent} {f : Nat → Int} (h : EntF w b E f) (hk : KeepT w w') : EntF w' b E f := fun i e he => (h i e he).keep hk
theorem row_far {e : TypeId} {k : Nat} {v : Value} {xs : List Value} (h : w.ownsRow b e k v n xs) {p : Addr} (hp : p.block < b) (u : Value) : (w.setCell p u).ownsRow b e k v n xs := by
  refine ⟨h.1, ?_⟩
  rcases h.2 with h0 | ⟨g, cap, cur, h1, h2, h3, h4⟩
  · exact .inl h0
  · exact .inr ⟨g, cap, cur, h1, h2, (Below.heap_setCell w p u g (by omega)).trans h3, h4⟩
theorem ZB.grown {E : List Ent} (h : ZB w g E) {e : TypeId} {k : Nat} {v : Value} {xs : List Value} (hr : w.ownsRow b e k v n xs) (he : e ≠ 28) (hg : w.grownBy w' v.ownBlock) : ZB w' g E := by
  have hne : some g ≠ v.ownBlock := by
    intro h0
    rcases hr.2 with ⟨h1, _⟩ | ⟨g', cap, cur, h1, _, h3, _⟩
    · rw [h1] at h0; cases h0
    · rw [h1] at h0
      injection h0 with h0
      subst h0
      unfold ZB at h
      rw [h3] at h
      injection h with h
      injection h with _ h _
      exact he h
  exact (hg.block g h.lt hne).trans h
theorem grown_other {e : TypeId} {k gt : Nat} {v : Value} {xs : List Value} {cs : Array Value} {t : TypeId} {fr : Nat × Nat} (hr : w.ownsRow b e k v n xs) (hg : w.grownBy w' v.ownBlock) (hc : w.heap[gt]? = some (.cells cs t fr)) (ht : t ≠ e) : w'.heap[gt]? = some (.cells cs t fr) := by
  have hne : some gt ≠ v.ownBlock := by
    intro h0
    rcases hr.2 with ⟨h1, _⟩ | ⟨g', cap, cur, h1, _, h3, _⟩
    · rw [h1] at h0; cases h0
    · rw [h1] at h0
      injection h0 with h0
      subst h0
      rw [h3] at hc
      injection hc with hc
      injection hc with _ hc _
      exact ht hc.symm
  exact (hg.block gt (Array.getElem?_eq_some_iff.1 hc).1 hne).trans hc
theorem ZB.far {E : List Ent} (h : ZB w g E) {p : Addr} (hp : g ≠ p.block) (u : Value) : ZB (w.setCell p u) g E := (Below.heap_setCell w p u g hp).trans h
/-- What lies in a list of the call's own. -/
theorem ow_at {L : List Int} (h : OwZs w b A n c L) {j : Nat} (hj : j < n) :
    ∃ (g : Nat) (e : Ent), A = some ⟨g, 0, none⟩ ∧ g < w.heap.size ∧ w.cell? ⟨g, j * 2, none⟩ = some (.bool e.1) ∧ w.cell? ⟨g, j * 2 + 1, none⟩ = some (.slice e.2.1 e.2.2.1 e.2.2.2) ∧ OwZ w b e.1 e.2.1 e.2.2.1 e.2.2.2 (Pz.co L j) := by
  have hl := h.len
  rcases h.form with ⟨_, h0, _⟩ | ⟨g, rfl, h1, h2, h3, h4⟩
  · omega
  · obtain ⟨E, hr, hE, hel⟩ := h
    have hjE : j < E.length := by omega
    have he := List.getElem?_eq_getElem hjE
    obtain ⟨c0, c1⟩ := zcs_at E j _ he
    exact ⟨g, _, rfl, h2, by rw [hr.cellAt (j * 2) (by omega)]; exact c0, by rw [hr.cellAt (j * 2 + 1) (by omega)]; exact c1, hel.2 j _ _ he (Pz.get_co (by omega))⟩
/-- A table of k rows of N integers each: entries at or beyond block b, rows at or beyond block B. -/
structure MB (w : World) (b B : Nat) (A : Option Addr) (k c N : Nat) (G : List Nat) (EE : Nat → List Ent) (F : Nat → Nat → Int) : Prop where
  own : w.ownsRow B 22 1 (.slice A k c) k (G.map fun g => Value.slice (some ⟨g, 0, none⟩) N N)
  len : G.length = k
  nod : G.Nodup
  row : ∀ (i g : Nat), G[i]? = some g → B ≤ g ∧ ZB w g (EE i) ∧ (EE i).length = N ∧ EntF w b (EE i) (F i)
theorem MB.nil (w : World) (b B N : Nat) (EE : Nat → List Ent) (F : Nat → Nat → Int) : MB w b B none 0 0 N [] EE F :=
  ⟨World.ownsRow_nil _ _ _ _, rfl, List.nodup_nil, fun i g h => by simp at h⟩
theorem MB.next {k N : Nat} {G : List Nat} {EE : Nat → List Ent} {F : Nat → Nat → Int} (h : MB w b B A k c N G EE F) (hb : Below w.heap.size w w') : MB w' b B A k c N G EE F :=
  ⟨row_next h.own hb, h.len, h.nod, fun i g hg => by
    obtain ⟨h1, h2, h3, h4⟩ := h.row i g hg
    exact ⟨h1, h2.next hb, h3, h4.next hb⟩⟩
/-- One row more. -/
theorem MB.snoc {k N g gt : Nat} {G : List Nat} {EE : Nat → List Ent} {F : Nat → Nat → Int} {E : List Ent} {f : Nat → Int} {v : Value} {w1 : World} {t : TypeId} {cs : Array Value} {fr : Nat × Nat} (h : MB w b B A k c N G EE F) (hz : ZB w g E) (hB : B ≤ g) (hE : E.length = N) (hf : EntF w b E f) (hnew : ∀ x ∈ G, x < g)
    (hown : w1.ownsRow B 22 1 v (k + 1) ((G.map fun g => Value.slice (some ⟨g, 0, none⟩) N N) ++ [.slice (some ⟨g, 0, none⟩) N N])) (hg : w.grownBy w1 (Value.slice A k c).ownBlock) (hgt : gt < B) (hc : w.heap[gt]? = some (.cells cs t fr)) (ht : t ≠ 35) (ht2 : t ≠ 22) :
    ∃ (A' : Option Addr) (c' : Nat), v = .slice A' (k + 1) c' ∧ MB (w1.setCell ⟨gt, 0, none⟩ v) b B A' (k + 1) c' N (G ++ [g]) (fun i => if i = k then E else EE i) (fun i => if i = k then f else F i) := by
  obtain ⟨A', c', rfl⟩ := row_sl hown
  have hne : some gt ≠ (Value.slice A k c).ownBlock := by
    intro h0
    rcases h.own.2 with ⟨h1, _⟩ | ⟨g', cap, cur, h1, _, h3, _⟩
    · rw [h1] at h0; cases h0
    · rw [h1] at h0
      injection h0 with h0
      subst h0
      rw [h3] at hc
      injection hc with hc
      injection hc with _ hc _
      exact ht2 hc.symm
  have hc1 : w1.heap[gt]? = some (.cells cs t fr) := (hg.block gt (Array.getElem?_eq_some_iff.1 hc).1 hne).trans hc
  have hk : KeepT w (w1.setCell ⟨gt, 0, none⟩ (.slice A' (k + 1) c')) := (KeepT.grown h.own (by decide) hg).trans (KeepT.set (p := ⟨gt, 0, none⟩) hc1 ht _)
  refine ⟨A', c', rfl, by rw [List.map_append]; exact row_far hown (by simpa using hgt) _, by rw [List.length_append, h.len]; rfl, ?_, fun i x hx => ?_⟩
  · rw [List.nodup_append]
    refine ⟨h.nod, by simp, fun x hx y hy => ?_⟩
    simp at hy
    subst hy
    have := hnew x hx
    omega
  · rcases Nat.lt_or_ge i G.length with hi | hi
    · rw [List.getElem?_append_left hi] at hx
      obtain ⟨h1, h2, h3, h4⟩ := h.row i x hx
      have hik : i ≠ k := by have := h.len; omega
      simp only [if_neg hik]
      exact ⟨h1, (h2.grown h.own (by decide) hg).far (p := ⟨gt, 0, none⟩) (by simp; omega) _, h3, h4.keep hk⟩
    · rw [List.getElem?_append_right hi] at hx
      have hi0 : i = k := by
        have := h.len
        rcases Nat.eq_zero_or_pos (i - G.length) with e | e
        · omega
        · rw [List.getElem?_eq_none (by simp; omega)] at hx; cases hx
      subst hi0
      rw [h.len, Nat.sub_self] at hx
      simp at hx
      subst hx
      simp only [if_true]
      exact ⟨hB, (hz.grown h.own (by decide) hg).far (p := ⟨gt, 0, none⟩) (by simp; omega) _, hE, hf.keep hk⟩
end
theorem infoR : (Tryz.prog.info? 22).map (fun i => (i.zero, i.size, i.bytes)) = some (some (.slice none 0 0), 1, 24) := by kernel_rfl
theorem cell_new1 (w : World) (x : Value) (t : TypeId) : ∀ (j : Nat) (u : Value), [x][j]? = some u → (w.alloc (.cells #[x] t)).cell? ((⟨w.heap.size, 0, none⟩ : Addr).add j) = some u := by
  intro j u hj
  match j, hj with
  | 0, hj => simp at hj; subst hj; simp [Addr.add]
  | j + 1, hj => simp at hj
end Go.Proofs.YtipbpdiahemmpaaGreat

/- Sylvester's table: a row; all rows. -/
namespace Go.Proofs.YtipbpdiahemmpaaGreat
open Go.RowKit Go.IntWalk
attribute [local go_sem ↓] Go.wp_at_zero Go.wp_at_succ

/-- A row of the table: the coefficients from the greatest power's on, so far to the right. -/
def syl (P : List Int) (np kk : Nat) (t : Nat) : Int := if kk ≤ t ∧ t < kk + np then Pz.co P (kk + np - 1 - t) else 0
/-- The table gets one row more. -/
def RetSy (b gt k N : Nat) (G : List Nat) (EE : Nat → List Ent) (F : Nat → Nat → Int) (f : Nat → Int) (w : World) (e : Ending) (w' : World) : Prop :=
  ∃ (A : Option Addr) (c g : Nat) (E : List Ent), e = .returned (.tuple #[]) ∧ w'.heap[gt]? = some (.cells #[.slice A (k + 1) c] 72 (0, 0)) ∧ MB w' b (gt + 1) A (k + 1) c N (G ++ [g]) (fun i => if i = k then E else EE i) (fun i => if i = k then f else F i) ∧ Below gt w w' ∧ KeepT w w'

set_option maxRecDepth 100000 in
set_option maxHeartbeats 4000000 in
theorem syl1_any {b gm gn gt m n N k c kk np cp : Nat} {A Ap : Option Addr} {P : List Int} {G : List Nat} {EE : Nat → List Ent} {F : Nat → Nat → Int} {w : World} (hP : OwZs w b Ap np cp P) (hM : MB w b (gt + 1) A k c N G EE F) (hm : w.cell? ⟨gm, 0, none⟩ = some (.int .i64 (m : Int))) (hn : w.cell? ⟨gn, 0, none⟩ = some (.int .i64 (n : Int))) (ht : w.heap[gt]? = some (.cells #[.slice A k c] 72 (0, 0))) (hN : m + n = N) (hkk : kk + np ≤ N) (hNb : N ≤ 4398046511103) (hkb : k ≤ 4398046511103) :
    Calls Tryz.prog 249 #[.slice Ap np cp, .int .i64 kk, .pointer (some ⟨gm, 0, none⟩), .pointer (some ⟨gn, 0, none⟩), .pointer (some ⟨gt, 0, none⟩)] w (RetSy b gt k N G EE F (syl P np kk) w) := by
  obtain ⟨i0, hi, hz0, hz1, hz2⟩ := info_parts infoR
  have hmn : (m : Int) + (n : Int) = (N : Int) := by omega
  have hmk := make_il N (by omega)
  have hZ0 := ZB.made w N
  have hE0 := EntF.zeros (w.alloc (.cells (zcs (List.replicate N (false, none, 0, 0))).toArray 28)) b N
  have hB0 := (Below.refl w.heap.size w).alloc (Nat.le_refl _) (.cells (zcs (List.replicate N (false, none, 0, 0))).toArray 28)
  have HM := Lib.hid hM
  have HT := Lib.hid ht
  have HGT := Lib.hid (Array.getElem?_eq_some_iff.1 ht).1
  have HP := Lib.hid hP
  have HMN := Lib.hid (And.intro hm hn)
  have HG := Lib.hid (show ∀ x ∈ G, x < w.heap.size from fun x hx => by
    obtain ⟨i, hi⟩ := List.getElem?_of_mem hx
    exact (hM.row i x hi).2.1.lt)
  go_enter Tryz.func249, Tryz.ntmps249
  clear hM ht hP
  go_wp2_with fail
  obtain ⟨g, hg⟩ : ∃ g, g = w.heap.size := ⟨_, rfl⟩
  generalize w.alloc (.cells (zcs (List.replicate N (false, none, 0, 0))).toArray 28) = W1 at *
  rw [← hg] at hZ0 ⊢
  have HGE := Lib.hid hg
  clear hmk hg hm hn
  go_loopw [16] (fun iv wr => ∃ (i : Nat) (E : List Ent), iv = .int .i64 i ∧ i ≤ np ∧ ZB wr g E ∧ Hid (E.length = N) ∧ EntF wr b E (fun t => if kk + np ≤ t + i ∧ t < kk + np then Pz.co P (kk + np - 1 - t) else 0) ∧ Below w.heap.size w wr) (fun iv _ => np - (intOf iv).toNat)
  case atStart => exact ⟨0, _, rfl, Nat.zero_le _, hZ0, Lib.hid (by simp), hE0.congr fun t => by rw [if_neg (by omega)], hB0⟩
  case round =>
    clear hZ0 hE0 hB0
    obtain ⟨i, E, rfl, hil, hZ, hEl, hE, hB⟩ := hrel
    by_cases hin : i = np
    · have hni := hin.symm
      subst hni
      clear hin
      have hc0 : wr.cell? ⟨gt, 0, none⟩ = some (.slice A k c) := by
        rw [cell_of_row wr gt 0 _ _ _ ((hB.block gt HGT.out).trans HT.out)]
        rfl
      have HTR := Lib.hid ((hB.block gt HGT.out).trans HT.out)
      have HMR := Lib.hid (HM.out.next hB)
      have HF := Lib.hid (hE.congr (g := syl P np kk) fun t => by
        unfold syl
        by_cases h1 : kk ≤ t ∧ t < kk + np
        · rw [if_pos h1, if_pos (by omega)]
        · rw [if_neg h1, if_neg (by omega)])
      have HZ := Lib.hid hZ
      have HB := Lib.hid hB
      have HR := Lib.hid (show (wr.alloc (.cells #[.slice (some ⟨g, 0, none⟩) N N] 22)).ownsRow (gt + 1) 22 1 (.slice A k c) k (G.map fun g => Value.slice (some ⟨g, 0, none⟩) N N) from HMR.out.own.alloc _)
      have hsz : gt + 1 ≤ (wr.alloc (.cells #[.slice (some ⟨g, 0, none⟩) N N] 22)).heap.size := by have := HGT.out; have := HB.out.size; simp; omega
      have hba : Below wr.heap.size wr (wr.alloc (.cells #[.slice (some ⟨g, 0, none⟩) N N] 22)) := (Below.refl _ _).alloc (Nat.le_refl _) _
      have HSN := Lib.hid (show ∀ (v : Value) (w1 : World), w1.ownsRow (gt + 1) 22 1 v (k + 1) ((G.map fun g => Value.slice (some ⟨g, 0, none⟩) N N) ++ [.slice (some ⟨g, 0, none⟩) N N]) → (wr.alloc (.cells #[.slice (some ⟨g, 0, none⟩) N N] 22)).grownBy w1 (Value.slice A k c).ownBlock → _ from fun v w1 ho hg => (HMR.out.next hba).snoc (gt := gt) (HZ.out.next hba) (by rw [HGE.out]; exact HGT.out) hEl.out (HF.out.next hba) (by rw [HGE.out]; exact HG.out) ho hg (Nat.lt_succ_self _) ((hba.block gt (Array.getElem?_eq_some_iff.1 HTR.out).1).trans HTR.out) (by decide) (by decide))
      have HBA := Lib.hid hba
      have HTA := Lib.hid ((hba.block gt (Array.getElem?_eq_some_iff.1 HTR.out).1).trans HTR.out)
      clear hE hZ hB hba
      go_wp2_with (at_builtin; refine wpList_append_own _ rfl _ _ 72 rfl (gt + 1) 22 i0 (.slice none 0 0) 1 24 Tryz.underlying72 hi hz0 hz1 hz2 rfl (by decide) _ _ _ rfl HR.out ⟨wr.heap.size, 0, none⟩ 1 1 [.slice (some ⟨g, 0, none⟩) N N] rfl rfl (cell_new1 _ _ _) (by simp [Value.oneCell']) (by unfold maxLen; omega) (by omega) hsz ?_; intro v' w1 hown' hgrow _; have hw1 := grown_other HR.out hgrow HTA.out (by decide); have k0 : w1.cell? ⟨gt, 0, none⟩ = some (.slice A k c) := (cell_of_row w1 gt 0 _ _ _ hw1).trans rfl; have k1 := frozen_of_row w1 gt 0 _ _ hw1; obtain ⟨A5, c5, rfl, hM5⟩ := HSN.out v' w1 hown' hgrow)
      have hkt : KeepT w (w1.setCell ⟨gt, 0, none⟩ (.slice A5 (k + 1) c5)) := ((KeepT.below HB.out).trans (KeepT.below HBA.out)).trans ((KeepT.grown HR.out (by decide) hgrow).trans (KeepT.set (p := ⟨gt, 0, none⟩) hw1 (by decide) _))
      have hbb : Below gt w (w1.setCell ⟨gt, 0, none⟩ (.slice A5 (k + 1) c5)) := (((HB.out.mono (Nat.le_of_lt HGT.out)).trans (HBA.out.mono (Nat.le_trans (Nat.le_of_lt HGT.out) HB.out.size))).grown hgrow (Nat.le_of_succ_le hsz) (fun j hj => Nat.le_of_succ_le (own_block HR.out j hj))).setCell (p := ⟨gt, 0, none⟩) (Nat.le_refl _) _
      have hgt5 : (w1.setCell ⟨gt, 0, none⟩ (.slice A5 (k + 1) c5)).heap[gt]? = some (.cells #[.slice A5 (k + 1) c5] 72 (0, 0)) := by
        simp [World.setCell, Array.getElem?_modify, hw1]
      have HFIN := Lib.hid (And.intro hgt5 (And.intro hM5 (And.intro hbb hkt)))
      clear hgt5 hM5 hbb hkt hown' hgrow hw1
      go_wp2
      exact bodyPost_ret (by simp [results, Tryz.results249, go_sem]) rfl ⟨A5, c5, g, E, rfl, HFIN.out.1, HFIN.out.2.1, HFIN.out.2.2.1, HFIN.out.2.2.2⟩
    · have hlt : i < np := by omega
      clear hin
      have hilt : (i : Int) < (np : Int) := by omega
      obtain ⟨gp, e0, hAp, hgp, hx0, hx1, hoz⟩ := ow_at HP.out hlt
      subst hAp
      obtain ⟨d, hd⟩ : ∃ d, d = kk + np - 1 - i := ⟨_, rfl⟩
      have hdi : (kk : Int) + (np : Int) - 1 - (i : Int) = (d : Int) := by omega
      have hdn : (d : Int) < (N : Int) := by omega
      have hy0 := (hB.cell (p := ⟨gp, i * 2, none⟩) hgp).trans hx0
      have hy1 := (hB.cell (p := ⟨gp, i * 2 + 1, none⟩) hgp).trans hx1
      obtain ⟨s4, A4, n4, c4⟩ := e0
      obtain ⟨W4, HW4⟩ : ∃ W, W = wr.alloc (.cells #[.bool s4, .slice A4 n4 c4] 28) := ⟨_, rfl⟩
      have hZ4 : ZC W4 wr.heap.size s4 A4 n4 c4 := by rw [HW4]; exact ZC.new wr s4 A4 n4 c4
      have hb4 : Below wr.heap.size wr W4 := by rw [HW4]; exact (Below.refl _ _).alloc (Nat.le_refl _) _
      have hZB4 := hZ.next hb4
      have hE4 := hE.next hb4
      have hO4 := (hoz.next hB).next hb4
      have hB4 := hB.trans (hb4.mono hB.size)
      obtain ⟨e, he⟩ : ∃ e, E[d]? = some e := ⟨E[d]'(by rw [hEl.out]; omega), List.getElem?_eq_getElem _⟩
      obtain ⟨k0, k1⟩ := hZB4.cells he
      have f0 := hZB4.frozen (d * 2)
      have f1 := hZB4.frozen (d * 2 + 1)
      have c0 := hZ4.c0
      have c1 := hZ4.c1
      have HZ5 := Lib.hid (hZB4.store d (s4, A4, n4, c4))
      have HE5 := Lib.hid (hE4.store (j := d) (e := (s4, A4, n4, c4)) (z := Pz.co P i) hZB4 hO4)
      have hB5 := Lib.hid ((hB4.setCell (p := ⟨g, d * 2, none⟩) (by show w.heap.size ≤ g; have := HGE.out; omega) (.bool s4)).setCell (p := ⟨g, d * 2 + 1, none⟩) (by show w.heap.size ≤ g; have := HGE.out; omega) (.slice A4 n4 c4))
      rw [HW4] at k0 k1 f0 f1 c0 c1
      have HW4 := Lib.hid HW4
      have HD := Lib.hid (And.intro hd hlt)
      clear hZB4 hE4 hO4 hB4 hb4 hoz hx0 hx1 hB hE hZ he hZ4 hd hlt
      go_wp2_with fail
      rw [← HW4.out]
      clear HW4
      go_roundw
      case rel => exact ⟨i + 1, E.set d (s4, A4, n4, c4), by go_num, by omega, HZ5.out, Lib.hid (by rw [List.length_set]; exact hEl.out), HE5.out.congr fun t => (by
        have h1 := HD.out.1
        have h2 := HD.out.2
        by_cases e1 : t = d
        · subst e1; rw [if_pos rfl, if_pos (by omega), h1]; congr 1; omega
        · rw [if_neg e1]
          by_cases e2 : kk + np ≤ t + i ∧ t < kk + np
          · rw [if_pos e2, if_pos (by omega)]
          · rw [if_neg e2, if_neg (by omega)]), hB5.out⟩
      case measure => simp [intOf]; have := HD.out.2; omega
end Go.Proofs.YtipbpdiahemmpaaGreat

/- Sylvester's table whole. -/
namespace Go.Proofs.YtipbpdiahemmpaaGreat
open Go.RowKit Go.IntWalk
attribute [local go_sem ↓] Go.wp_at_zero Go.wp_at_succ

/-- Sylvester's table. -/
def sylF (P Q : List Int) (m n i : Nat) : Nat → Int := if i < n then syl P (m + 1) i else syl Q (n + 1) (i - n)
/-- A cell of its own. -/
def C1 (w : World) (g : Nat) (v : Value) (t : TypeId) : Prop := w.heap[g]? = some (.cells #[v] t (0, 0))
theorem C1.cell {w : World} {g : Nat} {v : Value} {t : TypeId} (h : C1 w g v t) : w.cell? ⟨g, 0, none⟩ = some v := (cell_of_row w g 0 _ _ _ h).trans rfl
theorem C1.fz {w : World} {g : Nat} {v : Value} {t : TypeId} (h : C1 w g v t) : w.frozen? ⟨g, 0, none⟩ = false := frozen_of_row w g 0 _ _ h
theorem C1.below {w w' : World} {g B : Nat} {v : Value} {t : TypeId} (h : C1 w g v t) (hb : Below B w w') (hg : g < B) : C1 w' g v t := (hb.block g hg).trans h
theorem C1.new (w : World) (v : Value) (t : TypeId) : C1 (w.alloc (.cells #[v] t)) w.heap.size v t := heap_alloc_new w _
theorem C1.alloc {w : World} {g : Nat} {v : Value} {t : TypeId} (h : C1 w g v t) (o : Obj) : C1 (w.alloc o) g v t := (Below.heap_alloc w o g (Array.getElem?_eq_some_iff.1 h).1).trans h

set_option maxRecDepth 100000 in
set_option maxHeartbeats 4000000 in
theorem sylv_any {b m n N np nq cp cq : Nat} {A A' : Option Addr} {P Q : List Int} {w : World} (hP : OwZs w b A np cp P) (hQ : OwZs w b A' nq cq Q) (hm : np = m + 1) (hn : nq = n + 1) (hN : m + n = N) (hNb : N ≤ 1048576) :
    Calls Tryz.prog 202 #[.slice A np cp, .slice A' nq cq] w fun e w' => ∃ (A : Option Addr) (c B : Nat) (G : List Nat) (EE : Nat → List Ent) (F : Nat → Nat → Int), e = .returned (.slice A N c) ∧ MB w' b B A N c N G EE F ∧ w.heap.size ≤ B ∧ B ≤ w'.heap.size ∧ Hid (∀ i, i < N → F i = sylF P Q m n i) ∧ Below w.heap.size w w' := by
  have hmi : (np : Int) - 1 = (m : Int) := by omega
  have hni : (nq : Int) - 1 = (n : Int) := by omega
  have HEQ := Lib.hid (And.intro hm (And.intro hn hN))
  have hmb : m ≤ 1048576 := by omega
  have hnb : n ≤ 1048576 := by omega
  have hEN := enters_of Tryz.func249 (by kernel_rfl) rfl
  obtain ⟨W3, HW3⟩ : ∃ W, W = ((w.alloc (.cells #[.int .i64 (m : Int)] 3)).alloc (.cells #[.int .i64 (n : Int)] 3)).alloc (.cells #[.slice none 0 0] 72) := ⟨_, rfl⟩
  have h1 : C1 W3 w.heap.size (.int .i64 (m : Int)) 3 := by rw [HW3]; exact ((C1.new w _ _).alloc _).alloc _
  have h2 : C1 W3 (w.heap.size + 1) (.int .i64 (n : Int)) 3 := by rw [HW3]; simpa using (C1.new (w.alloc (.cells #[.int .i64 (m : Int)] 3)) (.int .i64 (n : Int)) 3).alloc (.cells #[.slice none 0 0] 72)
  have h3 : C1 W3 (w.heap.size + 1 + 1) (.slice none 0 0) 72 := by rw [HW3]; simpa using C1.new ((w.alloc (.cells #[.int .i64 (m : Int)] 3)).alloc (.cells #[.int .i64 (n : Int)] 3)) (.slice none 0 0) 72
  have hb3 : Below w.heap.size w W3 := by rw [HW3]; exact ((((Below.refl w.heap.size w).alloc (Nat.le_refl _) _).alloc (by simp) _).alloc (by simp; omega) _)
  have HP := Lib.hid (show ∀ W : World, Below w.heap.size w W → OwZs W b A np cp P ∧ OwZs W b A' nq cq Q from fun W hb => ⟨hP.next hb, hQ.next hb⟩)
  have HW3 := Lib.hid HW3
  clear hm hn hN hP hQ
  go_enter Tryz.func202, Tryz.ntmps202
  go_wp2_with fail
  rw [← HW3.out]
  clear HW3
  clear HW3
  obtain ⟨gm, hgm⟩ : ∃ g, g = w.heap.size := ⟨_, rfl⟩
  obtain ⟨gn, hgn⟩ : ∃ g, g = w.heap.size + 1 := ⟨_, rfl⟩
  obtain ⟨gt, hgt⟩ : ∃ g, g = w.heap.size + 1 + 1 := ⟨_, rfl⟩
  rw [← hgt, ← hgn, ← hgm]
  rw [← hgt] at h3
  rw [← hgn] at h2
  rw [← hgm] at h1
  have HGG := Lib.hid (And.intro hgm (And.intro hgn hgt))
  have HBW := Lib.hid (show ∀ W : World, Below gt W3 W → Below w.heap.size w W from fun W hb => hb3.trans (hb.mono (by omega)))
  have HMN := Lib.hid (show ∀ W : World, Below gt W3 W → W.cell? ⟨gm, 0, none⟩ = some (.int .i64 (m : Int)) ∧ W.cell? ⟨gn, 0, none⟩ = some (.int .i64 (n : Int)) from fun W hb => ⟨(h1.below hb (by omega)).cell, (h2.below hb (by omega)).cell⟩)
  have HB3 := Lib.hid hb3
  have HT0 := Lib.hid h3
  clear h1 h2 h3 hgm hgn hgt hb3
  go_loopw [19] (fun iv wr => ∃ (i c0 : Nat) (A0 : Option Addr) (G : List Nat) (EE : Nat → List Ent) (F : Nat → Nat → Int), iv = .int .i64 i ∧ i ≤ n ∧ Hid (C1 wr gt (.slice A0 i c0) 72) ∧ MB wr b (gt + 1) A0 i c0 N G EE F ∧ Hid (∀ j, j < i → F j = syl P (m + 1) j) ∧ Below gt W3 wr) (fun iv _ => n - (intOf iv).toNat)
  case atStart => exact ⟨0, 0, none, [], fun _ => [], fun _ _ => 0, rfl, Nat.zero_le _, HT0, MB.nil _ _ _ _ _ _, Lib.hid fun j hj => absurd hj (Nat.not_lt_zero _), Below.refl _ _⟩
  case round =>
    clear HT0
    obtain ⟨i, c0, A0, G, EE, F, rfl, hil, hC, hM, hF, hB⟩ := hrel
    by_cases hin : i = n
    · have hni := hin.symm
      subst hni
      clear hin
      obtain ⟨k0, k1⟩ := HMN.out wr hB
      go_wp2_with fail
      have HC0 := hC
      have HM0 := Lib.hid hM
      have HF0 := hF
      have HB0 := Lib.hid hB
      clear hC hM hF hB k0 k1
      go_loopw [28] (fun iv wr => ∃ (j c0 : Nat) (A0 : Option Addr) (G : List Nat) (EE : Nat → List Ent) (F : Nat → Nat → Int), iv = .int .i64 j ∧ j ≤ m ∧ Hid (C1 wr gt (.slice A0 (n + j) c0) 72) ∧ MB wr b (gt + 1) A0 (n + j) c0 N G EE F ∧ Hid (∀ t, t < n + j → F t = sylF P Q m n t) ∧ Below gt W3 wr) (fun iv _ => m - (intOf iv).toNat)
      case atStart => exact ⟨0, c0, A0, G, EE, F, rfl, Nat.zero_le _, HC0, HM0.out, Lib.hid fun t ht => (by rw [HF0.out t ht]; unfold sylF; rw [if_pos (by omega)]), HB0.out⟩
      case round =>
        clear HC0 HM0 HF0 HB0
        obtain ⟨j, c2, A2, G2, E2, F2, rfl, hjl, hC, hM, hF, hB⟩ := hrel
        by_cases hjm : j = m
        · have hmj := hjm.symm
          subst hmj
          clear hjm
          have e : n + m = N := by have := HEQ.out; omega
          rw [e] at hC hM hF
          have HM := Lib.hid hM
          have HBE := Lib.hid (HBW.out _ hB)
          have hc0 := hC.out.cell
          have HGS := Lib.hid (show gt + 1 ≤ wr.heap.size from (Array.getElem?_eq_some_iff.1 hC.out).1)
          have HFF := hF
          clear hM hB hC hF e
          go_wp2
          go_ret
          exact ⟨A2, c2, gt + 1, G2, E2, F2, rfl, HM.out, by have := HGG.out; omega, HGS.out, HFF, HBE.out⟩
        · have hjlt : j < m := by omega
          have hjlti : (j : Int) < (m : Int) := by omega
          clear hjm
          obtain ⟨k0, k1⟩ := HMN.out wr hB
          have HM := Lib.hid hM
          have HB := Lib.hid hB
          have HPQ := HP.out wr (HBW.out wr hB)
          clear hM hB k0 k1
          go_wp2_with fail
          refine (syl1_any (kk := j) HPQ.2 HM.out (HMN.out wr HB.out).1 (HMN.out wr HB.out).2 hC.out HEQ.out.2.2 (by have := HEQ.out; omega) (by omega) (by omega)).mono ?_
          rintro _ W5 ⟨A5, c5, g5, E5, rfl, hC5, hM5, hB5, _⟩
          have HBE := Lib.hid (HB.out.trans hB5)
          have HM5 := Lib.hid hM5
          have HC5 := Lib.hid hC5
          clear hM5 hC5 hB5 HM HPQ
          go_wp2
          go_roundw
          case rel => exact ⟨j + 1, c5, A5, G2 ++ [g5], _, _, by go_num, by omega, HC5, HM5.out, Lib.hid (fun t ht => by
            show (if t = n + j then syl Q nq j else F2 t) = sylF P Q m n t
            by_cases e1 : t = n + j
            · rw [if_pos e1]
              unfold sylF
              rw [if_neg (by omega), e1, show n + j - n = j by omega, HEQ.out.2.1]
            · rw [if_neg e1]
              exact hF.out t (by omega)), HBE.out⟩
          case measure => simp [intOf]; omega
    · have hilt : i < n := by omega
      have hilti : (i : Int) < (n : Int) := by omega
      clear hin
      obtain ⟨k0, k1⟩ := HMN.out wr hB
      have HM := Lib.hid hM
      have HB := Lib.hid hB
      have HPQ := HP.out wr (HBW.out wr hB)
      clear hM hB k0 k1
      go_wp2_with fail
      refine (syl1_any (kk := i) HPQ.1 HM.out (HMN.out wr HB.out).1 (HMN.out wr HB.out).2 hC.out HEQ.out.2.2 (by have := HEQ.out; omega) (by omega) (by omega)).mono ?_
      rintro _ W5 ⟨A5, c5, g5, E5, rfl, hC5, hM5, hB5, _⟩
      have HBE := Lib.hid (HB.out.trans hB5)
      have HM5 := Lib.hid hM5
      have HC5 := Lib.hid hC5
      clear hM5 hC5 hB5 HM HPQ
      go_wp2
      go_roundw
      case rel => exact ⟨i + 1, c5, A5, G ++ [g5], _, _, by go_num, by omega, HC5, HM5.out, Lib.hid (fun t ht => by
        show (if t = i then syl P np i else F t) = syl P (m + 1) t
        by_cases e1 : t = i
        · rw [if_pos e1, e1, HEQ.out.1]
        · rw [if_neg e1]
          exact hF.out t (by omega)), HBE.out⟩
      case measure => simp [intOf]; omega
end Go.Proofs.YtipbpdiahemmpaaGreat

/- The determinant of a table of integers: a given run with no exchange of rows. -/
namespace Go.Proofs.YtipbpdiahemmpaaGreat
open Go.RowKit Go.IntWalk
attribute [local go_sem ↓] Go.wp_at_zero Go.wp_at_succ

section
variable {w w' : World} {b B : Nat} {A : Option Addr} {k c N : Nat} {G : List Nat} {EE : Nat → List Ent} {F : Nat → Nat → Int}
theorem MB.congr {F' : Nat → Nat → Int} (h : MB w b B A k c N G EE F) (e : ∀ i j, i < k → j < N → F i j = F' i j) : MB w b B A k c N G EE F' :=
  ⟨h.own, h.len, h.nod, fun i g hg => by
    obtain ⟨h1, h2, h3, h4⟩ := h.row i g hg
    refine ⟨h1, h2, h3, fun j x hx => ?_⟩
    have hi : i < k := by
      rw [← h.len]
      rcases Nat.lt_or_ge i G.length with h5 | h5
      · exact h5
      · rw [List.getElem?_eq_none h5] at hg; cases hg
    have hj : j < N := by
      rw [← h3]
      rcases Nat.lt_or_ge j (EE i).length with h5 | h5
      · exact h5
      · rw [List.getElem?_eq_none h5] at hx; cases hx
    rw [← e i j hi hj]
    exact h4 j x hx⟩
/-- The header of row i. -/
theorem MB.hdr (h : MB w b B A k c N G EE F) {i : Nat} (hi : i < k) : ∃ go gi, A = some ⟨go, 0, none⟩ ∧ G[i]? = some gi ∧ go < w.heap.size ∧ w.cell? ⟨go, i, none⟩ = some (.slice (some ⟨gi, 0, none⟩) N N) := by
  have hg : G[i]? = some (G[i]'(by rw [h.len]; exact hi)) := List.getElem?_eq_getElem _
  rcases h.own.2 with ⟨_, h2⟩ | ⟨go, cap, cur, h1, _, h3, _⟩
  · omega
  · injection h1 with h1 _ h1'
    subst h1
    refine ⟨go, _, rfl, hg, (Array.getElem?_eq_some_iff.1 h3).1, ?_⟩
    rw [h.own.cellAt i (by omega), List.getElem?_map, hg]
    rfl
/-- Entry (i, j). -/
theorem MB.ent (h : MB w b B A k c N G EE F) {i j gi : Nat} (hg : G[i]? = some gi) (hj : j < N) : ∃ e : Ent, (EE i)[j]? = some e ∧ w.cell? ⟨gi, j * 2, none⟩ = some (.bool e.1) ∧ w.cell? ⟨gi, j * 2 + 1, none⟩ = some (.slice e.2.1 e.2.2.1 e.2.2.2) ∧ OwZ w b e.1 e.2.1 e.2.2.1 e.2.2.2 (F i j) := by
  obtain ⟨_, h2, h3, h4⟩ := h.row i gi hg
  have he : (EE i)[j]? = some ((EE i)[j]'(by omega)) := List.getElem?_eq_getElem _
  obtain ⟨c0, c1⟩ := h2.cells he
  exact ⟨_, he, c0, c1, h4 j _ he⟩
/-- Entry (i, j) is put. -/
theorem MB.put (h : MB w b B A k c N G EE F) {i j gi : Nat} (hg : G[i]? = some gi) {e : Ent} {z : Int} (he : OwZ w b e.1 e.2.1 e.2.2.1 e.2.2.2 z) :
    MB ((w.setCell ⟨gi, j * 2, none⟩ (.bool e.1)).setCell ⟨gi, j * 2 + 1, none⟩ (.slice e.2.1 e.2.2.1 e.2.2.2)) b B A k c N G (fun i' => if i' = i then (EE i).set j e else EE i') (fun i' j' => if i' = i ∧ j' = j then z else F i' j') := by
  obtain ⟨h1, h2, h3, h4⟩ := h.row i gi hg
  have hb : ∀ x, x ≠ gi → ((w.setCell ⟨gi, j * 2, none⟩ (.bool e.1)).setCell ⟨gi, j * 2 + 1, none⟩ (.slice e.2.1 e.2.2.1 e.2.2.2)).heap[x]? = w.heap[x]? := fun x hx => (Below.heap_setCell _ (⟨gi, j * 2 + 1, none⟩ : Addr) _ x hx).trans (Below.heap_setCell _ (⟨gi, j * 2, none⟩ : Addr) _ x hx)
  refine ⟨⟨h.own.1, ?_⟩, h.len, h.nod, fun i' g' hg' => ?_⟩
  · rcases h.own.2 with h0 | ⟨go, cap, cur, e1, e2, e3, e4⟩
    · exact .inl h0
    · have hne : go ≠ gi := by
        rintro rfl
        unfold ZB at h2
        rw [e3] at h2
        simp at h2
      exact .inr ⟨go, cap, cur, e1, e2, (hb go hne).trans e3, e4⟩
  · by_cases hii : i' = i
    · subst hii
      have : g' = gi := by rw [hg] at hg'; injection hg' with hg'; exact hg'.symm
      subst this
      refine ⟨h1, by simpa using h2.store j e, by simpa using h3, ?_⟩
      have := h4.store (j := j) (e := e) (z := z) h2 he
      simp only [if_true]
      exact this.congr fun t => by simp
    · obtain ⟨k1, k2, k3, k4⟩ := h.row i' g' hg'
      have hne : g' ≠ gi := by
        intro he0
        have hn := List.pairwise_iff_getElem.1 h.nod
        obtain ⟨l1, e1⟩ := List.getElem?_eq_some_iff.1 hg
        obtain ⟨l2, e2⟩ := List.getElem?_eq_some_iff.1 hg'
        rcases Nat.lt_or_gt_of_ne hii with h5 | h5
        · exact hn i' i l2 l1 h5 (by rw [e1, e2]; exact he0)
        · exact hn i i' l1 l2 h5 (by rw [e1, e2]; exact he0.symm)
      simp only [if_neg hii]
      refine ⟨k1, (hb g' hne).trans k2, k3, ?_⟩
      have : ∀ (x : Nat) (y : Ent), (EE i')[x]? = some y → OwZ ((w.setCell ⟨gi, j * 2, none⟩ (.bool e.1)).setCell ⟨gi, j * 2 + 1, none⟩ (.slice e.2.1 e.2.2.1 e.2.2.2)) b y.1 y.2.1 y.2.2.1 y.2.2.2 (F i' x) := fun x y hy => ent_put (k4 x y hy) h2 j e
      intro x y hy
      simpa [hii] using this x y hy
end
end Go.Proofs.YtipbpdiahemmpaaGreat
