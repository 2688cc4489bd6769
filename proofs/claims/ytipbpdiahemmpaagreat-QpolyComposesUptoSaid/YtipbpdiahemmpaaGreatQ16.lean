/- Tables of integers in memory; a row of Sylvester's table. -/
import Derived.Test.YtipbpdiahemmpaaGreatQ15
import Derived.Test.YtipbpdiahemmpaaGreatQ09
namespace Go.Proofs.YtipbpdiahemmpaaGreat
open Go.RowKit Go.IntWalk
attribute [local go_sem ↓] Go.wp_at_zero Go.wp_at_succ

/-- All blocks of words stay. -/
def KeepT (w w' : World) : Prop := ∀ (i : Nat) (c : Array Value) (f : Nat × Nat), w.heap[i]? = some (.cells c 35 f) → w'.heap[i]? = some (.cells c 35 f)
section
variable {w w' : World} {b B g : Nat} {A : Option Addr} {n c : Nat}
theorem KeepT.trans {w'' : World} (h : KeepT w w') (h' : KeepT w' w'') : KeepT w w'' := fun i c f e => h' i c f (h i c f e)
theorem KeepT.below (h : Below w.heap.size w w') : KeepT w w' := fun i _ _ e => (h.block i (Array.getElem?_eq_some_iff.1 e).1).trans e
theorem KeepT.set {p : Addr} {cs : Array Value} {t : TypeId} {f : Nat × Nat} (h : w.heap[p.block]? = some (.cells cs t f)) (ht : t ≠ 35) (v : Value) : KeepT w (w.setCell p v) := fun i c f' e => by
  have hne : i ≠ p.block := by
    rintro rfl
    rw [h] at e
    injection e with e
    injection e with _ e _
    exact ht e
  exact (Below.heap_setCell w p v i hne).trans e
theorem KeepT.grown {e : TypeId} {k : Nat} {v : Value} {xs : List Value} (h : w.ownsRow b e k v n xs) (he : e ≠ 35) (hg : w.grownBy w' v.ownBlock) : KeepT w w' := fun i c f hi => by
  have hne : some i ≠ v.ownBlock := by
    intro h0
    rcases h.2 with ⟨h1, _⟩ | ⟨g, cap, cur, h1, _, h3, _⟩
    · rw [h1] at h0; cases h0
    · rw [h1] at h0
      injection h0 with h0
      subst h0
      rw [h3] at hi
      injection hi with hi
      injection hi with _ hi _
      exact he hi
  exact (hg.block i (Array.getElem?_eq_some_iff.1 hi).1 hne).trans hi
theorem OwU.keep {L : List Nat} (h : OwU w b A n c L) (hk : KeepT w w') : OwU w' b A n c L := by
  refine ⟨⟨h.own.1, ?_⟩, h.wd⟩
  rcases h.own.2 with h0 | ⟨g, cap, cur, h1, h2, h3, h4⟩
  · exact .inl h0
  · exact .inr ⟨g, cap, cur, h1, h2, hk _ _ _ h3, h4⟩
theorem OwZ.keep {s : Bool} {z : Int} (h : OwZ w b s A n c z) (hk : KeepT w w') : OwZ w' b s A n c z := ⟨h.own.keep hk, h.sgn⟩
theorem EntF.keep {E : List Ent} {f : Nat → Int} (h : EntF w b E f) (hk : KeepT w w') : EntF w' b E f := fun i e he => (h i e he).keep hk
theorem row_far {e : TypeId} {k : Nat} {v : Value} {xs : List Value} (h : w.ownsRow b e k v n xs) {p : Addr} (hp : p.block < b) (u : Value) : (w.setCell p u).ownsRow b e k v n xs := by
  refine ⟨h.1, ?_⟩
  rcases h.2 with h0 | ⟨g, cap, cur, h1, h2, h3, h4⟩
  · exact .inl h0
  · exact .inr ⟨g, cap, cur, h1, h2, (Below.heap_setCell w p u g (by omega)).trans h3, h4⟩
theorem ZB.grown {E : List Ent} (h : ZB w g E) {e : TypeId} {k : Nat} {v : Value} {xs : List Value} (hr : w.ownsRow b e k v n xs) (he : e ≠ 28) (hg : w.grownBy w' v.ownBlock) : ZB w' g E := by
  have hne : some g ≠ v.ownBlock := by
    intro h0
    rcases hr.2 with ⟨h1, _⟩ | ⟨g', cap, cur, h1, _, h3, _⟩
    · rw [h1] at h0; cases h0
    · rw [h1] at h0
      injection h0 with h0
      subst h0
      unfold ZB at h
      rw [h3] at h
      injection h with h
      injection h with _ h _
      exact he h
  exact (hg.block g h.lt hne).trans h
theorem grown_other {e : TypeId} {k gt : Nat} {v : Value} {xs : List Value} {cs : Array Value} {t : TypeId} {fr : Nat × Nat} (hr : w.ownsRow b e k v n xs) (hg : w.grownBy w' v.ownBlock) (hc : w.heap[gt]? = some (.cells cs t fr)) (ht : t ≠ e) : w'.heap[gt]? = some (.cells cs t fr) := by
  have hne : some gt ≠ v.ownBlock := by
    intro h0
    rcases hr.2 with ⟨h1, _⟩ | ⟨g', cap, cur, h1, _, h3, _⟩
    · rw [h1] at h0; cases h0
    · rw [h1] at h0
      injection h0 with h0
      subst h0
      rw [h3] at hc
      injection hc with hc
      injection hc with _ hc _
      exact ht hc.symm
  exact (hg.block gt (Array.getElem?_eq_some_iff.1 hc).1 hne).trans hc
theorem ZB.far {E : List Ent} (h : ZB w g E) {p : Addr} (hp : g ≠ p.block) (u : Value) : ZB (w.setCell p u) g E := (Below.heap_setCell w p u g hp).trans h
/-- What lies in a list of the call's own. -/
theorem ow_at {L : List Int} (h : OwZs w b A n c L) {j : Nat} (hj : j < n) :
    ∃ (g : Nat) (e : Ent), A = some ⟨g, 0, none⟩ ∧ g < w.heap.size ∧ w.cell? ⟨g, j * 2, none⟩ = some (.bool e.1) ∧ w.cell? ⟨g, j * 2 + 1, none⟩ = some (.slice e.2.1 e.2.2.1 e.2.2.2) ∧ OwZ w b e.1 e.2.1 e.2.2.1 e.2.2.2 (Pz.co L j) := by
  have hl := h.len
  rcases h.form with ⟨_, h0, _⟩ | ⟨g, rfl, h1, h2, h3, h4⟩
  · omega
  · obtain ⟨E, hr, hE, hel⟩ := h
    have hjE : j < E.length := by omega
    have he := List.getElem?_eq_getElem hjE
    obtain ⟨c0, c1⟩ := zcs_at E j _ he
    exact ⟨g, _, rfl, h2, by rw [hr.cellAt (j * 2) (by omega)]; exact c0, by rw [hr.cellAt (j * 2 + 1) (by omega)]; exact c1, hel.2 j _ _ he (Pz.get_co (by omega))⟩
/-- A table of k rows of N integers each: entries at or beyond block b, rows at or beyond block B. -/
structure MB (w : World) (b B : Nat) (A : Option Addr) (k c N : Nat) (G : List Nat) (EE : Nat → List Ent) (F : Nat → Nat → Int) : Prop where
  own : w.ownsRow B 22 1 (.slice A k c) k (G.map fun g => Value.slice (some ⟨g, 0, none⟩) N N)
  len : G.length = k
  nod : G.Nodup
  row : ∀ (i g : Nat), G[i]? = some g → B ≤ g ∧ ZB w g (EE i) ∧ (EE i).length = N ∧ EntF w b (EE i) (F i)
theorem MB.nil (w : World) (b B N : Nat) (EE : Nat → List Ent) (F : Nat → Nat → Int) : MB w b B none 0 0 N [] EE F :=
  ⟨World.ownsRow_nil _ _ _ _, rfl, List.nodup_nil, fun i g h => by simp at h⟩
theorem MB.next {k N : Nat} {G : List Nat} {EE : Nat → List Ent} {F : Nat → Nat → Int} (h : MB w b B A k c N G EE F) (hb : Below w.heap.size w w') : MB w' b B A k c N G EE F :=
  ⟨row_next h.own hb, h.len, h.nod, fun i g hg => by
    obtain ⟨h1, h2, h3, h4⟩ := h.row i g hg
    exact ⟨h1, h2.next hb, h3, h4.next hb⟩⟩
/-- One row more. -/
theorem MB.snoc {k N g gt : Nat} {G : List Nat} {EE : Nat → List Ent} {F : Nat → Nat → Int} {E : List Ent} {f : Nat → Int} {v : Value} {w1 : World} {t : TypeId} {cs : Array Value} {fr : Nat × Nat} (h : MB w b B A k c N G EE F) (hz : ZB w g E) (hB : B ≤ g) (hE : E.length = N) (hf : EntF w b E f) (hnew : ∀ x ∈ G, x < g)
    (hown : w1.ownsRow B 22 1 v (k + 1) ((G.map fun g => Value.slice (some ⟨g, 0, none⟩) N N) ++ [.slice (some ⟨g, 0, none⟩) N N])) (hg : w.grownBy w1 (Value.slice A k c).ownBlock) (hgt : gt < B) (hc : w.heap[gt]? = some (.cells cs t fr)) (ht : t ≠ 35) (ht2 : t ≠ 22) :
    ∃ (A' : Option Addr) (c' : Nat), v = .slice A' (k + 1) c' ∧ MB (w1.setCell ⟨gt, 0, none⟩ v) b B A' (k + 1) c' N (G ++ [g]) (fun i => if i = k then E else EE i) (fun i => if i = k then f else F i) := by
  obtain ⟨A', c', rfl⟩ := row_sl hown
  have hne : some gt ≠ (Value.slice A k c).ownBlock := by
    intro h0
    rcases h.own.2 with ⟨h1, _⟩ | ⟨g', cap, cur, h1, _, h3, _⟩
    · rw [h1] at h0; cases h0
    · rw [h1] at h0
      injection h0 with h0
      subst h0
      rw [h3] at hc
      injection hc with hc
      injection hc with _ hc _
      exact ht2 hc.symm
  have hc1 : w1.heap[gt]? = some (.cells cs t fr) := (hg.block gt (Array.getElem?_eq_some_iff.1 hc).1 hne).trans hc
  have hk : KeepT w (w1.setCell ⟨gt, 0, none⟩ (.slice A' (k + 1) c')) := (KeepT.grown h.own (by decide) hg).trans (KeepT.set (p := ⟨gt, 0, none⟩) hc1 ht _)
  refine ⟨A', c', rfl, by rw [List.map_append]; exact row_far hown (by simpa using hgt) _, by rw [List.length_append, h.len]; rfl, ?_, fun i x hx => ?_⟩
  · rw [List.nodup_append]
    refine ⟨h.nod, by simp, fun x hx y hy => ?_⟩
    simp at hy
    subst hy
    have := hnew x hx
    omega
  · rcases Nat.lt_or_ge i G.length with hi | hi
    · rw [List.getElem?_append_left hi] at hx
      obtain ⟨h1, h2, h3, h4⟩ := h.row i x hx
      have hik : i ≠ k := by have := h.len; omega
      simp only [if_neg hik]
      exact ⟨h1, (h2.grown h.own (by decide) hg).far (p := ⟨gt, 0, none⟩) (by simp; omega) _, h3, h4.keep hk⟩
    · rw [List.getElem?_append_right hi] at hx
      have hi0 : i = k := by
        have := h.len
        rcases Nat.eq_zero_or_pos (i - G.length) with e | e
        · omega
        · rw [List.getElem?_eq_none (by simp; omega)] at hx; cases hx
      subst hi0
      rw [h.len, Nat.sub_self] at hx
      simp at hx
      subst hx
      simp only [if_true]
      exact ⟨hB, (hz.grown h.own (by decide) hg).far (p := ⟨gt, 0, none⟩) (by simp; omega) _, hE, hf.keep hk⟩
end
theorem infoR : (Tryz.prog.info? 22).map (fun i => (i.zero, i.size, i.bytes)) = some (some (.slice none 0 0), 1, 24) := by kernel_rfl
theorem cell_new1 (w : World) (x : Value) (t : TypeId) : ∀ (j : Nat) (u : Value), [x][j]? = some u → (w.alloc (.cells #[x] t)).cell? ((⟨w.heap.size, 0, none⟩ : Addr).add j) = some u := by
  intro j u hj
  match j, hj with
  | 0, hj => simp at hj; subst hj; simp [Addr.add]
  | j + 1, hj => simp at hj
end Go.Proofs.YtipbpdiahemmpaaGreat

/- zpoly: a division that leaves nothing. -/
namespace Go.Proofs.YtipbpdiahemmpaaGreat
open Go.RowKit Go.IntWalk
attribute [local go_sem ↓] Go.wp_at_zero Go.wp_at_succ

theorem keep_set2 {w : World} {g : Nat} {s : Bool} {A : Option Addr} {n c : Nat} (h : ZC w g s A n c) (x y : Value) : KeepT w ((w.setCell ⟨g, 0, none⟩ x).setCell ⟨g, 1, none⟩ y) := fun i cs f e => by
  have hne : i ≠ g := by
    rintro rfl
    unfold ZC at h
    rw [h] at e
    simp at e
  exact ((Below.heap_setCell _ (⟨g, 1, none⟩ : Addr) y i hne).trans (Below.heap_setCell _ (⟨g, 0, none⟩ : Addr) x i hne)).trans e
/-- The quotient comes back, or error 30: there is none. -/
def RetEx (N : Nat) (a b : Nat → Int) (w : World) (e : Ending) (w' : World) : Prop :=
  ∃ (A : Option Addr) (n c : Nat) (Q : List Int) (kk : Int), e = .returned (.tuple #[.slice A n c, .int .i64 kk]) ∧ OwZs w' w.heap.size A n c Q ∧ Hid ((kk = 0 ∧ Pz.Nz Q ∧ (∀ t, a t = Pz.cv (Pz.co Q) b t) ∧ ∀ i, Zz.zl (Pz.co Q i) ≤ N) ∨ (kk = 30 ∧ n = 0 ∧ ¬ Pz.Dvs b a)) ∧ Below w.heap.size w w'

end Go.Proofs.YtipbpdiahemmpaaGreat

/- A round of the reference's division: the coefficient may be nought. Nothing of the program. -/
namespace Pz
theorem st_step' {l : Int} {a b x y u v : Nat → Int} {N N' S j k m : Nat} {Q K Q' K' : List Int} (h : St l a b N N' S j Q K) (hb : Up b (m + 1)) (hbz : ∀ i, Zz.zl (b i) ≤ N') (hl : l = b m) (hK : K.length ≤ k + m + 1) (hkS : k < S)
    (hQ' : IsP (fun i => x i + y i) Q') (hx : ∀ i, x i = co Q i * l) (hy : ∀ i, y i = if i < k then 0 else co [co K (k + m)] (i - k))
    (hK' : IsP (fun i => u i - v i) K') (hu : ∀ i, u i = co K i * l) (hv : ∀ i, v i = if i < k then 0 else b (i - k) * co K (k + m)) : St l a b N N' S (j + 1) Q' K' ∧ K'.length ≤ k + m := by
  have e0 : ∀ t, y t = mono (co K (k + m)) k t := fun t => by
    rw [hy]
    unfold mono
    by_cases h1 : t < k
    · rw [if_pos h1, if_neg (by omega)]
    · rw [if_neg h1]
      by_cases h2 : t = k
      · subst h2; simp [co]
      · rw [if_neg h2, co_ge (by simp; omega)]
  have e1 : ∀ t, co Q' t = co Q t * l + mono (co K (k + m)) k t := fun t => (hQ'.2 t).trans (by show x t + y t = _; rw [hx, e0])
  have e2 : ∀ t, co K' t = co K t * l - (if t < k then 0 else b (t - k) * co K (k + m)) := fun t => (hK'.2 t).trans (by show u t - v t = _; rw [hu, hv])
  have hlz : Zz.zl l ≤ N' := by rw [hl]; exact hbz m
  have eN : N + (j + 1) * (N' + 1) = N + j * (N' + 1) + (N' + 1) := by rw [Nat.succ_mul, Nat.add_assoc]
  refine ⟨⟨hQ'.1, hK'.1, psd_step h.eq _ _ e1 e2, fun t ht => ?_, fun t => ?_, fun t => ?_⟩, ?_⟩
  · rw [e1, h.upq t ht]
    unfold mono
    rw [if_neg (by omega)]
    simp
  · rw [e1, eN]
    exact step_size (h.zq t) (mono_zl (Nat.le_trans (h.zk _) (Nat.le_add_right _ _)) k t) hlz
  · rw [e2, eN]
    exact step_size' (h.zk t) (hbz (t - k)) hlz (h.zk _)
  · refine nz_len hK'.1 (top_gone (r := co K) (b := b) hb ?_ fun t => ?_)
    · exact (up_co K).mono hK
    · rw [e2, hl]
theorem co_sing (c : Int) (i k : Nat) : (if i < k then 0 else co [c] (i - k)) = mono c k i := by
  unfold mono
  by_cases h1 : i < k
  · rw [if_pos h1, if_neg (by omega)]
  · rw [if_neg h1]
    by_cases h2 : i = k
    · subst h2; simp [co]
    · rw [if_neg h2, co_ge (by simp; omega)]
theorem ex_step' {a b y v : Nat → Int} {c : Int} {N N' S j k m : Nat} {Q K Q' K' : List Int} (h : Ex a b N N' S j Q K) (hb : Up b (m + 1)) (hbz : ∀ i, Zz.zl (b i) ≤ N') (hc : b m * c = co K (k + m)) (hcz : Zz.zl c ≤ Zz.zl (co K (k + m))) (hK : K.length = k + m + 1) (hkS : k < S)
    (hQ' : IsP (fun i => co Q i + y i) Q') (hy : ∀ i, y i = if i < k then 0 else co [c] (i - k))
    (hK' : IsP (fun i => co K i - v i) K') (hv : ∀ i, v i = if i < k then 0 else b (i - k) * c) : Ex a b N N' S (j + 1) Q' K' ∧ K'.length ≤ k + m :=
  ex_step h hb hbz hc hcz hK hkS hQ' (fun i => (hy i).trans ((co_sing c i k).trans (co_one c i k).symm)) hK' hv
end Pz

/- Reference 07: degree, lead, the exact division. -/
namespace Go.Proofs.YtipbpdiahemmpaaGreat
open Go.RowKit Go.IntWalk
attribute [local go_sem ↓] Go.wp_at_zero Go.wp_at_succ

set_option maxHeartbeats 400000 in
theorem rzDegree_any {N : Nat} {A : Option Addr} {n c : Nat} {L M : List Int} {w : World} (h : RdZs w w.heap.size N A n c L) (hM : Pz.IsP (Pz.co L) M) (hn : n ≤ 4398046511103) (hN : N ≤ 17592186044416) :
    Calls Tryz.prog 18 #[.slice A n c] w fun e w' => ∃ y : Int, e = .returned (.int .i64 y) ∧ Hid (y = (M.length : Int) - 1) ∧ Below w.heap.size w w' := by
  have HM := Lib.hid hM
  have HL := Lib.hid h.len
  clear hM
  go_enter Tryz.func18, Tryz.ntmps18
  go_wp2_with fail
  refine (rzNorm_any h hn hN).mono ?_
  rintro _ W2 ⟨A2, n2, c2, M2, rfl, ho2, hM2, hb2⟩
  have HE := Lib.hid (show M.length = n2 by rw [← ho2.len, hM2.out.unique HM.out])
  have hn2 : n2 ≤ 4398046511103 := by
    rw [← HE.out]
    exact Nat.le_trans (HM.out.len fun i hi => Pz.co_ge (by rw [HL.out]; exact hi)) hn
  go_wp2
  go_ret
  exact ⟨_, rfl, Lib.hid (by rw [HE.out]), hb2⟩

set_option maxRecDepth 100000 in
set_option maxHeartbeats 1000000 in
theorem rzLead_any {N : Nat} {A : Option Addr} {n c : Nat} {L M : List Int} {w : World} (h : RdZs w w.heap.size N A n c L) (hM : Pz.IsP (Pz.co L) M) {m : Nat} (hm : M.length = m + 1) (hn : n ≤ 4398046511103) (hN : N ≤ 17592186044416) :
    Calls Tryz.prog 21 #[.slice A n c] w (RetS (Pz.co L m) N w) := by
  have HM := Lib.hid hM
  have HC := Lib.hid (zl_co h)
  have hR := ZC.new w false none 0 0
  have hB1 : Below w.heap.size w (w.alloc (.cells #[.bool false, .slice none 0 0] 28)) := (Below.refl _ _).alloc (Nat.le_refl _) _
  have h1 := h.next hB1
  have HMM := Lib.hid hm
  clear h hM hm
  go_enter Tryz.func21, Tryz.ntmps21
  go_wp2_with fail
  generalize w.alloc (.cells #[.bool false, .slice none 0 0] 28) = W1 at *
  refine (rzNorm_any h1 hn hN).mono ?_
  rintro _ W2 ⟨A2, n2, c2, M2, rfl, ho2, hM2, hb2⟩
  obtain rfl := hM2.out.unique HM.out
  have HE := Lib.hid (show n2 = m + 1 by rw [← ho2.len, HMM.out])
  have hR2 := hR.next hb2
  have hB2 := hB1.trans (hb2.mono hB1.size)
  have hr2 := rd_of (N := N) ho2 HM.out HC.out
  obtain ⟨ad, s3, A3, n3, c3, l, rfl, hbk, hx0, hx1, hrl, hn3, hl⟩ := zs_at hr2 (show m < n2 by rw [HE.out]; exact Nat.lt_succ_self _)
  have hb : ((n2 : Int) == 0) = false := by simp; have := HE.out; omega
  have hmi : (n2 : Int) - 1 = (m : Int) := by have := HE.out; omega
  have hmlt : (m : Int) < (n2 : Int) := by have := HE.out; omega
  have hmb : m ≤ 4398046511103 := by
    have h5 := HM.out.len (k := n) fun i hi => Pz.co_ge (by rw [h1.len]; exact hi)
    have := HMM.out
    omega
  have f0 := hR2.fz 0
  have f1 := hR2.fz 1
  have k0 := hR2.c0
  have k1 := hR2.c1
  have hZ6 := hR2.store s3 A3 n3 c3
  have HLV := Lib.hid (show l = Pz.co L m by rw [← HM.out.2]; exact (Pz.co_get hl.out).symm)
  have HR6 := Lib.hid (show RdZ ((W2.setCell ⟨w.heap.size, 0, none⟩ (.bool s3)).setCell ⟨w.heap.size, 1, none⟩ (.slice A3 n3 c3)) ((W2.setCell ⟨w.heap.size, 0, none⟩ (.bool s3)).setCell ⟨w.heap.size, 1, none⟩ (.slice A3 n3 c3)).heap.size s3 A3 n3 c3 l by
    obtain ⟨g, e, e1, _, e3, e4, e5⟩ := ow_at ho2 (show m < n2 by rw [HE.out]; exact Nat.lt_succ_self _)
    injection e1 with e1
    subst e1
    have hx0' : W2.cell? ⟨g, m * 2, none⟩ = some (.bool s3) := by rw [← add_base g (m * 2)]; exact hx0
    have hx1' : W2.cell? ⟨g, m * 2 + 1, none⟩ = some (.slice A3 n3 c3) := by
      have := hx1
      rw [add_base g (m * 2)] at this
      exact this
    rw [e3] at hx0'
    rw [e4] at hx1'
    injection hx0' with hx0'
    injection hx0' with hx0'
    injection hx1' with hx1'
    injection hx1' with y1 y2 y3
    rw [← hx0', ← y1, ← y2, ← y3]
    have := (e5.keep (keep_set2 hR2 (.bool e.1) (.slice e.2.1 e.2.2.1 e.2.2.2))).rd
    rw [HLV.out, ← HM.out.2]
    exact this)
  have HB6 := Lib.hid ((hB2.setCell (p := ⟨w.heap.size, 0, none⟩) (Nat.le_refl _) (.bool s3)).setCell (p := ⟨w.heap.size, 1, none⟩) (Nat.le_refl _) (.slice A3 n3 c3))
  clear h1 hM2 ho2 hR2 hR hB1 hB2 hb2 hrl hr2 hl hbk
  go_wp2_with fail
  generalize (W2.setCell ⟨w.heap.size, 0, none⟩ (.bool s3)).setCell ⟨w.heap.size, 1, none⟩ (.slice A3 n3 c3) = W6 at *
  exact bodyPost_ret (by simp [results, Tryz.results21, go_sem, hZ6.c0, hZ6.c1]) rfl ⟨_, _, _, _, _, rfl, HR6.out, hn3, Lib.hid HLV.out, HB6.out⟩

theorem sing_zl {x : Int} {N : Nat} (h : Zz.zl x ≤ N) (i : Nat) : Zz.zl (Pz.co [x] i) ≤ N := by
  match i with
  | 0 => simpa [Pz.co] using h
  | i + 1 => rw [Pz.co_ge (by simp), Zz.zl_zero]; exact Nat.zero_le _
/-- The quotient comes back, or that there is none. -/
def RetEb (N : Nat) (a b : Nat → Int) (w : World) (e : Ending) (w' : World) : Prop :=
  ∃ (A : Option Addr) (n c : Nat) (Q : List Int) (k : Bool), e = .returned (.tuple #[.slice A n c, .bool k]) ∧ OwZs w' w.heap.size A n c Q ∧ Hid ((k = true ∧ Pz.Nz Q ∧ (∀ t, a t = Pz.cv (Pz.co Q) b t) ∧ ∀ i, Zz.zl (Pz.co Q i) ≤ N) ∨ (k = false ∧ ¬ Pz.Dvs b a)) ∧ Below w.heap.size w w'

end Go.Proofs.YtipbpdiahemmpaaGreat

/- Integer polynomials: the degree, the lead. -/
namespace Go.Proofs.YtipbpdiahemmpaaGreat
open Go.RowKit Go.IntWalk
attribute [local go_sem ↓] Go.wp_at_zero Go.wp_at_succ

theorem zo_at {w : World} {b : Nat} {A : Option Addr} {n c : Nat} {L : List Int} (h : OwZs w b A n c L) {j : Nat} (hj : j < n) :
    ∃ (ad : Addr) (s : Bool) (A' : Option Addr) (n' c' : Nat), A = some ad ∧ ad.block < w.heap.size ∧ w.cell? (ad.add (j * 2)) = some (.bool s) ∧ w.cell? ⟨(ad.add (j * 2)).block, (ad.add (j * 2)).off + 1, none⟩ = some (.slice A' n' c') ∧ OwZ w b s A' n' c' (Pz.co L j) := by
  obtain ⟨g, e, h1, h2, h3, h4, h5⟩ := ow_at h hj
  exact ⟨_, _, _, _, _, h1, h2, by rw [add_base]; exact h3, by rw [add_base]; exact h4, h5⟩

theorem OwZs.far {w : World} {b : Nat} {A : Option Addr} {n c : Nat} {L : List Int} (h : OwZs w b A n c L) {p : Addr} (hp : p.block < b) (u : Value) : OwZs (w.setCell p u) b A n c L := by
  obtain ⟨E, h1, h2, h3⟩ := h
  exact ⟨E, row_far h1 hp u, h2, h3.1, fun j e z he hz => (h3.2 j e z he hz).far hp u⟩

set_option maxHeartbeats 400000 in
theorem zdegree_any {N : Nat} {A : Option Addr} {n c : Nat} {L M : List Int} {w : World} (h : RdZs w w.heap.size N A n c L) (hM : Pz.IsP (Pz.co L) M) (hn : n ≤ 4398046511103) (hN : N ≤ 17592186044416) :
    Calls Tryz.prog 17 #[.slice A n c] w fun e w' => ∃ y : Int, e = .returned (.int .i64 y) ∧ Hid (y = (M.length : Int) - 1) ∧ Below w.heap.size w w' := by
  have HM := Lib.hid hM
  have HL := Lib.hid h.len
  clear hM
  go_enter Tryz.func17, Tryz.ntmps17
  go_wp2_with fail
  refine (znorm_any h hn hN).mono ?_
  rintro _ W2 ⟨A2, n2, c2, M2, rfl, ho2, hM2, hb2⟩
  have HE := Lib.hid (show M.length = n2 by rw [← ho2.len, hM2.out.unique HM.out])
  have hn2 : n2 ≤ 4398046511103 := by
    rw [← HE.out]
    exact Nat.le_trans (HM.out.len fun i hi => Pz.co_ge (by rw [HL.out]; exact hi)) hn
  go_wp2
  go_ret
  exact ⟨_, rfl, Lib.hid (by rw [HE.out]), hb2⟩

set_option maxRecDepth 100000 in
set_option maxHeartbeats 1000000 in
theorem zlead_any {N : Nat} {A : Option Addr} {n c : Nat} {L M : List Int} {w : World} (h : RdZs w w.heap.size N A n c L) (hM : Pz.IsP (Pz.co L) M) (hn : n ≤ 4398046511103) (hN : N ≤ 17592186044416) :
    Calls Tryz.prog 20 #[.slice A n c] w (RetI (Pz.co M (M.length - 1)) w) := by
  have HM := Lib.hid hM
  have HL := Lib.hid h.len
  have hR := ZC.new w false none 0 0
  have hB1 : Below w.heap.size w (w.alloc (.cells #[.bool false, .slice none 0 0] 28)) := (Below.refl _ _).alloc (Nat.le_refl _) _
  have h1 := h.next hB1
  clear h hM
  go_enter Tryz.func20, Tryz.ntmps20
  go_wp2_with fail
  generalize w.alloc (.cells #[.bool false, .slice none 0 0] 28) = W1 at *
  refine (znorm_any h1 hn hN).mono ?_
  rintro _ W2 ⟨A2, n2, c2, M2, rfl, ho2, hM2, hb2⟩
  obtain rfl := hM2.out.unique HM.out
  have HE := Lib.hid (show M2.length = n2 from ho2.len)
  have hR2 := hR.next hb2
  have hB2 := hB1.trans (hb2.mono hB1.size)
  have HS1 := Lib.hid hR.lt
  have f0 := hR2.fz 0
  have f1 := hR2.fz 1
  have k0 := hR2.c0
  have k1 := hR2.c1
  rcases Nat.eq_zero_or_pos n2 with e0 | e0
  · subst e0
    have HV := Lib.hid (show (0 : Int) = Pz.co M2 (M2.length - 1) by rw [Pz.co_ge (by rw [HE.out]; exact Nat.zero_le _)])
    have hZ6 := hR2.store false none 0 0
    have HB6 := Lib.hid ((hB2.setCell (p := ⟨w.heap.size, 0, none⟩) (Nat.le_refl _) (.bool false)).setCell (p := ⟨w.heap.size, 1, none⟩) (Nat.le_refl _) (.slice none 0 0))
    clear h1 ho2 hR2 hR hB1 hB2 hb2
    go_wp2_with fail
    generalize (W2.setCell ⟨w.heap.size, 0, none⟩ (.bool false)).setCell ⟨w.heap.size, 1, none⟩ (.slice none 0 0) = W6 at *
    exact bodyPost_ret (by simp [results, Tryz.results20, go_sem, hZ6.c0, hZ6.c1]) rfl ⟨_, _, _, _, _, rfl, OwZ.zero _ _, HV, HB6.out⟩
  · obtain ⟨m, hm⟩ : ∃ m, n2 = m + 1 := ⟨n2 - 1, by omega⟩
    have HMM := Lib.hid hm
    have hmlt' : m < n2 := by omega
    obtain ⟨ad, s3, A3, n3, c3, rfl, hbk, hx0, hx1, he⟩ := zo_at ho2 hmlt'
    have hb : ((n2 : Int) == 0) = false := by simp; omega
    have hmi : (n2 : Int) - 1 = (m : Int) := by omega
    have hmlt : (m : Int) < (n2 : Int) := by omega
    have hmb : m ≤ 4398046511103 := by
      have h5 := HM.out.len (k := n) fun i hi => Pz.co_ge (by rw [HL.out]; exact hi)
      have := HE.out
      omega
    have HV := Lib.hid (show Pz.co M2 m = Pz.co M2 (M2.length - 1) by rw [HE.out, HMM.out]; rfl)
    have hZ6 := hR2.store s3 A3 n3 c3
    have HO6 := Lib.hid ((he.base hB1.size).keep (keep_set2 hR2 (.bool s3) (.slice A3 n3 c3)))
    have HB6 := Lib.hid ((hB2.setCell (p := ⟨w.heap.size, 0, none⟩) (Nat.le_refl _) (.bool s3)).setCell (p := ⟨w.heap.size, 1, none⟩) (Nat.le_refl _) (.slice A3 n3 c3))
    clear h1 ho2 hR2 hR hB1 hB2 hb2 he hm e0 hbk
    go_wp2_with fail
    generalize (W2.setCell ⟨w.heap.size, 0, none⟩ (.bool s3)).setCell ⟨w.heap.size, 1, none⟩ (.slice A3 n3 c3) = W6 at *
    exact bodyPost_ret (by simp [results, Tryz.results20, go_sem, hZ6.c0, hZ6.c1]) rfl ⟨_, _, _, _, _, rfl, HO6.out, HV, HB6.out⟩

set_option maxRecDepth 100000 in
set_option maxHeartbeats 1000000 in
theorem rzLead_ri {N : Nat} {A : Option Addr} {n c : Nat} {L M : List Int} {w : World} (h : RdZs w w.heap.size N A n c L) (hM : Pz.IsP (Pz.co L) M) (hn : n ≤ 4398046511103) (hN : N ≤ 17592186044416) :
    Calls Tryz.prog 21 #[.slice A n c] w (RetI (Pz.co M (M.length - 1)) w) := by
  have HM := Lib.hid hM
  have HL := Lib.hid h.len
  have hR := ZC.new w false none 0 0
  have hB1 : Below w.heap.size w (w.alloc (.cells #[.bool false, .slice none 0 0] 28)) := (Below.refl _ _).alloc (Nat.le_refl _) _
  have h1 := h.next hB1
  clear h hM
  go_enter Tryz.func21, Tryz.ntmps21
  go_wp2_with fail
  generalize w.alloc (.cells #[.bool false, .slice none 0 0] 28) = W1 at *
  refine (rzNorm_any h1 hn hN).mono ?_
  rintro _ W2 ⟨A2, n2, c2, M2, rfl, ho2, hM2, hb2⟩
  obtain rfl := hM2.out.unique HM.out
  have HE := Lib.hid (show M2.length = n2 from ho2.len)
  have hR2 := hR.next hb2
  have hB2 := hB1.trans (hb2.mono hB1.size)
  have HS1 := Lib.hid hR.lt
  have f0 := hR2.fz 0
  have f1 := hR2.fz 1
  have k0 := hR2.c0
  have k1 := hR2.c1
  rcases Nat.eq_zero_or_pos n2 with e0 | e0
  · subst e0
    have HV := Lib.hid (show (0 : Int) = Pz.co M2 (M2.length - 1) by rw [Pz.co_ge (by rw [HE.out]; exact Nat.zero_le _)])
    have hZ6 := hR2.store false none 0 0
    have HB6 := Lib.hid ((hB2.setCell (p := ⟨w.heap.size, 0, none⟩) (Nat.le_refl _) (.bool false)).setCell (p := ⟨w.heap.size, 1, none⟩) (Nat.le_refl _) (.slice none 0 0))
    clear h1 ho2 hR2 hR hB1 hB2 hb2
    go_wp2_with fail
    generalize (W2.setCell ⟨w.heap.size, 0, none⟩ (.bool false)).setCell ⟨w.heap.size, 1, none⟩ (.slice none 0 0) = W6 at *
    exact bodyPost_ret (by simp [results, Tryz.results21, go_sem, hZ6.c0, hZ6.c1]) rfl ⟨_, _, _, _, _, rfl, OwZ.zero _ _, HV, HB6.out⟩
  · obtain ⟨m, hm⟩ : ∃ m, n2 = m + 1 := ⟨n2 - 1, by omega⟩
    have HMM := Lib.hid hm
    have hmlt' : m < n2 := by omega
    obtain ⟨ad, s3, A3, n3, c3, rfl, hbk, hx0, hx1, he⟩ := zo_at ho2 hmlt'
    have hb : ((n2 : Int) == 0) = false := by simp; omega
    have hmi : (n2 : Int) - 1 = (m : Int) := by omega
    have hmlt : (m : Int) < (n2 : Int) := by omega
    have hmb : m ≤ 4398046511103 := by
      have h5 := HM.out.len (k := n) fun i hi => Pz.co_ge (by rw [HL.out]; exact hi)
      have := HE.out
      omega
    have HV := Lib.hid (show Pz.co M2 m = Pz.co M2 (M2.length - 1) by rw [HE.out, HMM.out]; rfl)
    have hZ6 := hR2.store s3 A3 n3 c3
    have HO6 := Lib.hid ((he.base hB1.size).keep (keep_set2 hR2 (.bool s3) (.slice A3 n3 c3)))
    have HB6 := Lib.hid ((hB2.setCell (p := ⟨w.heap.size, 0, none⟩) (Nat.le_refl _) (.bool s3)).setCell (p := ⟨w.heap.size, 1, none⟩) (Nat.le_refl _) (.slice A3 n3 c3))
    clear h1 ho2 hR2 hR hB1 hB2 hb2 he hm e0 hbk
    go_wp2_with fail
    generalize (W2.setCell ⟨w.heap.size, 0, none⟩ (.bool s3)).setCell ⟨w.heap.size, 1, none⟩ (.slice A3 n3 c3) = W6 at *
    exact bodyPost_ret (by simp [results, Tryz.results21, go_sem, hZ6.c0, hZ6.c1]) rfl ⟨_, _, _, _, _, rfl, HO6.out, HV, HB6.out⟩
end Go.Proofs.YtipbpdiahemmpaaGreat

/- zpoly: equality, content, the primitive part. -/
namespace Go.Proofs.YtipbpdiahemmpaaGreat
open Go.RowKit Go.IntWalk
attribute [local go_sem ↓] Go.wp_at_zero Go.wp_at_succ

/-- The greatest common divisor of a list. -/
abbrev gcdl (L : List Int) : Int := L.foldl (fun (g x : Int) => (Int.gcd g x : Int)) 0
theorem dvd_fold (d : Int) : ∀ (L : List Int) (a : Int), d ∣ L.foldl (fun (g x : Int) => (Int.gcd g x : Int)) a ↔ d ∣ a ∧ ∀ z ∈ L, d ∣ z
  | [], a => by simp
  | x :: L, a => by
    rw [List.foldl_cons, dvd_fold d L, Int.dvd_coe_gcd_iff]
    simp [and_assoc]
theorem dvd_gcdl {d : Int} {L : List Int} : d ∣ gcdl L ↔ ∀ i, d ∣ Pz.co L i := by
  rw [dvd_fold]
  constructor
  · rintro ⟨_, h⟩ i
    rcases Nat.lt_or_ge i L.length with hi | hi
    · exact h _ (List.mem_of_getElem? (Pz.get_co hi))
    · rw [Pz.co_ge hi]; exact Int.dvd_zero _
  · intro h
    refine ⟨Int.dvd_zero _, fun z hz => ?_⟩
    obtain ⟨i, _, rfl⟩ := Pz.mem_co hz
    exact h i
theorem fold_nonneg : ∀ (L : List Int) (a : Int), 0 ≤ a → 0 ≤ L.foldl (fun (g x : Int) => (Int.gcd g x : Int)) a
  | [], _, h => h
  | x :: L, a, _ => fold_nonneg L _ (Int.natCast_nonneg (Int.gcd a x))
theorem gcdl_nonneg (L : List Int) : 0 ≤ gcdl L := fold_nonneg L 0 (Int.le_refl _)
theorem gcdl_congr {L M : List Int} (h : ∀ i, Pz.co L i = Pz.co M i) : gcdl L = gcdl M := by
  refine Int.dvd_antisymm (gcdl_nonneg L) (gcdl_nonneg M) ?_ ?_
  · exact dvd_gcdl.2 fun i => by rw [← h]; exact dvd_gcdl.1 (Int.dvd_refl _) i
  · exact dvd_gcdl.2 fun i => by rw [h]; exact dvd_gcdl.1 (Int.dvd_refl _) i
theorem gcdl_dvd (L : List Int) (i : Nat) : gcdl L ∣ Pz.co L i := dvd_gcdl.1 (Int.dvd_refl _) i
theorem gcdl_zero {M : List Int} (h : Pz.Nz M) : gcdl M = 0 ↔ M = [] := by
  constructor
  · intro h0
    rcases Nat.eq_zero_or_pos M.length with e | e
    · exact List.eq_nil_of_length_eq_zero e
    · have h1 := gcdl_dvd M (M.length - 1)
      rw [h0, Int.zero_dvd] at h1
      exact absurd h1 (Pz.nz_top h e)
  · rintro rfl; rfl
theorem zl_fold {N : Nat} : ∀ (L : List Int) (a : Int), Zz.zl a ≤ N → (∀ z ∈ L, Zz.zl z ≤ N) → Zz.zl (L.foldl (fun (g x : Int) => (Int.gcd g x : Int)) a) ≤ N
  | [], _, h, _ => h
  | x :: L, a, h, hL => by
    refine zl_fold L _ ?_ fun z hz => hL z (List.mem_cons_of_mem _ hz)
    have e1 := Zz.zl_gcd a x
    have e2 := hL x (List.mem_cons_self ..)
    show Zz.zl (Int.gcd a x) ≤ N
    omega
/-- The content with the lead's sign. -/
def prC (M : List Int) : Int := if Pz.co M (M.length - 1) < 0 then -gcdl M else gcdl M
theorem prC_dvd (M : List Int) (i : Nat) : prC M ∣ Pz.co M i := by
  unfold prC
  split
  · exact Int.neg_dvd.2 (gcdl_dvd M i)
  · exact gcdl_dvd M i
theorem prC_ne {M : List Int} (h : Pz.Nz M) (h0 : M ≠ []) : prC M ≠ 0 := by
  have h1 := mt (gcdl_zero h).1 h0
  unfold prC
  split <;> omega
theorem prC_nil : prC [] = 0 := by
  unfold prC
  split <;> rfl
theorem zl_prC {N : Nat} {M : List Int} (h : ∀ z ∈ M, Zz.zl z ≤ N) : Zz.zl (prC M) ≤ N := by
  have h1 := zl_fold M 0 (by rw [Zz.zl_zero]; exact Nat.zero_le _) h
  unfold prC
  split
  · rw [Zz.zl_neg]; exact h1
  · exact h1
/-- A quotient, where there is one. -/
def exq (c z : Int) : Int := if z.tmod c = 0 then z.tdiv c else 0
theorem map_exq {c : Int} {M : List Int} (h : ∀ i, c ∣ Pz.co M i) : M.map (exq c) = M.map fun z => z.tdiv c :=
  List.map_congr_left fun z hz => by
    obtain ⟨i, _, rfl⟩ := Pz.mem_co hz
    unfold exq
    rw [if_pos (Int.tmod_eq_zero_of_dvd (h i))]

set_option maxRecDepth 100000 in
set_option maxHeartbeats 2000000 in
theorem zequal_any {N N' : Nat} {A A' : Option Addr} {n c n' c' : Nat} {L L' M1 M2 : List Int} {w : World} (h : RdZs w w.heap.size N A n c L) (h' : RdZs w w.heap.size N' A' n' c' L') (hM1 : Pz.IsP (Pz.co L) M1) (hM2 : Pz.IsP (Pz.co L') M2) (hn : n ≤ 4398046511103) (hn' : n' ≤ 4398046511103) (hN : N ≤ 1000000000000) (hN' : N' ≤ 1000000000000) :
    Calls Tryz.prog 22 #[.slice A n c, .slice A' n' c'] w fun e w' => ∃ b : Bool, e = .returned (.bool b) ∧ Hid (b = true ↔ M1 = M2) ∧ Below w.heap.size w w' := by
  have HC := Lib.hid (And.intro (zl_co h) (zl_co h'))
  have HM1 := Lib.hid hM1
  have HM2 := Lib.hid hM2
  have HLN := Lib.hid (And.intro h.len h'.len)
  clear hM1 hM2
  go_enter Tryz.func22, Tryz.ntmps22
  go_wp2_with fail
  refine (znorm_any h hn (by omega)).mono ?_
  rintro _ W1 ⟨A1, m1, c1, K1, rfl, ho1, hK1, hb1⟩
  go_wp2_with fail
  refine (znorm_any (h'.next hb1) hn' (by omega)).mono ?_
  rintro _ W2 ⟨A2, m2, c2, K2, rfl, ho2, hK2, hb2⟩
  obtain rfl := hK1.out.unique HM1.out
  obtain rfl := hK2.out.unique HM2.out
  have HL := Lib.hid (And.intro ho1.len ho2.len)
  have HB := Lib.hid (hb1.trans (hb2.mono hb1.size))
  have hm1 : m1 ≤ 4398046511103 := by
    have h5 := HM1.out.len (k := n) fun i hi => Pz.co_ge (by rw [HLN.out.1]; exact hi)
    have := HL.out.1
    omega
  have hr1 := rd_of (N := N) (ho1.next hb2) HM1.out HC.out.1
  have hr2 := rd_of (N := N') ho2 HM2.out HC.out.2
  clear h h' ho1 ho2 hb1 hb2 hK1 hK2
  rcases Nat.lt_trichotomy m1 m2 with hlt | heq | hgt
  · have hne : ((m1 : Int) != (m2 : Int)) = true := by simp; omega
    have HE := Lib.hid (show ¬ K1 = K2 from fun e => by rw [e] at HL; have := HL.out; omega)
    clear hlt
    go_wp2
    go_ret
    exact ⟨false, rfl, Lib.hid ⟨fun e => by simp at e, fun e => absurd e HE.out⟩, HB.out⟩
  · subst heq
    go_wp2_with fail
    go_loopw [5, 17] (fun xv iv wr => ∃ (j : Nat), iv = .int .i64 j ∧ j ≤ m1 ∧ Hid (∀ i, i < j → Pz.co K1 i = Pz.co K2 i) ∧ Below W2.heap.size W2 wr) (fun _ iv _ => m1 - (intOf iv).toNat)
    case atStart => exact ⟨0, rfl, Nat.zero_le _, Lib.hid fun i hi => absurd hi (Nat.not_lt_zero _), Below.refl _ _⟩
    case round =>
      obtain ⟨j, rfl, hj, hE, hB⟩ := hrel
      by_cases hjn : j = m1
      · subst hjn
        have HE := Lib.hid (show K1 = K2 from (Pz.IsP.self HM1.out.1).unique ⟨HM2.out.1, fun i => by
          rcases Nat.lt_or_ge i j with hi | hi
          · exact (hE.out i hi).symm
          · rw [Pz.co_ge (L := K1) (by rw [HL.out.1]; exact hi), Pz.co_ge (L := K2) (by rw [HL.out.2]; exact hi)]⟩)
        have HF := Lib.hid (HB.out.trans (hB.mono HB.out.size))
        go_wp2
        go_ret
        exact ⟨true, rfl, Lib.hid ⟨fun _ => HE.out, fun _ => rfl⟩, HF.out⟩
      · have hjl : j < m1 := by omega
        have hjli : (j : Int) < (m1 : Int) := by omega
        clear hjn
        obtain ⟨ad, s3, A3, n3, c3, x, rfl, hbk, hx0, hx1, hrx, hn3, hx⟩ := zs_at hr1 hjl
        obtain ⟨ad4, s4, A4, n4, c4, y, rfl, hbk4, hy0, hy1, hry, hn4, hy⟩ := zs_at hr2 hjl
        have HXY := Lib.hid (show x = Pz.co K1 j ∧ y = Pz.co K2 j from ⟨(Pz.co_get hx.out).symm, (Pz.co_get hy.out).symm⟩)
        have HCE := Lib.hid (show ∀ W : World, Below W2.heap.size W2 W → (W.cell? (ad.add (j * 2)) = some (.bool s3) ∧ W.cell? ⟨(ad.add (j * 2)).block, (ad.add (j * 2)).off + 1, none⟩ = some (.slice A3 n3 c3) ∧ W.cell? (ad4.add (j * 2)) = some (.bool s4) ∧ W.cell? ⟨(ad4.add (j * 2)).block, (ad4.add (j * 2)).off + 1, none⟩ = some (.slice A4 n4 c4)) from fun W hb => ⟨(zs_cells hb hbk hx0 hx1).1, (zs_cells hb hbk hx0 hx1).2, (zs_cells hb hbk4 hy0 hy1).1, (zs_cells hb hbk4 hy0 hy1).2⟩)
        have HR := Lib.hid (show ∀ W : World, Below W2.heap.size W2 W → RdZ W W.heap.size s3 A3 n3 c3 x ∧ RdZ W W.heap.size s4 A4 n4 c4 y from fun W hb => ⟨hrx.next hb, hry.next hb⟩)
        have HN := Lib.hid (show n3 ≤ 17592186044416 ∧ n4 ≤ 17592186044416 by omega)
        have HD := Lib.hid hB.drew
        obtain ⟨a0, a1, a2, a3⟩ := HCE.out wr hB
        clear hx0 hx1 hy0 hy1 hrx hry hx hy hbk hbk4 hr1 hr2
        go_upto_region 7 with fail
        go_region_held3 (fun w' => w'.cell? (ad.add (j * 2)) = some (.bool s3) ∧ w'.cell? ⟨(ad.add (j * 2)).block, (ad.add (j * 2)).off + 1, none⟩ = some (.slice A3 n3 c3) ∧ w'.cell? (ad4.add (j * 2)) = some (.bool s4) ∧ w'.cell? ⟨(ad4.add (j * 2)).block, (ad4.add (j * 2)).off + 1, none⟩ = some (.slice A4 n4 c4)) (first | exact HCE.out _ HB5.out | exact HCE.out _ HD.out)
          ((go_at_call 92; refine (zcmp_any (HR.out _ HD.out).1 (HR.out _ HD.out).2 HN.out.1 HN.out.2).mono ?_; rintro _ W5 ⟨k5, rfl, hk5, hb5⟩; have HB5 := Lib.hid (HD.out.trans (hb5.mono HD.out.size))))
        clear a0 a1 a2 a3 hb5
        by_cases hk : k5 = 0
        · have HE2 := Lib.hid (show Pz.co K1 j = Pz.co K2 j by
            have e1 := hk5.out
            rw [hk, HXY.out.1, HXY.out.2] at e1
            have e2 := Int.sign_eq_zero_iff_zero.1 e1.symm
            omega)
          subst hk
          go_wp2
          go_roundw
          case rel => exact ⟨j + 1, by go_num, by omega, Lib.hid fun i hi => by
            rcases Nat.lt_or_ge i j with h1 | h1
            · exact hE.out i h1
            · rw [show i = j by omega]; exact HE2.out, HB5.out⟩
          case measure => simp [intOf]; omega
        · have hkb : (k5 != 0) = true := by simpa using hk
          have HE := Lib.hid (show ¬ K1 = K2 from fun e => hk (by
            rw [hk5.out, HXY.out.1, HXY.out.2, e, Int.sub_self]; rfl))
          have HF := Lib.hid (HB.out.trans (HB5.out.mono HB.out.size))
          clear hk
          go_wp2
          go_ret
          exact ⟨false, rfl, Lib.hid ⟨fun e => by simp at e, fun e => absurd e HE.out⟩, HF.out⟩
  · have hne : ((m1 : Int) != (m2 : Int)) = true := by simp; omega
    have HE := Lib.hid (show ¬ K1 = K2 from fun e => by rw [e] at HL; have := HL.out; omega)
    clear hgt
    go_wp2
    go_ret
    exact ⟨false, rfl, Lib.hid ⟨fun e => by simp at e, fun e => absurd e HE.out⟩, HB.out⟩

set_option maxHeartbeats 1000000 in
theorem zcontent_any {N : Nat} {A : Option Addr} {n c : Nat} {L : List Int} {w : World} (h : RdZs w w.heap.size N A n c L) (hN : N ≤ 1000000000000) :
    Calls Tryz.prog 25 #[.slice A n c] w (RetI (gcdl L) w) := by
  obtain ⟨W1, HW1⟩ : ∃ W, W = w.alloc (.cells #[.bool false, .slice none 0 0] 28) := ⟨_, rfl⟩
  have hR : ZC W1 w.heap.size false none 0 0 := by rw [HW1]; exact ZC.new w false none 0 0
  have hB : Below w.heap.size w W1 := by rw [HW1]; exact (Below.refl w.heap.size w).alloc (Nat.le_refl _) _
  have HW1 := Lib.hid HW1
  have h1 := h.next hB
  go_enter Tryz.func25, Tryz.ntmps25
  go_wp2_with fail
  rw [← HW1.out]
  clear HW1
  clear HW1
  refine (gcdl_any h1 hN).mono ?_
  rintro _ W3 ⟨s3, A3, m3, c3, z3, rfl, ho3, hz3, hb3⟩
  have hR3 := hR.next hb3
  have hB3 := hB.trans (hb3.mono hB.size)
  have HS1 := Lib.hid hR.lt
  have hc0 := hR3.c0
  have hc1 := hR3.c1
  have hf0 := hR3.fz 0
  have hf1 := hR3.fz 1
  clear hb3 hR h1 h
  go_wp2
  have hp := put_int hR3 hB3 (Nat.le_refl _) ho3 HS1.out
  generalize (W3.setCell ⟨w.heap.size, 0, none⟩ (.bool s3)).setCell ⟨w.heap.size, 1, none⟩ (.slice A3 m3 c3) = W5 at hp ⊢
  obtain ⟨hZ5, ho5, hB5⟩ := hp
  exact bodyPost_ret (by simp [results, Tryz.results25, go_sem, hZ5.c0, hZ5.c1]) rfl ⟨_, _, _, _, _, rfl, ho5.base (Nat.le_of_lt HS1.out), hz3, hB5⟩
end Go.Proofs.YtipbpdiahemmpaaGreat
