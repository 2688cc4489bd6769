/- zpoly: a division that leaves nothing. -/
import Derived.Test.YtipbpdiahemmpaaGreatQq
import Derived.Test.YtipbpdiahemmpaaGreatQm
import Derived.Test.YtipbpdiahemmpaaGreatQp
namespace Go.Proofs.YtipbpdiahemmpaaGreat
open Go.RowKit Go.IntWalk
attribute [local go_sem ↓] Go.wp_at_zero Go.wp_at_succ

theorem keep_set2 {w : World} {g : Nat} {s : Bool} {A : Option Addr} {n c : Nat} (h : ZC w g s A n c) (x y : Value) : KeepT w ((w.setCell ⟨g, 0, none⟩ x).setCell ⟨g, 1, none⟩ y) := fun i cs f e => by
  have hne : i ≠ g := by
    rintro rfl
    unfold ZC at h
    rw [h] at e
    simp at e
  exact ((Below.heap_setCell _ (⟨g, 1, none⟩ : Addr) y i hne).trans (Below.heap_setCell _ (⟨g, 0, none⟩ : Addr) x i hne)).trans e
/-- The quotient comes back, or error 30: there is none. -/
def RetEx (N : Nat) (a b : Nat → Int) (w : World) (e : Ending) (w' : World) : Prop :=
  ∃ (A : Option Addr) (n c : Nat) (Q : List Int) (kk : Int), e = .returned (.tuple #[.slice A n c, .int .i64 kk]) ∧ OwZs w' w.heap.size A n c Q ∧ Hid ((kk = 0 ∧ Pz.Nz Q ∧ (∀ t, a t = Pz.cv (Pz.co Q) b t) ∧ ∀ i, Zz.zl (Pz.co Q i) ≤ N) ∨ (kk = 30 ∧ n = 0 ∧ ¬ Pz.Dvs b a)) ∧ Below w.heap.size w w'

end Go.Proofs.YtipbpdiahemmpaaGreat

/- Reference 07: degree, lead, the exact division. -/
namespace Go.Proofs.YtipbpdiahemmpaaGreat
open Go.RowKit Go.IntWalk
attribute [local go_sem ↓] Go.wp_at_zero Go.wp_at_succ

set_option maxHeartbeats 400000 in
theorem rzDegree_any {N : Nat} {A : Option Addr} {n c : Nat} {L M : List Int} {w : World} (h : RdZs w w.heap.size N A n c L) (hM : Pz.IsP (Pz.co L) M) (hn : n ≤ 4398046511103) (hN : N ≤ 17592186044416) :
    Calls Tryz.prog 18 #[.slice A n c] w fun e w' => ∃ y : Int, e = .returned (.int .i64 y) ∧ Hid (y = (M.length : Int) - 1) ∧ Below w.heap.size w w' := by
  have HM := Lib.hid hM
  have HL := Lib.hid h.len
  clear hM
  go_enter Tryz.func18, Tryz.ntmps18
  go_wp2_with fail
  refine (rzNorm_any h hn hN).mono ?_
  rintro _ W2 ⟨A2, n2, c2, M2, rfl, ho2, hM2, hb2⟩
  have HE := Lib.hid (show M.length = n2 by rw [← ho2.len, hM2.out.unique HM.out])
  have hn2 : n2 ≤ 4398046511103 := by
    rw [← HE.out]
    exact Nat.le_trans (HM.out.len fun i hi => Pz.co_ge (by rw [HL.out]; exact hi)) hn
  go_wp2
  go_ret
  exact ⟨_, rfl, Lib.hid (by rw [HE.out]), hb2⟩

set_option maxRecDepth 100000 in
set_option maxHeartbeats 1000000 in
theorem rzLead_any {N : Nat} {A : Option Addr} {n c : Nat} {L M : List Int} {w : World} (h : RdZs w w.heap.size N A n c L) (hM : Pz.IsP (Pz.co L) M) {m : Nat} (hm : M.length = m + 1) (hn : n ≤ 4398046511103) (hN : N ≤ 17592186044416) :
    Calls Tryz.prog 21 #[.slice A n c] w (RetS (Pz.co L m) N w) := by
  have HM := Lib.hid hM
  have HC := Lib.hid (zl_co h)
  have hR := ZC.new w false none 0 0
  have hB1 : Below w.heap.size w (w.alloc (.cells #[.bool false, .slice none 0 0] 28)) := (Below.refl _ _).alloc (Nat.le_refl _) _
  have h1 := h.next hB1
  have HMM := Lib.hid hm
  clear h hM hm
  go_enter Tryz.func21, Tryz.ntmps21
  go_wp2_with fail
  generalize w.alloc (.cells #[.bool false, .slice none 0 0] 28) = W1 at *
  refine (rzNorm_any h1 hn hN).mono ?_
  rintro _ W2 ⟨A2, n2, c2, M2, rfl, ho2, hM2, hb2⟩
  obtain rfl := hM2.out.unique HM.out
  have HE := Lib.hid (show n2 = m + 1 by rw [← ho2.len, HMM.out])
  have hR2 := hR.next hb2
  have hB2 := hB1.trans (hb2.mono hB1.size)
  have hr2 := rd_of (N := N) ho2 HM.out HC.out
  obtain ⟨ad, s3, A3, n3, c3, l, rfl, hbk, hx0, hx1, hrl, hn3, hl⟩ := zs_at hr2 (show m < n2 by rw [HE.out]; exact Nat.lt_succ_self _)
  have hb : ((n2 : Int) == 0) = false := by simp; have := HE.out; omega
  have hmi : (n2 : Int) - 1 = (m : Int) := by have := HE.out; omega
  have hmlt : (m : Int) < (n2 : Int) := by have := HE.out; omega
  have hmb : m ≤ 4398046511103 := by
    have h5 := HM.out.len (k := n) fun i hi => Pz.co_ge (by rw [h1.len]; exact hi)
    have := HMM.out
    omega
  have f0 := hR2.fz 0
  have f1 := hR2.fz 1
  have k0 := hR2.c0
  have k1 := hR2.c1
  have hZ6 := hR2.store s3 A3 n3 c3
  have HLV := Lib.hid (show l = Pz.co L m by rw [← HM.out.2]; exact (Pz.co_get hl.out).symm)
  have HR6 := Lib.hid (show RdZ ((W2.setCell ⟨w.heap.size, 0, none⟩ (.bool s3)).setCell ⟨w.heap.size, 1, none⟩ (.slice A3 n3 c3)) ((W2.setCell ⟨w.heap.size, 0, none⟩ (.bool s3)).setCell ⟨w.heap.size, 1, none⟩ (.slice A3 n3 c3)).heap.size s3 A3 n3 c3 l by
    obtain ⟨g, e, e1, _, e3, e4, e5⟩ := ow_at ho2 (show m < n2 by rw [HE.out]; exact Nat.lt_succ_self _)
    injection e1 with e1
    subst e1
    have hx0' : W2.cell? ⟨g, m * 2, none⟩ = some (.bool s3) := by rw [← add_base g (m * 2)]; exact hx0
    have hx1' : W2.cell? ⟨g, m * 2 + 1, none⟩ = some (.slice A3 n3 c3) := by
      have := hx1
      rw [add_base g (m * 2)] at this
      exact this
    rw [e3] at hx0'
    rw [e4] at hx1'
    injection hx0' with hx0'
    injection hx0' with hx0'
    injection hx1' with hx1'
    injection hx1' with y1 y2 y3
    rw [← hx0', ← y1, ← y2, ← y3]
    have := (e5.keep (keep_set2 hR2 (.bool e.1) (.slice e.2.1 e.2.2.1 e.2.2.2))).rd
    rw [HLV.out, ← HM.out.2]
    exact this)
  have HB6 := Lib.hid ((hB2.setCell (p := ⟨w.heap.size, 0, none⟩) (Nat.le_refl _) (.bool s3)).setCell (p := ⟨w.heap.size, 1, none⟩) (Nat.le_refl _) (.slice A3 n3 c3))
  clear h1 hM2 ho2 hR2 hR hB1 hB2 hb2 hrl hr2 hl hbk
  go_wp2_with fail
  generalize (W2.setCell ⟨w.heap.size, 0, none⟩ (.bool s3)).setCell ⟨w.heap.size, 1, none⟩ (.slice A3 n3 c3) = W6 at *
  exact bodyPost_ret (by simp [results, Tryz.results21, go_sem, hZ6.c0, hZ6.c1]) rfl ⟨_, _, _, _, _, rfl, HR6.out, hn3, Lib.hid HLV.out, HB6.out⟩

theorem sing_zl {x : Int} {N : Nat} (h : Zz.zl x ≤ N) (i : Nat) : Zz.zl (Pz.co [x] i) ≤ N := by
  match i with
  | 0 => simpa [Pz.co] using h
  | i + 1 => rw [Pz.co_ge (by simp), Zz.zl_zero]; exact Nat.zero_le _
/-- The quotient comes back, or that there is none. -/
def RetEb (N : Nat) (a b : Nat → Int) (w : World) (e : Ending) (w' : World) : Prop :=
  ∃ (A : Option Addr) (n c : Nat) (Q : List Int) (k : Bool), e = .returned (.tuple #[.slice A n c, .bool k]) ∧ OwZs w' w.heap.size A n c Q ∧ Hid ((k = true ∧ Pz.Nz Q ∧ (∀ t, a t = Pz.cv (Pz.co Q) b t) ∧ ∀ i, Zz.zl (Pz.co Q i) ≤ N) ∨ (k = false ∧ ¬ Pz.Dvs b a)) ∧ Below w.heap.size w w'

end Go.Proofs.YtipbpdiahemmpaaGreat
