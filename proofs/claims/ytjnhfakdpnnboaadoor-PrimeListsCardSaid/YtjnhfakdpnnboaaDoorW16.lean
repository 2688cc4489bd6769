/- Lists of primes, by the program. -/
import Derived.Test.YtjnhfakdpnnboaaDoorW15
import Derived.Test.YtjnhfakdpnnboaaDoorW17
import Derived.Test.YtjnhfakdpnnboaaDoorW9
import Derived.Test.YtjnhfakdpnnboaaDoorNt10
import Derived.Maps.AppendAt
namespace Go.Proofs.YtjnhfakdpnnboaaDoor
open Go.RowKit Go.IntWalk Go.Shelf
attribute [local go_sem] Oper.semAt_some

theorem infoU : (Tryd.prog.info? 25).map (fun i => (i.zero, i.size, i.bytes)) = some (some (.int .u32 0), 1, 4) := by kernel_rfl
/-- The cells of a list of words. -/
def ucells (L : List Nat) : List Value := L.map fun x : Nat => Value.int .u32 x
/-- A list of primes comes back, in new memory. -/
def RetPL (P : List Nat) (w : World) (e : Ending) (w' : World) : Prop :=
  ∃ (v : Value) (L : List Nat), e = .returned (.tuple #[v, .int .i64 0]) ∧ Hid (L = P) ∧ w'.ownsRow w.heap.size 25 1 v L.length (ucells L) ∧ Below w.heap.size w w'

theorem row_slice {W : World} {base : Nat} {T : TypeId} {size : Nat} {v : Value} {n : Nat} {xs : List Value} (h : W.ownsRow base T size v n xs) : ∃ a c, v = .slice a n c := by
  rcases h.2 with ⟨rfl, h0⟩ | ⟨g, cap, _, rfl, _⟩
  · exact ⟨none, 0, by rw [h0]⟩
  · exact ⟨_, _, rfl⟩

theorem row_base {W : World} {b m : Nat} {T : TypeId} {size : Nat} {v : Value} {n : Nat} {xs : List Value} (h : W.ownsRow b T size v n xs) (hm : m ≤ b) : W.ownsRow m T size v n xs := by
  refine ⟨h.1, ?_⟩
  rcases h.2 with h0 | ⟨g, cap, cur, h1, h2, h3⟩
  · exact .inl h0
  · exact .inr ⟨g, cap, cur, h1, by omega, h3⟩
/-- An append to a boxed slice whose row lies behind other boxes: these are kept. -/
theorem box_pushed {W w1 : World} {n₀ m₀ B : Nat} {t e : TypeId} {size : Nat} {v v' : Value} {k m : Nat} {xs ys : List Value} {tmp : Obj}
    (hv : Boxed W B t v) (hte : t ≠ e) (hrow : W.ownsRow n₀ e size v k xs) (hn₀ : n₀ ≤ W.heap.size) (hm : m₀ ≤ n₀) (hB : m₀ ≤ B)
    (hown' : w1.ownsRow n₀ e size v' m ys) (hgrow : (W.alloc tmp).grownBy w1 v.ownBlock) :
    Boxed w1 B t v ∧ Boxed (w1.setCell ⟨B, 0, none⟩ v') B t v' ∧ (w1.setCell ⟨B, 0, none⟩ v').ownsRow n₀ e size v' m ys ∧ KeepsOthers W (w1.setCell ⟨B, 0, none⟩ v') ∧ Below m₀ W (w1.setCell ⟨B, 0, none⟩ v') ∧
      ∀ j, j < n₀ → j ≠ B → (w1.setCell ⟨B, 0, none⟩ v').cell? ⟨j, 0, none⟩ = W.cell? ⟨j, 0, none⟩ := by
  obtain ⟨a1, a2, a3, a4, a5⟩ := hv.appended hte (row_base hrow hm) (by omega) hB (row_base hown' hm) hgrow
  refine ⟨a1, a2, hown'.kept (grownBy_setCell' w1 B v') (.inr (a1.not_row hte hown').symm), a4, a5, fun j hj hjB => ?_⟩
  refine Eq.trans (World.cell?_setCell_other _ ⟨B, 0, none⟩ ⟨j, 0, none⟩ v' (by intro e; cases e; exact hjB rfl)) ?_
  exact (((Below.refl n₀ W).alloc hn₀ tmp).grown hgrow (by simp; omega) (own_block hrow)).cell (p := ⟨j, 0, none⟩) hj

set_option maxHeartbeats 2000000 in
theorem List_up (p k : Nat) (hp : p < 4294967296) (hk : k ≤ 10000) (w : World) (hT : Tabs w) :
    Calls Tryd.prog 36 #[.int .u32 p, .int .i64 k, .bool false] w (RetPL ((Nt.frm false p).take k) w) := by
  rw [Nt.frm_up hp]
  obtain ⟨i0, hi, hz0, hz1, hz2⟩ := info_parts infoU
  refine (callsIn_wide (n := 4)).1 ?_
  refine callsIn_of_wp_marks Tryd.func36 rfl trivial ?_ rfl
  simp only [Tryd.ntmps36, List.size_toArray, List.length_cons, List.length_nil, Nat.reduceAdd, Nat.reduceSub, Array.replicate_succ, Array.replicate_zero, List.push_toArray, List.append_toArray, List.nil_append, List.cons_append]
  gi_wp2_with (refine ⟨trivial, ?_⟩; gi_at_call 37; refine (callsIn_wide.2 (between_any p 4294967295 _)).mono ?_; rintro e w' ⟨rfl, rfl⟩)
  obtain ⟨W0, hW0⟩ : ∃ W0, W0 = ((((w.alloc (.cells #[.int .i64 k] 3)).alloc (.cells #[.slice none 0 0] 49)).alloc (.cells #[.int .u32 p] 25)).alloc (.cells #[.int .u32 4294967295] 25)) := ⟨_, rfl⟩
  have hsz : W0.heap.size = w.heap.size + 4 := by rw [hW0]; simp
  have hc0 : W0.cell? ⟨w.heap.size, 0, none⟩ = some (.int .i64 k) := by rw [hW0]; go_simp
  have bL : Boxed W0 (w.heap.size + 1) 49 (.slice none 0 0) := by
    rw [hW0]
    have b := Boxed.new (w.alloc (.cells #[.int .i64 k] 3)) 49 (.slice none 0 0)
    rw [World.size_alloc] at b
    exact (b.alloc _).alloc _
  have hc2 : W0.cell? ⟨w.heap.size + 1 + 1, 0, none⟩ = some (.int .u32 p) := by rw [hW0]; go_simp
  have hc3 : W0.cell? ⟨w.heap.size + 1 + 1 + 1, 0, none⟩ = some (.int .u32 4294967295) := by rw [hW0]; go_simp
  have hB0 : Below w.heap.size w W0 := by
    rw [hW0]
    exact ((((Below.refl _ w).alloc (Nat.le_refl _) _).alloc (by simp) _).alloc (by simp; omega) _).alloc (by simp; omega) _
  have hT0 := hT.below hB0
  rw [← hW0]
  clear hW0
  refine wpIn_rangeFunc_ownG (F := Fence.wide) rfl (by omega) (gf := 63) (lb := #[.pointer (some ⟨w.heap.size + 1 + 1, 0, none⟩), .pointer (some ⟨w.heap.size + 1 + 1 + 1, 0, none⟩)]) rfl trivial (enters_of Tryd.func63 (by kernel_rfl) rfl)
    (between_stopsk 3 (by omega) (w.heap.size + 1 + 1) (w.heap.size + 1 + 1 + 1) p 4294967295 hp (by omega) W0 (by omega) (by omega) hT0 hc2 hc3) KpB.trans (KpB.put (by omega) (by omega) (by have := hT.size; omega)) (Below.refl _ _) (fun _ => rfl)
    (fun pre W => ((∃ v, Boxed W (w.heap.size + 1) 49 v ∧ W.ownsRow (w.heap.size + 4) 25 1 v pre.length (ucells pre) ∧ pre.length ≤ k) ∧ W.cell? ⟨w.heap.size, 0, none⟩ = some (.int .i64 k) ∧ w.heap.size + 4 ≤ W.heap.size) ∧ Below w.heap.size w W)
    (fun c pre W => (∃ v, Boxed W (w.heap.size + 1) 49 v ∧ W.ownsRow (w.heap.size + 4) 25 1 v pre.dropLast.length (ucells pre.dropLast) ∧ (c = .exit 0 ∧ pre.dropLast.length = k ∧ pre ≠ [])) ∧ Below w.heap.size w W)
    (OwnFrom.and (OwnFrom.and (Own.from (holdsRow_own (w.heap.size + 4) (w.heap.size + 1) 49 25 1 (fun pre => pre.length) ucells (fun pre _ => pre.length ≤ k)) _) (Own.from (fun s A B row hs hg hr => ⟨cell_kept hs.1 hg hr, Nat.le_trans hs.2 hg.size⟩) _)) (ownFrom_below (Nat.le_refl _) (by omega)))
    (fun c => OwnFrom.and (Own.from (holdsRow_own (w.heap.size + 4) (w.heap.size + 1) 49 25 1 (fun pre => pre.dropLast.length) (fun pre => ucells pre.dropLast) (fun pre _ => c = .exit 0 ∧ pre.dropLast.length = k ∧ pre ≠ [])) _) (ownFrom_below (Nat.le_refl _) (by omega)))
    ⟨⟨⟨_, bL, World.ownsRow_nil _ _ _ _, by simp⟩, hc0, by omega⟩, hB0⟩
    (fun x => { tmps := (.int .u32 p :: .int .i64 k :: .bool false :: undef :: .pointer (some ⟨w.heap.size, 0, none⟩) :: undef :: .slice none 0 0 :: .int .i64 0 :: .pointer (some ⟨w.heap.size + 1, 0, none⟩) :: .int .u32 (x : Nat) :: undef :: undef :: .int .i64 k :: .bool (decide ((k : Int) < 0)) :: .bool (decide ((k : Int) < 0)) :: .int .i64 k :: .bool (decide (10000 < (k : Int))) :: .bool (decide ((k : Int) < 0) || decide (10000 < (k : Int))) :: .bool false :: .bool true :: .int .u32 p :: .func (.func 63) #[] #[.pointer (some ⟨w.heap.size + 1 + 1, 0, none⟩), .pointer (some ⟨w.heap.size + 1 + 1 + 1, 0, none⟩)] :: .int .u32 (x : Nat) :: undef :: undef :: undef :: undef :: undef :: undef :: undef :: undef :: undef :: undef :: undef :: undef :: undef :: undef :: undef :: undef :: undef :: undef :: undef :: undef :: undef :: undef :: undef :: undef :: undef :: undef :: undef :: undef :: undef :: undef :: undef :: undef :: undef :: undef :: undef :: undef :: ([] : List Value)).toArray, defers := [] }) ?assign ?body ?done ?stop
  case assign =>
    intro l x W K hK
    gi_wp2
    exact hK
  case body =>
    clear hc0 hc2 hc3 bL
    rintro l pre x W ⟨⟨⟨v, hv, hrow, hlen⟩, hc0, hsW⟩, hB⟩ _
    obtain ⟨a0, cap0, rfl⟩ := row_slice hrow
    have hc := hv.cell
    have hvf := hv.frozen
    by_cases he : pre.length = k
    · have he' : (pre.length : Int) = k := by omega
      gi_wp2
      exact ⟨KeepsFrom.refl _ _, ⟨_, hv, by simpa using hrow, rfl, by simpa using he, by simp⟩, hB⟩
    · have he' : ¬ (pre.length : Int) = k := by omega
      gi_wp2_with (gi_at_builtin; refine wpListIn_append_own _ rfl _ _ 49 rfl (w.heap.size + 4) 25 i0 (.int .u32 0) 1 4 Tryd.underlying49 hi hz0 hz1 hz2 rfl (by decide) _ _ _ rfl (hrow.alloc _) ⟨W.heap.size, 0, none⟩ 1 1 [.int .u32 x] rfl rfl (cell_one_new _ _ _) (by simp [Value.oneCell']) (by unfold maxLen; omega) (by omega) (by simp; omega) ?_; intro v' w1 hown' hgrow _; obtain ⟨g', cap', rfl⟩ := ownsRow_succ hown'; obtain ⟨hv1, hv2, hr2, hk2, hb2, hj2⟩ := box_pushed (m₀ := w.heap.size) hv (by decide) hrow hsW (by omega) (by omega) hown' hgrow; have hc1 := hv1.cell; have hf1 := hv1.frozen)
      refine ⟨hk2.from _, ⟨hb2.mono (by have := hT.size; omega), hj2 _ (by omega) (by omega), hj2 _ (by omega) (by omega)⟩, ⟨⟨_, hv2, by simpa [ucells] using hr2, by simp; omega⟩, (hj2 _ (by omega) (by omega)).trans hc0, Nat.le_trans hsW ?_⟩, hB.trans hb2⟩
      have := hgrow.size
      simp at this ⊢
      omega
  case done =>
    rintro D ys W hD rfl ⟨⟨⟨v, hv, hrow, hlen⟩, hc0, hsW⟩, hB⟩ hK
    obtain ⟨a0, cap0, rfl⟩ := row_slice hrow
    have hc := hv.cell
    have hvf := hv.frozen
    gi_wp2
    refine ⟨by simp, .inl ⟨_, _, rfl, run_takeDeferred hK, ?_⟩⟩
    refine ⟨_, results_tmp2 rfl _ _ _, _, _, rfl, Lib.hid ?_, ownsRow_putObj (row_base hrow (by omega)) _ hK rfl, hB.trans (belowK_b (w := w) (Nat.le_refl _) W D _ _ (by omega) hK rfl rfl)⟩
    exact (List.take_of_length_le hlen).symm
  case stop =>
    rintro D c pre W hD ⟨m, hlk, hkh, hpk, rfl⟩ ⟨⟨v, hv, hrow, rfl, hlen, hne⟩, hB⟩ hK
    obtain ⟨a0, cap0, rfl⟩ := row_slice hrow
    have hc := hv.cell
    have hvf := hv.frozen
    gi_wp2
    refine ⟨by simp, .inl ⟨_, _, rfl, run_takeDeferred hK, ?_⟩⟩
    refine ⟨_, results_tmp2 rfl _ _ _, _, _, (by rw [hlen]; rfl), Lib.hid ?_, ownsRow_putObj (row_base hrow (by omega)) _ hK rfl, hB.trans (belowK_b (w := w) (Nat.le_refl _) W D _ _ (by omega) hK rfl rfl)⟩
    have e1 : Nt.ups p (m + 1) = Nt.ups p m ++ [m] := Nt.ups_yes hlk hpk
    rw [e1, List.dropLast_concat] at hlen ⊢
    exact Nt.take_stop (by omega) (by omega) e1.symm hlen

set_option maxHeartbeats 400000 in
theorem List_err (p : Nat) (k : Int) (d : Bool) (hk : k < 0 ∨ 10000 < k) (w : World) :
    Calls Tryd.prog 36 #[.int .u32 p, .int .i64 k, .bool d] w fun e w' => e = .returned (.tuple #[.slice none 0 0, .int .i64 1]) ∧ Below w.heap.size w w' := by
  rcases hk with hk | hk
  · go_enter Tryd.func36, Tryd.ntmps36
    go_wp2
    go_ret2
    exact ⟨rfl, (Below.refl _ w).alloc (Nat.le_refl _) _⟩
  · have h2 : ¬ k < 0 := by omega
    go_enter Tryd.func36, Tryd.ntmps36
    go_wp2
    go_ret2
    exact ⟨rfl, (Below.refl _ w).alloc (Nat.le_refl _) _⟩

set_option maxHeartbeats 4000000 in
theorem List_down (p k : Nat) (hp : p < 4294967296) (hk : k ≤ 10000) (w : World) (hT : Tabs w) :
    Calls Tryd.prog 36 #[.int .u32 p, .int .i64 k, .bool true] w (RetPL ((Nt.frm true p).take k) w) := by
  obtain ⟨i0, hi, hz0, hz1, hz2⟩ := info_parts infoU
  go_enter Tryd.func36, Tryd.ntmps36
  go_wp2_with fail
  obtain ⟨W0, hW0⟩ : ∃ W0, W0 = ((w.alloc (.cells #[.int .i64 k] 3)).alloc (.cells #[.slice none 0 0] 49)) := ⟨_, rfl⟩
  have hsz : W0.heap.size = w.heap.size + 2 := by rw [hW0]; simp
  have hc0 : W0.cell? ⟨w.heap.size, 0, none⟩ = some (.int .i64 k) := by rw [hW0]; go_simp
  have bL : Boxed W0 (w.heap.size + 1) 49 (.slice none 0 0) := by
    rw [hW0]
    have b := Boxed.new (w.alloc (.cells #[.int .i64 k] 3)) 49 (.slice none 0 0)
    rwa [World.size_alloc] at b
  have hB0 : Below w.heap.size w W0 := by
    rw [hW0]
    exact ((Below.refl _ w).alloc (Nat.le_refl _) _).alloc (by simp) _
  have hT0 := hT.below hB0
  rw [← hW0]
  clear hW0
  refine (is_any p rfl hp _ hT0).mono ?_
  rintro _ _ ⟨rfl, rfl⟩
  by_cases hq : Nt.isP p = true
  · have H1 := Lib.hid (Nt.frm_yes (down := true) hq)
    go_wp2_with fail
    go_loopg [10, 11] k (fun g q b wr => ∃ (q' : Nat) (b' : Bool) (v : Value) (L : List Nat), q = .int .u32 q' ∧ b = .bool b' ∧ q' < 4294967296 ∧ L.length ≤ k ∧ k - L.length ≤ g ∧ Hid (Nt.frm true p = L ++ if b' then q' :: Nt.aft true q' else []) ∧
      Boxed wr (w.heap.size + 1) 49 v ∧ wr.ownsRow (w.heap.size + 2) 25 1 v L.length (ucells L) ∧ w.heap.size + 2 ≤ wr.heap.size ∧ wr.cell? ⟨w.heap.size, 0, none⟩ = some (.int .i64 k) ∧ Below w.heap.size w wr)
    case atStart => exact ⟨p, true, _, [], rfl, rfl, hp, by simp, by simp, Lib.hid (by rw [H1.out]; rfl), bL, World.ownsRow_nil _ _ _ _, by omega, hc0, hB0⟩
    case round =>
      clear hc0 bL hB0
      obtain ⟨q, b, v, L, rfl, rfl, hq4, hLk, hLg, hI, hv, hrow, hsW, hc0, hB⟩ := hrel
      obtain ⟨a0, cap0, rfl⟩ := row_slice hrow
      have hc := hv.cell
      have hvf := hv.frozen
      by_cases hb : b = true
      · subst hb
        by_cases hlt : (L.length : Int) < k
        · obtain ⟨g, rfl⟩ : ∃ g, gk = g + 1 := ⟨gk - 1, by omega⟩
          go_wp2_with (at_builtin; refine wpList_append_own _ rfl _ _ 49 rfl (w.heap.size + 2) 25 i0 (.int .u32 0) 1 4 Tryd.underlying49 hi hz0 hz1 hz2 rfl (by decide) _ _ _ rfl (hrow.alloc _) ⟨wr.heap.size, 0, none⟩ 1 1 [.int .u32 q] rfl rfl (cell_one_new _ _ _) (by simp [Value.oneCell']) (by unfold maxLen; omega) (by omega) (by simp; omega) ?_; intro v' w1 hown' hgrow _; obtain ⟨g', cap', rfl⟩ := ownsRow_succ hown'; obtain ⟨hv1, hv2, hr2, hk2, hb2, hj2⟩ := box_pushed (m₀ := w.heap.size) hv (by decide) hrow hsW (by omega) (by omega) hown' hgrow; have hc1 := hv1.cell; have hf1 := hv1.frozen)
          have hc3 := (hj2 w.heap.size (by omega) (by omega)).trans hc0
          have hB3 := hB.trans hb2
          have hs3 : w.heap.size + 2 ≤ w1.heap.size := Nat.le_trans hsW (by have := hgrow.size; simp at this; omega)
          refine (Last_any q rfl hq4 _ (hT.below hB3)).mono ?_
          rintro _ _ ⟨z3, y3, rfl, hz3, rfl⟩
          have H3 := Lib.hid (Nt.aft_step (down := true) hz3.out)
          have hz34 : z3 < 4294967296 := Nt.IsStep.lt (down := true) hq4 hz3.out
          go_wp2
          go_roundg g
          case measure => omega
          case rel => exact ⟨z3, y3, _, L ++ [q], rfl, rfl, hz34, by simp; omega, by simp; omega, Lib.hid (by have h1 := hI.out; rw [if_pos trivial, H3.out] at h1; simp [h1]), hv2, by simpa [ucells] using hr2, by simpa using hs3, hc3, hB3⟩
        · go_wp2
          go_ret2
          exact ⟨_, L, rfl, Lib.hid (by rw [hI.out, List.take_append_of_le_length (by omega), List.take_of_length_le (by omega)]), row_base hrow (by omega), hB⟩
      · have hb' : b = false := by simpa using hb
        subst hb'
        go_wp2
        go_ret2
        exact ⟨_, L, rfl, Lib.hid (by have h1 := hI.out; rw [if_neg (by simp), List.append_nil] at h1; rw [h1, List.take_of_length_le (by omega)]), row_base hrow (by omega), hB⟩
  · simp only [Bool.not_eq_true] at hq
    have HQ := Lib.hid hq
    rw [hq]
    clear hq
    go_wp2_with fail
    refine (Last_any p rfl hp _ hT0).mono ?_
    rintro _ _ ⟨z, y, rfl, hz, rfl⟩
    have H1 := Lib.hid (Nt.frm_no (down := true) HQ.out hz.out)
    have hz4 : z < 4294967296 := Nt.IsStep.lt (down := true) hp hz.out
    go_wp2_with fail
    go_loopg [10, 11] k (fun g q b wr => ∃ (q' : Nat) (b' : Bool) (v : Value) (L : List Nat), q = .int .u32 q' ∧ b = .bool b' ∧ q' < 4294967296 ∧ L.length ≤ k ∧ k - L.length ≤ g ∧ Hid (Nt.frm true p = L ++ if b' then q' :: Nt.aft true q' else []) ∧
      Boxed wr (w.heap.size + 1) 49 v ∧ wr.ownsRow (w.heap.size + 2) 25 1 v L.length (ucells L) ∧ w.heap.size + 2 ≤ wr.heap.size ∧ wr.cell? ⟨w.heap.size, 0, none⟩ = some (.int .i64 k) ∧ Below w.heap.size w wr)
    case atStart => exact ⟨z, y, _, [], rfl, rfl, hz4, by simp, by simp, Lib.hid (by rw [H1.out]; rfl), bL, World.ownsRow_nil _ _ _ _, by omega, hc0, hB0⟩
    case round =>
      clear hc0 bL hB0
      obtain ⟨q, b, v, L, rfl, rfl, hq4, hLk, hLg, hI, hv, hrow, hsW, hc0, hB⟩ := hrel
      obtain ⟨a0, cap0, rfl⟩ := row_slice hrow
      have hc := hv.cell
      have hvf := hv.frozen
      by_cases hb : b = true
      · subst hb
        by_cases hlt : (L.length : Int) < k
        · obtain ⟨g, rfl⟩ : ∃ g, gk = g + 1 := ⟨gk - 1, by omega⟩
          go_wp2_with (at_builtin; refine wpList_append_own _ rfl _ _ 49 rfl (w.heap.size + 2) 25 i0 (.int .u32 0) 1 4 Tryd.underlying49 hi hz0 hz1 hz2 rfl (by decide) _ _ _ rfl (hrow.alloc _) ⟨wr.heap.size, 0, none⟩ 1 1 [.int .u32 q] rfl rfl (cell_one_new _ _ _) (by simp [Value.oneCell']) (by unfold maxLen; omega) (by omega) (by simp; omega) ?_; intro v' w1 hown' hgrow _; obtain ⟨g', cap', rfl⟩ := ownsRow_succ hown'; obtain ⟨hv1, hv2, hr2, hk2, hb2, hj2⟩ := box_pushed (m₀ := w.heap.size) hv (by decide) hrow hsW (by omega) (by omega) hown' hgrow; have hc1 := hv1.cell; have hf1 := hv1.frozen)
          have hc3 := (hj2 w.heap.size (by omega) (by omega)).trans hc0
          have hB3 := hB.trans hb2
          have hs3 : w.heap.size + 2 ≤ w1.heap.size := Nat.le_trans hsW (by have := hgrow.size; simp at this; omega)
          refine (Last_any q rfl hq4 _ (hT.below hB3)).mono ?_
          rintro _ _ ⟨z3, y3, rfl, hz3, rfl⟩
          have H3 := Lib.hid (Nt.aft_step (down := true) hz3.out)
          have hz34 : z3 < 4294967296 := Nt.IsStep.lt (down := true) hq4 hz3.out
          go_wp2
          go_roundg g
          case measure => omega
          case rel => exact ⟨z3, y3, _, L ++ [q], rfl, rfl, hz34, by simp; omega, by simp; omega, Lib.hid (by have h1 := hI.out; rw [if_pos trivial, H3.out] at h1; simp [h1]), hv2, by simpa [ucells] using hr2, by simpa using hs3, hc3, hB3⟩
        · go_wp2
          go_ret2
          exact ⟨_, L, rfl, Lib.hid (by rw [hI.out, List.take_append_of_le_length (by omega), List.take_of_length_le (by omega)]), row_base hrow (by omega), hB⟩
      · have hb' : b = false := by simpa using hb
        subst hb'
        go_wp2
        go_ret2
        exact ⟨_, L, rfl, Lib.hid (by have h1 := hI.out; rw [if_neg (by simp), List.append_nil] at h1; rw [h1, List.take_of_length_le (by omega)]), row_base hrow (by omega), hB⟩
end Go.Proofs.YtjnhfakdpnnboaaDoor
