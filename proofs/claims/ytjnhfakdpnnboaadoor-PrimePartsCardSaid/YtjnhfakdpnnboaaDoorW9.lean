/- The factors of a number, by the program and by the reference. -/
import Derived.Test.YtjnhfakdpnnboaaDoorW8
import Derived.Test.YtjnhfakdpnnboaaDoorNt6
import Derived.OwnWalk
import Derived.WalkSmall
import Derived.Deep.LoopGhost
namespace Go.Proofs.YtjnhfakdpnnboaaDoor
open Go.RowKit Go.IntWalk

theorem infoF : (Tryd.prog.info? 63).map (fun i => (i.zero, i.size, i.bytes)) = some (some (.agg #[.int .u32 0, .int .i64 0]), 2, 16) := by kernel_rfl
/-- The cells of a list of factors. -/
def fcells (L : List (Nat × Nat)) : List Value := L.flatMap fun x => [Value.int .u32 x.1, Value.int .i64 x.2]
theorem fcells_append (L M : List (Nat × Nat)) : fcells (L ++ M) = fcells L ++ fcells M := by simp [fcells]
theorem fcells_one (p k : Nat) : fcells [(p, k)] = [Value.int .u32 p, Value.int .i64 k] := rfl
/-- A list of factors comes back in new memory. -/
def RetF (n : Nat) (w : World) (e : Ending) (w' : World) : Prop :=
  ∃ (v : Value) (L : List (Nat × Nat)), e = .returned v ∧ Hid (Nt.IsFac n L) ∧ w'.ownsRow w.heap.size 63 2 v L.length (fcells L) ∧ Below w.heap.size w w'

theorem cell_two_new (w : World) (x y : Value) (t : TypeId) : ∀ j u, [x, y][j]? = some u → (w.alloc (.cells #[x, y] t)).cell? ((⟨w.heap.size, 0, none⟩ : Addr).add j) = some u := by
  intro j u hj
  match j, hj with
  | 0, hj => simp at hj; subst hj; simp [Addr.add]
  | 1, hj => simp at hj; subst hj; simp [Addr.add]
  | (j + 2), hj => simp at hj
theorem own_block {w : World} {base : Nat} {e : TypeId} {size : Nat} {v : Value} {n : Nat} {xs : List Value} (h : w.ownsRow base e size v n xs) : ∀ k, v.ownBlock = some k → base ≤ k := by
  intro k hk
  rcases h.2 with ⟨rfl, _⟩ | ⟨g, cap, cur, rfl, hb, _⟩
  · cases hk
  · cases hk; exact hb
/-- One factor more. -/
theorem fac_more {w W w1 : World} {v v' : Value} {L : List (Nat × Nat)} {p k : Nat} {T t : TypeId} (hB : Below w.heap.size w W) (hown : W.ownsRow w.heap.size T 2 v L.length (fcells L))
    (hown' : w1.ownsRow w.heap.size T 2 v' (L.length + 1) (fcells L ++ [Value.int .u32 p, Value.int .i64 k])) (hg : (W.alloc (.cells #[Value.int .u32 p, Value.int .i64 k] t)).grownBy w1 v.ownBlock) :
    w1.ownsRow w.heap.size T 2 v' (L ++ [(p, k)]).length (fcells (L ++ [(p, k)])) ∧ Below w.heap.size w w1 := by
  refine ⟨?_, (hB.alloc hB.size _).grown hg (by have := hB.size; simp; omega) (own_block hown)⟩
  rw [fcells_append, fcells_one, List.length_append]
  exact hown'
theorem len32 {n k : Nat} (h : 2 ^ k ≤ n) (hn : n < 4294967296) : k < 32 := by
  apply Classical.byContradiction
  intro hc
  have : 2 ^ 32 ≤ 2 ^ k := Nat.pow_le_pow_right (by omega) (by omega)
  omega

set_option maxRecDepth 20000 in
set_option maxHeartbeats 2000000 in
theorem factors_any (n : Nat) {ni : Int} (hni : ni = n) (hn : n < 4294967296) (h0 : 0 < n) (w : World) :
    Calls Tryd.prog 42 #[.int .u32 ni] w (RetF n w) := by
  subst hni
  obtain ⟨i0, hi, hz0, hz1, hz2⟩ := info_parts infoF
  have HST := Lib.hid (Nt.Fs.start h0)
  have h0' : ((n : Int) == 0) = false := by simp; omega
  go_enter Tryd.func42, Tryd.ntmps42
  go_wp2_with fail
  go_loopg [0, 3, 4] 65537 (fun g n' l q wr => ∃ (m q' : Nat) (L : List (Nat × Nat)), 65537 - q' ≤ g ∧ n' = .int .u32 m ∧ q = .int .u32 q' ∧ q' ≤ 65536 ∧ 2 ≤ q' ∧ m < 4294967296 ∧ L.length < 32 ∧ Hid (Nt.Fs n m q' L) ∧
    wr.ownsRow w.heap.size 63 2 l L.length (fcells L) ∧ Below w.heap.size w wr)
  case atStart => exact ⟨n, 2, [], by omega, rfl, rfl, by omega, by omega, hn, by simp, HST, ⟨rfl, .inl ⟨rfl, rfl⟩⟩, Below.refl _ _⟩
  case round =>
    clear HST h0' h0
    obtain ⟨m, q, L, hqg, rfl, rfl, hq6, hq2, hm, hL, hF, hown, hB⟩ := hrel
    have hdd : (q : Int) * q ≤ 4294967296 := by
      have := Nat.mul_le_mul hq6 hq6
      have e : (q : Int) * q = ((q * q : Nat) : Int) := by simp
      omega
    have hdd0 : 0 ≤ (q : Int) * q := by
      have e : (q : Int) * q = ((q * q : Nat) : Int) := by simp
      omega
    by_cases hle : (q : Int) * q ≤ m
    · have hqs : q ≤ 65535 := by
        apply Classical.byContradiction
        intro hgt
        have := Nat.mul_le_mul (show 65536 ≤ q by omega) (show 65536 ≤ q by omega)
        have e : (q : Int) * q = ((q * q : Nat) : Int) := by simp
        omega
      obtain ⟨g, rfl⟩ : ∃ g, gk = g + 1 := ⟨gk - 1, by omega⟩
      obtain ⟨W, rfl⟩ : ∃ W : World, W = wr := ⟨_, rfl⟩
      have hm0 := hF.out.pos
      go_wp2_with fail
      go_loopg [0, 5] m (fun g n' t wx => ∃ m' t' : Nat, m' ≤ g ∧ n' = .int .u32 m' ∧ t = .int .i64 t' ∧ 0 < m' ∧ m' ≤ m ∧ t' ≤ 40 ∧ W = wx ∧ Hid (m = q ^ t' * m'))
      case atStart => exact ⟨m, 0, by omega, rfl, rfl, by omega, by omega, by omega, rfl, Lib.hid (by simp)⟩
      case round =>
        obtain ⟨m', t, hmg, rfl, rfl, hm0', hmm, ht40, rfl, hM⟩ := hrel
        by_cases hd : m' % q = 0
        · have hd' : (m' : Int) % q = 0 := emod_zero rfl hd
          have hdm := Nat.mul_div_cancel' (Nat.dvd_of_mod_eq_zero hd)
          have hlt : m' / q < m' := Nat.div_lt_self hm0' (by omega)
          have hpos : 0 < m' / q := by
            rcases Nat.eq_zero_or_pos (m' / q) with e | e
            · rw [e] at hdm; omega
            · exact e
          have HM := Lib.hid (show m = q ^ (t + 1) * (m' / q) by rw [Nat.pow_succ, Nat.mul_assoc, hdm, hM.out])
          have ht32 : t + 1 < 32 := by
            refine len32 (n := m) ?_ hm
            have h1 : 2 ^ (t + 1) ≤ q ^ (t + 1) := Nat.pow_le_pow_left hq2 _
            have h2 : q ^ (t + 1) * 1 ≤ q ^ (t + 1) * (m' / q) := Nat.mul_le_mul_left _ hpos
            have h3 := HM.out
            omega
          obtain ⟨g2, rfl⟩ : ∃ g, gk = g + 1 := ⟨gk - 1, by omega⟩
          have hdi : (m' : Int) / q ≤ m' := Int.ediv_le_self _ (by omega)
          have hdi0 : 0 ≤ (m' : Int) / q := Int.ediv_nonneg (by omega) (by omega)
          clear hd hdm
          go_wp2
          go_roundg g2
          case measure => omega
          case rel => exact ⟨m' / q, t + 1, by omega, int_i rfl, by go_num, hpos, by omega, by omega, rfl, HM⟩
        · have hd' : ((m' : Int) % q == 0) = false := emod_ne rfl hd
          have HD := Lib.hid hd
          clear hd
          by_cases ht : 0 < t
          · have HF := Lib.hid (hF.out.take hM.out ht HD.out)
            have hL' := len32 HF.out.len hn
            go_wp2_with (at_builtin; refine wpList_append_own _ rfl _ _ 59 rfl w.heap.size 63 i0 (.agg #[.int .u32 0, .int .i64 0]) 2 16 Tryd.underlying59 hi hz0 hz1 hz2 rfl (by decide) _ _ _ rfl (hown.alloc _) ⟨W.heap.size, 0, none⟩ 1 1 [.int .u32 q, .int .i64 t] rfl rfl (cell_two_new _ _ _ _) (by simp [Value.oneCell']) (by unfold maxLen; omega) (by omega) (by have := hB.size; simp; omega) ?_; intro v' w1 hown' hgrow _)
            have hmore := fac_more hB hown hown' hgrow
            have HO := Lib.hid hmore
            clear hmore hown' hgrow hown hB
            go_wp2
            go_roundg g
            case measure => omega
            case rel => exact ⟨m', q + 1, L ++ [(q, t)], by omega, rfl, by go_num, by omega, by omega, by omega, hL', HF, HO.out.1, HO.out.2⟩
          · have ht0 : t = 0 := by omega
            have HF := Lib.hid (show Nt.Fs n m (q + 1) L from hF.out.skip (by
              have h1 := hM.out
              rw [ht0, Nat.pow_zero, Nat.one_mul] at h1
              rw [h1]; exact HD.out))
            have hmm' := Lib.hid (show m' = m by
              have h1 := hM.out
              rw [ht0, Nat.pow_zero, Nat.one_mul] at h1
              exact h1.symm)
            subst ht0
            clear ht
            go_wp2
            go_roundg g
            case measure => omega
            case rel => exact ⟨m', q + 1, L, by omega, rfl, by go_num, by omega, by omega, by omega, hL, by rw [hmm'.out]; exact HF, hown, hB⟩
    · have hlt : m < q * q := by
        have e : (q : Int) * q = ((q * q : Nat) : Int) := by simp
        omega
      by_cases h2 : 1 < m
      · have HF := Lib.hid (hF.out.done (by omega) hlt)
        have hL' := len32 HF.out.len hn
        clear hlt hF
        go_wp2_with (at_builtin; refine wpList_append_own _ rfl _ _ 59 rfl w.heap.size 63 i0 (.agg #[.int .u32 0, .int .i64 0]) 2 16 Tryd.underlying59 hi hz0 hz1 hz2 rfl (by decide) _ _ _ rfl (hown.alloc _) ⟨wr.heap.size, 0, none⟩ 1 1 [.int .u32 m, .int .i64 1] rfl rfl (cell_two_new _ _ _ _) (by simp [Value.oneCell']) (by unfold maxLen; omega) (by omega) (by have := hB.size; simp; omega) ?_; intro v' w1 hown' hgrow _)
        have hmore := fac_more (k := 1) hB hown hown' hgrow
        go_ret
        exact ⟨_, _, rfl, HF, hmore.1, hmore.2⟩
      · have hm1 : m = 1 := by have := hF.out.pos; omega
        subst hm1
        have HF := Lib.hid hF.out.done_one
        clear hlt hF h2
        go_wp2
        go_ret
        exact ⟨_, _, rfl, HF, hown, hB⟩
end Go.Proofs.YtjnhfakdpnnboaaDoor
