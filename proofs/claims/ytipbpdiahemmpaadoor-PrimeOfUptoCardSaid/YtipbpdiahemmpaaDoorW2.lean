/- prime.Is. -/
import Derived.Test.YtipbpdiahemmpaaDoorW1
import Derived.Test.YtipbpdiahemmpaaDoorMrE
import Derived.Lib.TrailingZeros
import Derived.Laws.Rows
import Derived.Laws.Bits64b
import Derived.Deep.LoopGhost
namespace Go.Proofs.YtipbpdiahemmpaaDoor
open Go.RowKit Go.IntWalk

/-- The two tables, as their initialisers lay them. -/
structure Tabs (w : World) : Prop where
  size : 2 ≤ w.heap.size
  tz : ∀ j, j < 32 → w.cell? ⟨1, j, none⟩ = some (.int .u8 (Lib.deBruijn32tab.getD j 0 : Nat))
  b0 : w.cell? ⟨0, 0, none⟩ = some (.int .u32 2)
  b1 : w.cell? ⟨0, 1, none⟩ = some (.int .u32 7)
  b2 : w.cell? ⟨0, 2, none⟩ = some (.int .u32 61)
theorem Tabs.drewN {w : World} (h : Tabs w) (k : Nat) : Tabs (w.drewN k) := ⟨h.size, h.tz, h.b0, h.b1, h.b2⟩
theorem Tabs.below {w w' : World} (h : Tabs w) (hb : Below w.heap.size w w') : Tabs w' :=
  ⟨Nat.le_trans h.size hb.size, fun j hj => (hb.cell (p := ⟨_, j, none⟩) (Nat.lt_of_lt_of_le (m := 2) (by simp) h.size)).trans (h.tz j hj),
    (hb.cell (p := ⟨_, 0, none⟩) (Nat.lt_of_lt_of_le (m := 2) (by simp) h.size)).trans h.b0, (hb.cell (p := ⟨_, 1, none⟩) (Nat.lt_of_lt_of_le (m := 2) (by simp) h.size)).trans h.b1,
    (hb.cell (p := ⟨_, 2, none⟩) (Nat.lt_of_lt_of_le (m := 2) (by simp) h.size)).trans h.b2⟩

theorem bits_and_u32_nat (a b : Nat) (ha : a < 4294967296) (hb : b < 4294967296) : bits .and .u32 (a : Int) (b : Int) = ((a &&& b : Nat) : Int) := by
  have hx : a &&& b < 2 ^ 32 := Nat.and_lt_two_pow _ (by omega)
  have h1 : (BitVec.ofInt 32 (a : Int)).toNat = a := by
    rw [BitVec.ofInt_natCast, BitVec.toNat_ofNat]; exact Nat.mod_eq_of_lt (by omega)
  have h2 : (BitVec.ofInt 32 (b : Int)).toNat = b := by
    rw [BitVec.ofInt_natCast, BitVec.toNat_ofNat]; exact Nat.mod_eq_of_lt (by omega)
  show IntKind.u32.wrap ((BitVec.ofInt 32 (a : Int) &&& BitVec.ofInt 32 (b : Int)).toNat : Int) = _
  rw [BitVec.toNat_and, h1, h2, IntKind.wrap_u32]
  omega
theorem tz32_key (x a : Nat) (hx : x < 4294967296) (hx0 : x ≠ 0) (hlow : x &&& (4294967296 - x) = a) :
    bits BinOp.and IntKind.u32 (x : Int) (-(x : Int) % 4294967296) * 125613361 % 4294967296 / 134217728 = ((a * 125613361 % 4294967296 / 134217728 : Nat) : Int) := by
  have e1 : -(x : Int) % 4294967296 = ((4294967296 - x : Nat) : Int) := by omega
  rw [e1, bits_and_u32_nat x _ hx (by omega), hlow]
  omega
set_option maxHeartbeats 1000000 in
theorem tz32_core (x k idx : Nat) (w : World) (hx0 : ((x : Int) == 0) = false)
    (key : bits BinOp.and IntKind.u32 (x : Int) (-(x : Int) % 4294967296) * 125613361 % 4294967296 / 134217728 = (idx : Int))
    (hi : idx < 32) (hk : k < 32) (hcell : w.cell? ⟨1, idx, none⟩ = some (.int .u8 k)) :
    Calls Tryd.prog 46 #[.int .u32 x] w fun e w' => e = .returned (.int .i64 k) ∧ w = w' := by
  go_enter Tryd.func46, Tryd.ntmps46
  go_wp2_with (simp only [key])
  go_ret
  exact ⟨rfl, rfl⟩
/-- TrailingZeros32 of what is not 0. -/
theorem tz32_any (x : Nat) {xi : Int} (hxi : xi = x) (hx : x < 4294967296) (hx0 : x ≠ 0) (w : World) (hT : Tabs w) :
    Calls Tryd.prog 46 #[.int .u32 xi] w (RetU .i64 (Lib.ctz 32 x) w) := by
  subst hxi
  obtain ⟨hlow, hk⟩ := Lib.lowest_bit 32 x hx0 hx
  obtain ⟨hi, htab⟩ := Lib.deBruijn32_at _ hk
  have hcell := hT.tz _ hi
  rw [htab] at hcell
  exact (tz32_core x _ _ w (by simp; omega) (tz32_key x _ hx hx0 hlow) hi hk hcell).mono fun _ _ ⟨h1, h2⟩ => ⟨_, h1, Lib.hid rfl, h2⟩
theorem ctz_spec (x : Nat) (hx : x < 4294967296) (hx0 : x ≠ 0) : ∃ d, x = d * 2 ^ Lib.ctz 32 x ∧ d % 2 = 1 ∧ Lib.ctz 32 x < 32 := by
  obtain ⟨m, hm, hk⟩ := Lib.ctzFrom_spec 32 x (by omega) hx
  have e : Lib.ctz 32 x = Lib.ctzFrom 32 x := by simp [Lib.ctz, hx0]
  rw [e]
  exact ⟨2 * m + 1, by rw [Nat.mul_comm]; exact hm, by omega, hk⟩

theorem seven_at (k : Nat) (hk : k < 7) : ∃ q : Nat, 2 ≤ q ∧ q ≤ 61 ∧ Hid (q ∈ Nt.seven ∧ Nt.seven[k]? = some q) ∧
    ∀ w, (Instr.index 66 (.agg #[.int .u32 2, .int .u32 3, .int .u32 5, .int .u32 7, .int .u32 11, .int .u32 13, .int .u32 61]) (.int .i64 k)).run Tryd.prog w = .ok (.int .u32 q) w := by
  match k, hk with
  | 0, _ => exact ⟨2, by decide, by decide, Lib.hid ⟨by decide, rfl⟩, fun _ => by kernel_rfl⟩
  | 1, _ => exact ⟨3, by decide, by decide, Lib.hid ⟨by decide, rfl⟩, fun _ => by kernel_rfl⟩
  | 2, _ => exact ⟨5, by decide, by decide, Lib.hid ⟨by decide, rfl⟩, fun _ => by kernel_rfl⟩
  | 3, _ => exact ⟨7, by decide, by decide, Lib.hid ⟨by decide, rfl⟩, fun _ => by kernel_rfl⟩
  | 4, _ => exact ⟨11, by decide, by decide, Lib.hid ⟨by decide, rfl⟩, fun _ => by kernel_rfl⟩
  | 5, _ => exact ⟨13, by decide, by decide, Lib.hid ⟨by decide, rfl⟩, fun _ => by kernel_rfl⟩
  | 6, _ => exact ⟨61, by decide, by decide, Lib.hid ⟨by decide, rfl⟩, fun _ => by kernel_rfl⟩

/-- A truth value comes back; nothing has turned. -/
def RetB (b : Bool) (w : World) (e : Ending) (w' : World) : Prop := e = .returned (.bool b) ∧ w = w'
theorem ret_b {a b : Bool} (h : a = b) : Ending.returned (.bool a) = .returned (.bool b) := by rw [h]

theorem bases_at (k : Nat) (hk : k < 3) : ∃ b : Nat, 2 ≤ b ∧ b ≤ 61 ∧ Hid ((b = 2 ∨ b = 7 ∨ b = 61) ∧ [2, 7, 61][k]? = some b) ∧
    ∀ w, (Instr.index 68 (.agg #[.int .u32 2, .int .u32 7, .int .u32 61]) (.int .i64 k)).run Tryd.prog w = .ok (.int .u32 b) w := by
  match k, hk with
  | 0, _ => exact ⟨2, by decide, by decide, Lib.hid ⟨by decide, rfl⟩, fun _ => by kernel_rfl⟩
  | 1, _ => exact ⟨7, by decide, by decide, Lib.hid ⟨by decide, rfl⟩, fun _ => by kernel_rfl⟩
  | 2, _ => exact ⟨61, by decide, by decide, Lib.hid ⟨by decide, rfl⟩, fun _ => by kernel_rfl⟩
theorem nat_beq (a b : Nat) : ((a : Int) == (b : Int)) = (a == b) := by
  rw [Bool.eq_iff_iff, beq_iff_eq, beq_iff_eq]; omega
set_option maxHeartbeats 400000 in
theorem is_any (n : Nat) {ni : Int} (hni : ni = n) (hn : n < 4294967296) (w : World) (hT : Tabs w) :
    Calls Tryd.prog 20 #[.int .u32 ni] w (RetB (Nt.isP n) w) := by
  subst hni
  by_cases h2 : n < 2
  · have HP := Lib.hid (Nt.isP_lt h2)
    go_enter Tryd.func20, Tryd.ntmps20
    go_wp2
    go_step3
    go_wp2
    rw [Exit.noGoto_ret]
    go_ret
    exact ⟨ret_b HP.out.symm, rfl⟩
  have h2' : 2 ≤ n := by omega
  clear h2
  go_enter Tryd.func20, Tryd.ntmps20
  go_wp2_with fail
  go_step3
  go_wp2_with fail
  go_loop [4, 13] (fun _ i => ∃ k : Nat, k ≤ 7 ∧ i = .int .i64 k ∧ Hid (∀ j q, j < k → Nt.seven[j]? = some q → n % q ≠ 0)) (fun _ i => 7 - (intOf i).toNat)
  case atStart => exact ⟨0, by omega, rfl, Lib.hid (fun j q hj => by omega)⟩
  case round =>
    obtain ⟨k, hk, rfl, hI⟩ := hrel
    by_cases hk7 : k < 7
    · obtain ⟨q, hq2, hq61, hq, hix⟩ := seven_at k hk7
      have hq0 : 0 < q := by omega
      by_cases hd : n % q = 0
      · have hd' : (n : Int) % q = 0 := by omega
        have HP := Lib.hid (Nt.isP_small hq.out.1 hd)
        clear hd
        go_wp2
        go_ret
        exact ⟨ret_b (by rw [HP.out, nat_beq]), rfl⟩
      · have hd' : ((n : Int) % q == 0) = false := by simp; omega
        have HD := Lib.hid hd
        clear hd
        go_wp2
        go_round
        case rel => exact ⟨k + 1, by omega, by go_num, Lib.hid (fun j r hj hr => by
          by_cases e : j = k
          · subst e
            have := hq.out.2
            rw [hr] at this
            cases this
            exact HD.out
          · exact hI.out j r (by omega) hr)⟩
        case measure => simp [intOf]; omega
    · have hk7' : k = 7 := by omega
      subst hk7'
      clear hk7
      go_wp2_with fail
      refine (tz32_any (n - 1) (by omega) (by omega) (by omega) _ hT).mono ?_
      rintro _ _ ⟨s, rfl, hs, rfl⟩
      obtain ⟨d, hd, ho, hs32⟩ := ctz_spec (n - 1) (by omega) (by omega)
      rw [← hs.out] at hd hs32
      have hdi : ((n : Int) - 1) / 2 ^ s = (d : Int) := by
        have e : (n : Int) - 1 = ((d * 2 ^ s : Nat) : Int) := by rw [← hd]; omega
        rw [e, Int.natCast_mul, Int.natCast_pow]
        exact Int.mul_ediv_cancel _ (by have := Nat.two_pow_pos s; omega)
      have hdb : d < 4294967296 := by
        have := Nat.le_mul_of_pos_right d (Nat.two_pow_pos s)
        omega
      have HD := Lib.hid (And.intro hd ho)
      clear hd ho
      have hb0 := hT.b0
      have hb1 := hT.b1
      have hb2 := hT.b2
      go_wp2_with fail
      clear hdi
      go_step3
      go_wp2_with fail
      go_loopg [33] 3 (fun g i wx => ∃ k : Nat, k + g = 3 ∧ i = .int .i64 k ∧ w = wx ∧ Hid (∀ (j : Nat) b, j < k → [2, 7, 61][j]? = some b → Nt.sprp n b s d = true))
      case atStart => exact ⟨0, by omega, rfl, rfl, Lib.hid (fun j b hj => by omega)⟩
      case round =>
        obtain ⟨k, hkg, rfl, rfl, hJ⟩ := hrel
        by_cases hk3 : k < 3
        · obtain ⟨b, hb2, hb61, hb, hix⟩ := bases_at k hk3
          obtain ⟨g, rfl⟩ : ∃ g, gk = g + 1 := ⟨gk - 1, by omega⟩
          go_wp2_with fail
          refine (power_any b d n rfl rfl rfl (by omega) (by omega) hn (by omega) _).mono ?_
          rintro _ _ ⟨x, rfl, hx, rfl⟩
          clear hix
          have next : Hid (Nt.sprp n b s d = true → ∀ (j : Nat) c, j < k + 1 → [2, 7, 61][j]? = some c → Nt.sprp n c s d = true) := fun hp j c hj hc => by
            by_cases e : j = k
            · subst e
              have := hb.out.2
              rw [hc] at this
              cases this
              exact hp
            · exact hJ.out j c (by omega) hc
          by_cases h1 : x = 1
          · have HP := Lib.hid (next.out (by simp [Nt.sprp, ← hx.out, h1]))
            subst h1
            clear next
            go_wp2
            go_roundg g
            case measure => omega
            case rel => exact ⟨k + 1, by omega, by go_num, rfl, HP⟩
          · have h1' : ((x : Int) == 1) = false := by simp; omega
            have hxb : x < n := by rw [hx.out]; exact Nat.mod_lt _ (by omega)
            have H1 := Lib.hid h1
            clear h1
            by_cases h2 : x = n - 1
            · have HP := Lib.hid (next.out (by simp [Nt.sprp, ← hx.out, h2]))
              have h2i : (x : Int) = (n : Int) - 1 := by omega
              have h2' : ((x : Int) == (n : Int) - 1) = true := by simp [h2i]
              clear next h2 h2i
              go_wp2
              go_roundg g
              case measure => omega
              case rel => exact ⟨k + 1, by omega, by go_num, rfl, HP⟩
            · have h2' : ((x : Int) == (n : Int) - 1) = false := by simp; omega
              have HC := Lib.hid (show Nt.sprp n b s d = Nt.chain (s - 1) n x by
                have e1 : (b ^ d % n == 1) = false := by rw [← hx.out]; simpa using H1.out
                have e2 : (b ^ d % n == n - 1) = false := by rw [← hx.out]; simpa using h2
                simp only [Nt.sprp, e1, e2, Bool.false_or]
                rw [hx.out])
              clear h2
              go_wp2_with fail
              go_loopg [9, 50] s (fun g y i wx => ∃ (y' j : Nat), j + g = s ∧ y = .int .u32 y' ∧ i = .int .i64 j ∧ w = wx ∧ y' < n ∧ Hid (Nt.chain (s - 1 - j) n y' = Nt.sprp n b s d))
              case atStart => exact ⟨x, 0, by omega, rfl, rfl, rfl, hxb, Lib.hid HC.out.symm⟩
              case round =>
                clear hx HC H1 h1' h2' hxb
                obtain ⟨y, j, hjg, rfl, rfl, rfl, hy, hc⟩ := hrel
                by_cases hj : (j : Int) < (s : Int) - 1
                · obtain ⟨g2, rfl⟩ : ∃ g2, gk = g2 + 1 := ⟨gk - 1, by omega⟩
                  go_wp2_with fail
                  refine (times_any y y n rfl rfl rfl (by omega) (by omega) hn (by omega) _).mono ?_
                  rintro _ _ ⟨z, rfl, hz, rfl⟩
                  have hzb : z < n := by rw [hz.out]; exact Nat.mod_lt _ (by omega)
                  by_cases h3 : z = n - 1
                  · have HP := Lib.hid (next.out (by
                      rw [← hc.out, show s - 1 - j = (s - 1 - j - 1) + 1 by omega]
                      simp [Nt.chain, ← hz.out, h3]))
                    have h3i : (z : Int) = (n : Int) - 1 := by omega
                    have h3' : ((z : Int) == (n : Int) - 1) = true := by simp [h3i]
                    clear next h3 h3i
                    go_wp2
                    go_roundg g
                    case measure => omega
                    case rel => exact ⟨k + 1, by omega, by go_num, rfl, HP⟩
                  · have h3' : ((z : Int) == (n : Int) - 1) = false := by simp; omega
                    have HC := Lib.hid (show Nt.chain (s - 1 - (j + 1)) n z = Nt.sprp n b s d by
                      rw [← hc.out, show s - 1 - j = (s - 1 - (j + 1)) + 1 by omega]
                      have e3 : (y * y % n == n - 1) = false := by rw [← hz.out]; simpa using h3
                      simp only [Nt.chain, e3, Bool.false_or]
                      rw [hz.out])
                    clear h3
                    go_wp2
                    go_roundg g2
                    case measure => omega
                    case rel => exact ⟨z, j + 1, by omega, rfl, by go_num, rfl, hzb, HC⟩
                · have HP := Lib.hid (show Nt.isP n = false by
                    have hc' := hc.out
                    rw [show s - 1 - j = 0 by omega] at hc'
                    exact Nt.isP_fail (fun q hq => by
                      obtain ⟨j, hj, he⟩ := List.mem_iff_getElem.1 hq
                      exact hI.out j q (by simpa [Nt.seven] using hj) (by rw [List.getElem?_eq_getElem hj, he])) hb.out.1 (by
                      have h2 := hI.out 0 2 (by omega) rfl
                      have h4 := HD.out.1
                      have h5 := HD.out.2
                      rcases Nat.eq_zero_or_pos s with e | e
                      · rw [e] at h4
                        omega
                      · exact e) HD.out.1 hc'.symm)
                  clear next
                  go_wp2
                  go_ret
                  exact ⟨ret_b HP.out.symm, rfl⟩
        · have hk3' : k = 3 := by omega
          subst hk3'
          clear hk3
          have HP := Lib.hid (Nt.isP_pass h2' hn (fun q hq => by
            obtain ⟨j, hj, he⟩ := List.mem_iff_getElem.1 hq
            exact hI.out j q (by simpa [Nt.seven] using hj) (by rw [List.getElem?_eq_getElem hj, he])) HD.out.1 HD.out.2
            (hJ.out 0 2 (by omega) rfl) (hJ.out 1 7 (by omega) rfl) (hJ.out 2 61 (by omega) rfl))
          go_wp2
          rw [Exit.noGoto_ret]
          go_ret
          exact ⟨ret_b HP.out.symm, rfl⟩
end Go.Proofs.YtipbpdiahemmpaaDoor
