/- The laws' walks: the laws of a field. -/
import Derived.Test.YtjnhfakdpnnboaaDoorL4
namespace Go.Proofs.YtjnhfakdpnnboaaDoor
open Go.RowKit Go.IntWalk

/-- A box of four numbers. -/
structure Box4 (W : World) (B : Nat) (x0 x1 x2 x3 : Nat) : Prop where
  lt : B < W.heap.size
  c0 : W.cell? ⟨B, 0, none⟩ = some (.int .u32 x0)
  c1 : W.cell? ⟨B, 1, none⟩ = some (.int .u32 x1)
  c2 : W.cell? ⟨B, 2, none⟩ = some (.int .u32 x2)
  c3 : W.cell? ⟨B, 3, none⟩ = some (.int .u32 x3)
theorem Box4.below {W W' : World} {B x0 x1 x2 x3 : Nat} (h : Box4 W B x0 x1 x2 x3) (hb : Below W.heap.size W W') : Box4 W' B x0 x1 x2 x3 :=
  ⟨Nat.lt_of_lt_of_le h.lt hb.size, (hb.cell (p := ⟨B, 0, none⟩) h.lt).trans h.c0, (hb.cell (p := ⟨B, 1, none⟩) h.lt).trans h.c1, (hb.cell (p := ⟨B, 2, none⟩) h.lt).trans h.c2, (hb.cell (p := ⟨B, 3, none⟩) h.lt).trans h.c3⟩

theorem box4_new (w : World) (x0 x1 x2 x3 : Nat) (t : TypeId) : Box4 (w.alloc (.cells #[.int .u32 x0, .int .u32 x1, .int .u32 x2, .int .u32 x3] t)) w.heap.size x0 x1 x2 x3 :=
  ⟨by simp, by go_simp, by go_simp, by go_simp, by go_simp⟩
theorem law_dist (a b c p : Nat) : a * ((b + c) % p) % p = (a * b % p + a * c % p) % p := by
  rw [Nat.mul_mod, Nat.mod_mod, ← Nat.mul_mod, Nat.mul_add, Nat.add_mod]
theorem law_neg (a p : Nat) (hp : 0 < p) : (a + (0 % p + p - a % p) % p) % p = 0 := by
  have h := Nat.mod_lt a hp
  have e := Nat.div_add_mod a p
  rw [Nat.add_mod, Nat.mod_mod, ← Nat.add_mod, Nat.zero_mod, Nat.zero_add]
  have e2 : a + (p - a % p) = p * (a / p + 1) := by rw [Nat.mul_add, Nat.mul_one]; omega
  rw [e2, Nat.mul_mod_right]
theorem law_quo {a b p : Nat} (hp : Nt.Pr p) (hb : ¬ b % p = 0) : a * b % p * (b ^ (p - 2) % p) % p = a % p := by
  have h := Nt.inv_pow hp hb
  rw [Nat.mul_comm] at h
  rw [Nat.mul_mod, Nat.mod_mod, ← Nat.mul_mod, Nat.mul_assoc, Nat.mul_mod, h, Nat.mul_one, Nat.mod_mod]

set_option maxRecDepth 100000 in
set_option maxHeartbeats 4000000 in
theorem walk_PrimeLaws (a : Nat) (ha : a < 4294967296) (b : Nat) (hb : b < 4294967296) (c : Nat) (hc : c < 4294967296) (p : Nat) (hp : p < 4294967296) (w : World) (hT0 : Tabs w) :
    Calls Tryd.prog 8 #[.agg #[.int .u32 a, .int .u32 b, .int .u32 c, .int .u32 p]] w (RetT w) := by
  have hT := hT0.alloc (.cells #[.int .u32 a, .int .u32 b, .int .u32 c, .int .u32 p] 42)
  by_cases hpr : Nt.Pr p
  · have HP := Lib.hid hpr
    have hpp := hpr.pos
    clear hpr
    go_enter Tryd.func8, Tryd.ntmps8
    go_wp2_with fail
    refine (refIs_true HP.out rfl hp _).mono ?_
    rintro _ _ ⟨rfl, rfl⟩
    go_wp2_with fail
    refine (mul_ok a b p rfl rfl rfl ha hb hp HP.out _ hT).mono ?_
    rintro _ w1 ⟨ab, rfl, hab, hb1⟩
    have hB1 : Below w.heap.size w w1 := ((Below.refl _ _).alloc (Nat.le_refl _) _).trans (hb1.mono (by simp))
    have hT1 := hT.below hb1
    have hX1 := (box4_new w a b c p 42).below hb1
    clear hb1 hT
    have abb : ab < 4294967296 := by have : ab < p := (by rw [hab.out]; exact Nat.mod_lt _ hpp); omega
    have c0 := hX1.c0
    have c1 := hX1.c1
    have c2 := hX1.c2
    have c3 := hX1.c3
    go_wp2_with fail
    clear c0 c1 c2 c3
    refine (add_ok b c p rfl rfl rfl hb hc hp HP.out _ hT1).mono ?_
    rintro _ w2 ⟨bc, rfl, hbc, hb2⟩
    have hB2 := hB1.trans (hb2.mono hB1.size)
    have hT2 := hT1.below hb2
    have hX2 := hX1.below hb2
    clear hb2 hB1 hT1 hX1
    have bcb : bc < 4294967296 := by have : bc < p := (by rw [hbc.out]; exact Nat.mod_lt _ hpp); omega
    have c0 := hX2.c0
    have c1 := hX2.c1
    have c2 := hX2.c2
    have c3 := hX2.c3
    go_wp2_with fail
    clear c0 c1 c2 c3
    refine (mul_ok a c p rfl rfl rfl ha hc hp HP.out _ hT2).mono ?_
    rintro _ w3 ⟨ac, rfl, hac, hb3⟩
    have hB3 := hB2.trans (hb3.mono hB2.size)
    have hT3 := hT2.below hb3
    have hX3 := hX2.below hb3
    clear hb3 hB2 hT2 hX2
    have acb : ac < 4294967296 := by have : ac < p := (by rw [hac.out]; exact Nat.mod_lt _ hpp); omega
    have c0 := hX3.c0
    have c1 := hX3.c1
    have c2 := hX3.c2
    have c3 := hX3.c3
    go_wp2_with fail
    clear c0 c1 c2 c3
    refine (mul_ok a bc p rfl rfl rfl ha bcb hp HP.out _ hT3).mono ?_
    rintro _ w4 ⟨left, rfl, hleft, hb4⟩
    have hB4 := hB3.trans (hb4.mono hB3.size)
    have hT4 := hT3.below hb4
    have hX4 := hX3.below hb4
    clear hb4 hB3 hT3 hX3
    have c0 := hX4.c0
    have c1 := hX4.c1
    have c2 := hX4.c2
    have c3 := hX4.c3
    go_wp2_with fail
    clear c0 c1 c2 c3
    refine (add_ok ab ac p rfl rfl rfl abb acb hp HP.out _ hT4).mono ?_
    rintro _ w5 ⟨right, rfl, hright, hb5⟩
    have hB5 := hB4.trans (hb5.mono hB4.size)
    have hT5 := hT4.below hb5
    have hX5 := hX4.below hb5
    clear hb5 hB4 hT4 hX4
    have c0 := hX5.c0
    have c1 := hX5.c1
    have c2 := hX5.c2
    have c3 := hX5.c3
    go_wp2_with fail
    clear c0 c1 c2 c3
    refine (mul_ok b a p rfl rfl rfl hb ha hp HP.out _ hT5).mono ?_
    rintro _ w6 ⟨ba, rfl, hba, hb6⟩
    have hB6 := hB5.trans (hb6.mono hB5.size)
    have hT6 := hT5.below hb6
    have hX6 := hX5.below hb6
    clear hb6 hB5 hT5 hX5
    have c0 := hX6.c0
    have c1 := hX6.c1
    have c2 := hX6.c2
    have c3 := hX6.c3
    go_wp2_with fail
    clear c0 c1 c2 c3
    refine (neg_ok a p rfl rfl ha hp HP.out _ hT6).mono ?_
    rintro _ w7 ⟨n, rfl, hn, hb7⟩
    have hB7 := hB6.trans (hb7.mono hB6.size)
    have hT7 := hT6.below hb7
    have hX7 := hX6.below hb7
    clear hb7 hB6 hT6 hX6
    have nb : n < 4294967296 := by have : n < p := (by rw [hn.out]; exact Nat.mod_lt _ hpp); omega
    have c0 := hX7.c0
    have c1 := hX7.c1
    have c2 := hX7.c2
    have c3 := hX7.c3
    go_wp2_with fail
    clear c0 c1 c2 c3
    refine (add_ok a n p rfl rfl rfl ha nb hp HP.out _ hT7).mono ?_
    rintro _ w8 ⟨o, rfl, ho, hb8⟩
    have hB8 := hB7.trans (hb8.mono hB7.size)
    have hT8 := hT7.below hb8
    have hX8 := hX7.below hb8
    clear hb8 hB7 hT7 hX7
    obtain rfl : left = right := by rw [hleft.out, hright.out, hbc.out, hab.out, hac.out]; exact law_dist a b c p
    obtain rfl : ab = ba := by rw [hab.out, hba.out, Nat.mul_comm]
    obtain rfl : o = 0 := by rw [ho.out, hn.out]; exact law_neg a p hpp
    have c0 := hX8.c0
    have c1 := hX8.c1
    have c2 := hX8.c2
    have c3 := hX8.c3
    go_wp2_with (go_at_call 15; refine (num_any _ _).mono ?_; rintro _ _ ⟨rfl, rfl⟩)
    by_cases hzb : b % p = 0
    · have hzb' : (b : Int) % p = 0 := emod_zero rfl hzb
      have HZB := Lib.hid hzb
      clear hzb c0 c1 c2 c3
      refine ((quo_zero ab b p rfl rfl rfl hp HP.out HZB.out _ hT8).mono fun _ _ => RetED.toE).mono ?_
      rintro _ w9 ⟨q, rfl, hq, hb9⟩
      have hB9 := hB8.trans (hb9.mono hB8.size)
      have hT9 := hT8.below hb9
      have hX9 := hX8.below hb9
      clear hb9 hB8 hT8 hX8
      have c0 := hX9.c0
      have c1 := hX9.c1
      have c2 := hX9.c2
      have c3 := hX9.c3
      obtain rfl : q = 0 := hq.out
      go_wp2_with (go_at_call 15; refine (num_any _ _).mono ?_; rintro _ _ ⟨rfl, rfl⟩)
      refine (awake_any _ hT9).mono ?_
      rintro _ w10 ⟨rfl, hb10⟩
      go_wp2
      go_ret
      exact ⟨rfl, hB9.trans (hb10.mono hB9.size)⟩
    · have hzb' : ((b : Int) % p == 0) = false := emod_ne rfl hzb
      have HZB := Lib.hid hzb
      clear hzb c0 c1 c2 c3
      refine ((quo_ok ab b p rfl rfl rfl abb hb hp HP.out HZB.out _ hT8).mono fun _ _ => RetED.toE).mono ?_
      rintro _ w9 ⟨q, rfl, hq, hb9⟩
      have hB9 := hB8.trans (hb9.mono hB8.size)
      have hT9 := hT8.below hb9
      have hX9 := hX8.below hb9
      clear hb9 hB8 hT8 hX8
      have c0 := hX9.c0
      have c1 := hX9.c1
      have c2 := hX9.c2
      have c3 := hX9.c3
      have hqi : (a : Int) % p = (q : Int) := by rw [hq.out, hab.out, law_quo HP.out HZB.out]; rfl
      go_wp2_with (go_at_call 15; refine (num_any _ _).mono ?_; rintro _ _ ⟨rfl, rfl⟩)
      refine (awake_any _ hT9).mono ?_
      rintro _ w10 ⟨rfl, hb10⟩
      go_wp2
      go_ret
      exact ⟨rfl, hB9.trans (hb10.mono hB9.size)⟩
  · have HP := Lib.hid hpr
    clear hpr
    go_enter Tryd.func8, Tryd.ntmps8
    go_wp2_with fail
    refine (refIs_false HP.out rfl hp _).mono ?_
    rintro _ _ ⟨rfl, rfl⟩
    go_wp2_with fail
    refine (awake_any _ hT).mono ?_
    rintro _ w1 ⟨rfl, hb1⟩
    go_wp2
    go_ret
    exact ⟨rfl, (((Below.refl _ _).alloc (Nat.le_refl _) _).trans (hb1.mono (by simp)))⟩
end Go.Proofs.YtjnhfakdpnnboaaDoor
