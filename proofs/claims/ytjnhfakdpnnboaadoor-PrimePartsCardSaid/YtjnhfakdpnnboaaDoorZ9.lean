/- Sorting words: the sort that beats the patterns. -/
import Derived.Test.YtjnhfakdpnnboaaDoorZ8
import Derived.Sort.LotD3
namespace Go.Proofs.YtjnhfakdpnnboaaDoor
open Go.RowKit Go.IntWalk Go.Sort

/-- The row's part from a' to b' is left: whoever sorts it sorts the whole part from a to b. -/
def PG (n a b : Nat) (d : Array Nat) (a' b' : Nat) (dx : Array Nat) : Prop :=
  dx.size = n ∧ Below ltN a' b' dx ∧ ∀ R, PermIn a' b' dx R → SortedIn ltN a' b' R → PermIn a b d R ∧ SortedIn ltN a b R
theorem PG.perm {n a b a' b' : Nat} {d dx dy : Array Nat} (h : PG n a b d a' b' dx) (hb : b' ≤ n) (hp : PermIn a' b' dx dy) : PG n a b d a' b' dy :=
  ⟨hp.1.trans h.1, h.2.1.perm (by rw [h.1]; exact hb) hp, fun R h1 h2 => h.2.2 R (permIn_trans _ _ _ _ _ hp h1) h2⟩
theorem PG.start {n a b : Nat} {d : Array Nat} (hn : d.size = n) (hB : Below ltN a b d) : PG n a b d a b d := ⟨hn, hB, fun _ h1 h2 => ⟨h1, h2⟩⟩
theorem PG.eq {n a b a' b' p mid : Nat} {d dx d4 : Array Nat} (h : PG n a b d a' b' dx) (ha : 0 < a') (hp1 : a' ≤ p) (hp2 : p < b') (hb : b' ≤ n) (hl : ltN dx[a' - 1]! dx[p]! = false) (hx : partitionEqual ltN dx a' b' p = (mid, d4)) :
    a' < mid ∧ mid ≤ b' ∧ PG n a b d mid b' d4 := by
  obtain ⟨h1, h2, h3, h4, h5⟩ := round_eq swoN (partitionEqual_holds ltN) ha hp1 hp2 (by rw [h.1]; exact hb) h.2.1 hl hx
  exact ⟨h1, h2, h3.trans h.1, h4, fun R hR hs => h.2.2 R (h5 R hR hs).1 (h5 R hR hs).2⟩
theorem PG.part {n a b a' b' p mid : Nat} {ap : Bool} {d dx d4 : Array Nat} (h : PG n a b d a' b' dx) (hp1 : a' ≤ p) (hp2 : p < b') (hb : b' ≤ n) (hx : partition ltN dx a' b' p = (mid, ap, d4)) :
    a' ≤ mid ∧ mid < b' ∧ d4.size = n ∧ Below ltN a' mid d4 ∧ Below ltN (mid + 1) b' d4 ∧
    (∀ L, PermIn a' mid d4 L → SortedIn ltN a' mid L → PG n a b d (mid + 1) b' L) ∧
    (∀ L, PermIn (mid + 1) b' d4 L → SortedIn ltN (mid + 1) b' L → PG n a b d a' mid L) := by
  obtain ⟨h1, h2, h3, h4, h5, h6, h7⟩ := round_part swoN (partition_holds ltN) hp1 hp2 (by rw [h.1]; exact hb) h.2.1 hx
  refine ⟨h1, h2, h3.trans h.1, h4, h5, fun L hL hs => ?_, fun L hL hs => ?_⟩
  · obtain ⟨k1, k2⟩ := h6 L hL hs
    exact ⟨hL.1.trans (h3.trans h.1), k1, fun R hR hsR => h.2.2 R (k2 R hR hsR).1 (k2 R hR hsR).2⟩
  · obtain ⟨k1, k2⟩ := h7 L hL hs
    exact ⟨hL.1.trans (h3.trans h.1), k1, fun R hR hsR => h.2.2 R (k2 R hR hsR).1 (k2 R hR hsR).2⟩
/-- The part from a to b is sorted. -/
def RetPd (g : Nat) (rest : List Value) (a b : Nat) (d : Array Nat) (w : World) (e : Ending) (w' : World) : Prop := e = .returned (.tuple #[]) ∧ ∃ d', SB w' g d' rest ∧ (PermIn a b d d' ∧ SortedIn ltN a b d') ∧ Ox g w w'
set_option maxRecDepth 100000 in
set_option maxHeartbeats 8000000 in
theorem pdq_any (s : Nat) : ∀ (g n cap : Nat) (d : Array Nat) (rest : List Value) (w : World) (_ : SB w g d rest) (_ : d.size = n) (a b : Nat) (L : Int) (_ : b - a < s) (_ : a ≤ b) (_ : b ≤ n) (_ : Below ltN a b d) (_ : n ≤ 1099511627776),
    Calls Tryd.prog 68 #[.slice (some ⟨g, 0, none⟩) n cap, .int .i64 a, .int .i64 b, .int .i64 L] w (RetPd g rest a b d w) := by
  induction s with
  | zero => intro g n cap d rest w _ _ a b L h; omega
  | succ s ih =>
  intro g n cap d rest w hS hn a b L hs hab hb hB hsz
  have IH := Lib.hid ih
  have HN := Lib.hid (PG.start hn hB)
  clear ih hn hB
  go_enter Tryd.func68, Tryd.ntmps68
  go_wp2_with fail
  go_loopw [1, 2, 3, 8, 9] (fun av bv lv wbv wpv wr => ∃ (a' b' : Nat) (L' : Int) (wb wp : Bool) (dk : Array Nat), av = .int .i64 a' ∧ bv = .int .i64 b' ∧ lv = .int .i64 L' ∧ wbv = .bool wb ∧ wpv = .bool wp ∧ (a ≤ a' ∧ a' ≤ b' ∧ b' ≤ b) ∧ SB wr g dk rest ∧ Hid (PG n a b d a' b' dk) ∧ Hid (Ox g w wr)) (fun av bv _ _ _ _ => (intOf bv - intOf av).toNat)
  case atStart => exact ⟨a, b, L, true, true, d, rfl, rfl, rfl, rfl, rfl, by omega, hS, HN, Lib.hid (Ox.refl _ _)⟩
  case round =>
    clear hS
    obtain ⟨a', b', L', wb, wp, dk, rfl, rfl, rfl, rfl, rfl, hR, hS, HG, hO⟩ := hrel
    obtain ⟨l, hl⟩ : ∃ x, x = b' - a' := ⟨_, rfl⟩
    have e1 : (b' : Int) - a' = (l : Int) := by omega
    have hb'n : b' ≤ n := by omega
    have hln : l ≤ n := by omega
    have HR := Lib.hid (show a ≤ a' ∧ a' ≤ b' ∧ b' ≤ b ∧ l + a' = b' by omega)
    clear hR hl
    by_cases h12 : l ≤ 12
    · have g12 : decide ((l : Int) ≤ 12) = true := by simp; omega
      have HC := Lib.hid (ins_any (cap := cap) hS HG.out.1 a' b' HR.out.2.1 hb'n hsz)
      go_wp2_with fail
      refine HC.out.mono ?_
      rintro _ w2 ⟨rfl, hS2, hO2⟩
      clear HC
      go_wp2
      refine bodyPost_ret (results_none rfl _ _ _) rfl ?_
      have hp := insertionSort_holds swoN dk a' b' HR.out.2.1 (by rw [HG.out.1]; exact hb'n)
      exact ⟨rfl, _, hS2, HG.out.2.2 _ hp.1 hp.2, hO.out.trans hO2.ox⟩
    have g12 : decide ((l : Int) ≤ 12) = false := by simp; omega
    have hlt : a' + 12 < b' := by have := HR.out; omega
    by_cases hL0 : L' = 0
    · subst hL0
      have HC := Lib.hid (heap_any (cap := cap) hS HG.out.1 a' b' (by omega) hb'n hsz)
      go_wp2_with fail
      refine HC.out.mono ?_
      rintro _ w2 ⟨rfl, hS2, hO2⟩
      clear HC
      go_wp2
      refine bodyPost_ret (results_none rfl _ _ _) rfl ?_
      have hp := heapSort_holds swoN dk a' b' HR.out.2.1 (by rw [HG.out.1]; exact hb'n)
      exact ⟨rfl, _, hS2, HG.out.2.2 _ hp.1 hp.2, hO.out.trans hO2.ox⟩
    have gL0 : (L' == 0) = false := by simp [hL0]
    clear hL0
    have HB := Lib.hid (brk_any (cap := cap) hS HG.out.1 a' b' hlt hb'n hsz)
    go_upto_if 35 with fail
    clear e1 g12 gL0
    go_cut [3] from 19 to 133 (fun s3 wx => ∃ (L2 : Int) (dx : Array Nat), s3 = .int .i64 L2 ∧ SB wx g dx rest ∧ Hid (PG n a b d a' b' dx) ∧ Hid (Ox g w wx))
    case first =>
      cases wb
      · go_wp2_with fail
        refine HB.out.mono ?_
        rintro _ w2 ⟨rfl, dx, hS2, hp2, hO2⟩
        have HG2 := Lib.hid (HG.out.perm hb'n hp2)
        have hOx := Lib.hid (hO.out.trans hO2)
        clear HB hp2 hO2
        go_wp2_with fail
        go_meet
        exact ⟨_, dx, rfl, hS2, HG2, hOx⟩
      · go_wp2_with fail
        go_meet
        exact ⟨_, dk, rfl, hS, HG, hO⟩
    case rest =>
      clear hS HG hO HB
      obtain ⟨L2, dk, rfl, hS, HG, hO⟩ := hcut
      have HP := Lib.hid (pivot_any (cap := cap) hS HG.out.1 a' b' hlt hb'n hsz)
      go_wp2_with fail
      refine HP.out.mono ?_
      rintro _ w2 ⟨p, h, rfl, hp0, hp1, hS2, hO2⟩
      have hOx := Lib.hid (hO.out.trans hO2)
      clear HP hO2 hS hO
      have HRV := Lib.hid (rev_any (cap := cap) hS2 HG.out.1 a' b' (by omega) hb'n hsz)
      go_upto_if 50 with fail
      go_cut [11, 12] from 19 to 133 (fun s11 s12 wx => ∃ (p2 : Nat) (h2 : Int) (dx : Array Nat), s11 = .int .i64 p2 ∧ s12 = .int .i64 h2 ∧ (a' ≤ p2 ∧ p2 < b') ∧ SB wx g dx rest ∧ Hid (PG n a b d a' b' dx) ∧ Hid (Ox g w wx))
      case first =>
        by_cases h2 : h = 2
        · subst h2
          obtain ⟨b1, hb1⟩ : ∃ x, x = b' - 1 := ⟨_, rfl⟩
          obtain ⟨pa, hpa⟩ : ∃ x, x = p - a' := ⟨_, rfl⟩
          obtain ⟨p2, hp2⟩ : ∃ x, x = b1 - pa := ⟨_, rfl⟩
          have e1 : (b' : Int) - 1 = (b1 : Int) := by omega
          have e2 : (p : Int) - a' = (pa : Int) := by omega
          have e3 : (b1 : Int) - pa = (p2 : Int) := by omega
          have hpr : a' ≤ p2 ∧ p2 < b' := by omega
          have hbb : b1 ≤ n ∧ pa ≤ n ∧ p2 ≤ n := by omega
          clear hb1 hpa hp2
          go_wp2_with fail
          refine HRV.out.mono ?_
          rintro _ w3 ⟨rfl, hS3, hO3⟩
          have HG3 := Lib.hid (HG.out.perm hb'n (reverseRange_holds dk a' b' HR.out.2.1 (by rw [HG.out.1]; exact hb'n)))
          have hOx3 := Lib.hid (hOx.out.trans hO3.ox)
          clear HRV hO3 hS2
          go_wp2_with fail
          clear e1 e2 e3
          go_meet
          exact ⟨p2, _, _, rfl, rfl, hpr, hS3, HG3, hOx3⟩
        · have gh : (h == 2) = false := by simp [h2]
          go_wp2_with fail
          go_meet
          exact ⟨p, h, dk, rfl, rfl, ⟨hp0, hp1⟩, hS2, HG, hOx⟩
      case rest =>
        clear hS2 HG hOx HRV hp0 hp1
        obtain ⟨p, h, dk, rfl, rfl, hpr, hS, HG, hO⟩ := hcut
        have HPI := Lib.hid (pins_any (cap := cap) hS HG.out.1 a' b' (by omega) hb'n hsz)
        go_upto_region 15 with fail
        obtain ⟨wz, rfl⟩ : ∃ z, wc = z := ⟨_, rfl⟩
        go_cut [12, 68] from 19 to 133 (fun s12 s68 wx => s12 = .int .i64 h ∧ (∃ t : Bool, s68 = .bool t) ∧ wc = wx)
        case first =>
          obtain ⟨t, ht⟩ : ∃ t, (h == 1) = t := ⟨_, rfl⟩
          cases wb <;> cases wp <;> cases t <;> (go_wp2_with fail; go_meet; exact ⟨by first | rfl | rw [eq_of_beq ht], ⟨_, rfl⟩, rfl⟩)
        case rest =>
          obtain ⟨rfl, ⟨t68, rfl⟩, rfl⟩ := hcut
          go_upto_if 68 with fail
          go_cut [] from 19 to 133 (fun wx => ∃ (dx : Array Nat), SB wx g dx rest ∧ Hid (PG n a b d a' b' dx) ∧ Hid (Ox g w wx))
          case first =>
            cases t68
            · go_wp2_with fail
              go_meet
              exact ⟨dk, hS, HG, hO⟩
            go_wp2_with fail
            refine HPI.out.mono ?_
            rintro _ w4 ⟨rfl, hS4, hO4⟩
            have hp4 := partialInsertionSort_holds swoN dk a' b' (show a' < b' by omega) (by rw [HG.out.1]; exact hb'n) HG.out.2.1
            have HG4 := Lib.hid (HG.out.perm hb'n hp4.1)
            have HS4 := Lib.hid (And.intro hp4.1 hp4.2)
            have hO4 := Lib.hid (hO.out.trans hO4.ox)
            clear hp4 HPI hS hO
            obtain ⟨r, hr⟩ : ∃ r, r = partialInsertionSort ltN dk a' b' := ⟨_, rfl⟩
            rw [← hr] at hS4 HG4 HS4 ⊢
            obtain ⟨d4, t4⟩ := r
            clear hr
            cases t4
            · go_wp2_with fail
              go_meet
              exact ⟨d4, hS4, HG4, hO4⟩
            · go_wp2
              refine bodyPost_ret (results_none rfl _ _ _) rfl ?_
              exact ⟨rfl, d4, hS4, HG.out.2.2 _ HS4.out.1 (HS4.out.2 (by first | rfl | trivial)), hO4.out⟩
          case rest =>
            clear hS HG hO HPI
            obtain ⟨dk, hS, HG, hO⟩ := hcut
            go_upto_region 17 with fail
            go_cut [87] from 19 to 133 (fun v wx => ∃ t : Bool, v = .bool t ∧ SB wx g dk rest ∧ Hid (t = true → 0 < a' ∧ ltN dk[a' - 1]! dk[p]! = false) ∧ Hid (Ox g w wx))
            case first =>
              rcases Nat.eq_zero_or_pos a' with ha0 | ha0
              · have ga : decide ((0 : Int) < (a' : Int)) = false := by simp; omega
                have ga2 : decide (0 < a') = false := by simp; omega
                clear ha0
                go_wp2_with fail
                go_quiet (fail)
                go_wp2_with fail
                go_meet
                exact ⟨false, rfl, hS.drewN nq, Lib.hid (fun h => by cases h), Lib.hid (hO.out.drewN nq)⟩
              · have ga : decide ((0 : Int) < (a' : Int)) = true := by simp; omega
                have ga2 : decide (0 < a') = true := by simp; omega
                obtain ⟨am, ham⟩ : ∃ x, x = a' - 1 := ⟨_, rfl⟩
                have s1 : IntKind.i64.wrap ((a' : Int) - 1) = (am : Int) := by rw [IntWalk.i64_in _ (by omega)]; omega
                have b0 : (0 : Int) ≤ (am : Int) := by omega
                have b1 : (am : Int) < (n : Int) := by omega
                have b2 : (0 : Int) ≤ (p : Int) := by omega
                have b3 : (p : Int) < (n : Int) := by omega
                have hca := hS.cell (i := am) (by rw [HG.out.1]; omega)
                have hcp := hS.cell (i := p) (by rw [HG.out.1]; omega)
                obtain ⟨x, hx⟩ : ∃ x, x = dk[am]! := ⟨_, rfl⟩
                obtain ⟨y, hy⟩ : ∃ y, y = dk[p]! := ⟨_, rfl⟩
                rw [← hx] at hca
                rw [← hy] at hcp
                obtain ⟨t, ht⟩ : ∃ t, t = ltN x y := ⟨_, rfl⟩
                have HL := Lib.hid (fun (w0 : World) (k : Nat) => less_q x y ht w0 k)
                have HT := Lib.hid (show 0 < a' ∧ t = ltN dk[a' - 1]! dk[p]! from ⟨ha0, by rw [ht, hx, hy, ham]⟩)
                clear ht hx hy ham ha0
                cases t
                · go_wp2_with fail
                  go_quiet ((go_at_call 76; exact HL.out _ _))
                  go_wp2_with fail
                  go_meet
                  exact ⟨true, rfl, hS.drewN nq, Lib.hid (fun _ => ⟨HT.out.1, HT.out.2.symm⟩), Lib.hid (hO.out.drewN nq)⟩
                · go_wp2_with fail
                  go_quiet ((go_at_call 76; exact HL.out _ _))
                  go_wp2_with fail
                  go_meet
                  exact ⟨false, rfl, hS.drewN nq, Lib.hid (fun h => by cases h), Lib.hid (hO.out.drewN nq)⟩
            case rest =>
              clear hS hO
              obtain ⟨t, rfl, hS, HT, hO⟩ := hcut
              cases t
              · have HPT := Lib.hid (part_any (cap := cap) hS HG.out.1 a' b' p hb'n hpr.1 hpr.2 hsz)
                go_wp2_with fail
                refine HPT.out.mono ?_
                rintro _ w4 ⟨rfl, hS4, hO4⟩
                have hO5 := Lib.hid (hO.out.trans hO4.ox)
                clear HPT hS hO hO4
                obtain ⟨mid, ap, d4, hx⟩ : ∃ mid ap d4, partition ltN dk a' b' p = (mid, ap, d4) := ⟨(partition ltN dk a' b' p).1, (partition ltN dk a' b' p).2.1, (partition ltN dk a' b' p).2.2, rfl⟩
                rw [hx] at hS4 ⊢
                obtain ⟨q1, q2, q3, q4, q5, q6, q7⟩ := HG.out.part hpr.1 hpr.2 hb'n hx
                have HQ := Lib.hid (And.intro q6 q7)
                have HQB := Lib.hid (And.intro q4 q5)
                clear hx q6 q7 q4 q5 HG HT
                obtain ⟨ll, hll⟩ : ∃ x, x = mid - a' := ⟨_, rfl⟩
                obtain ⟨rl, hrl⟩ : ∃ x, x = b' - mid := ⟨_, rfl⟩
                obtain ⟨th, hth⟩ : ∃ x, x = l / 8 := ⟨_, rfl⟩
                have e1 : (mid : Int) - a' = (ll : Int) := by omega
                have e2 : (b' : Int) - mid = (rl : Int) := by omega
                have e3 : (l : Int) / 8 = (th : Int) := by omega
                have hHR := HR.out
                have hle : ll ≤ n ∧ rl ≤ n ∧ th ≤ n := by omega
                by_cases hlr : ll < rl
                · have glr : decide ((ll : Int) < (rl : Int)) = true := by simp; omega
                  have HI := Lib.hid (IH.out g n cap _ _ _ hS4 q3 a' mid L2 (by omega) (by omega) (by omega) HQB.out.1 hsz)
                  clear hll hrl hth hle hHR q3
                  go_wp2_with fail
                  clear e1 e2 e3
                  refine HI.out.mono ?_
                  rintro _ w5 ⟨rfl, d5, hS5, hp5, hO6⟩
                  have HG5 := Lib.hid (HQ.out.1 d5 hp5.1 hp5.2)
                  have hO7 := Lib.hid (hO5.out.trans hO6)
                  clear HI hp5 hO6 hO5 hS4
                  go_wp2
                  go_roundw
                  case rel => exact ⟨mid + 1, b', L2, _, ap, d5, by go_num, rfl, rfl, rfl, rfl, by have := HR.out; omega, hS5, HG5, hO7⟩
                  case measure => have := HR.out; simp [intOf]; omega
                · have glr : decide ((ll : Int) < (rl : Int)) = false := by simp; omega
                  have em : IntKind.i64.wrap ((mid : Int) + 1) = ((mid + 1 : Nat) : Int) := by rw [IntWalk.i64_in _ (by omega)]; omega
                  have HI := Lib.hid (IH.out g n cap _ _ _ hS4 q3 (mid + 1) b' L2 (by omega) (by omega) hb'n HQB.out.2 hsz)
                  clear hll hrl hth hle hHR q3
                  go_wp2_with fail
                  clear e1 e2 e3
                  refine HI.out.mono ?_
                  rintro _ w5 ⟨rfl, d5, hS5, hp5, hO6⟩
                  have HG5 := Lib.hid (HQ.out.2 d5 hp5.1 hp5.2)
                  have hO7 := Lib.hid (hO5.out.trans hO6)
                  clear HI hp5 hO6 hO5 hS4
                  go_wp2
                  go_roundw
                  case rel => exact ⟨a', mid, L2, _, ap, d5, rfl, rfl, rfl, rfl, rfl, by have := HR.out; omega, hS5, HG5, hO7⟩
                  case measure => have := HR.out; simp [intOf]; omega
              · have HPT := Lib.hid (parteq_any (cap := cap) hS HG.out.1 a' b' p hb'n hpr.1 hpr.2 hsz)
                go_wp2_with fail
                refine HPT.out.mono ?_
                rintro _ w4 ⟨rfl, hS4, hO4⟩
                have hO5 := Lib.hid (hO.out.trans hO4.ox)
                clear HPT hS hO hO4
                obtain ⟨mid, d4, hx⟩ : ∃ mid d4, partitionEqual ltN dk a' b' p = (mid, d4) := ⟨(partitionEqual ltN dk a' b' p).1, (partitionEqual ltN dk a' b' p).2, rfl⟩
                rw [hx] at hS4 ⊢
                obtain ⟨q1, q2, q3⟩ := HG.out.eq (HT.out (by first | rfl | trivial)).1 hpr.1 hpr.2 hb'n (HT.out (by first | rfl | trivial)).2 hx
                have HG5 := Lib.hid q3
                clear hx q3
                go_wp2
                go_roundw
                case rel => exact ⟨mid, b', L2, wb, wp, d4, rfl, rfl, rfl, rfl, rfl, by have := HR.out; omega, hS4, HG5, hO5⟩
                case measure => have := HR.out; simp [intOf]; omega
end Go.Proofs.YtjnhfakdpnnboaaDoor
