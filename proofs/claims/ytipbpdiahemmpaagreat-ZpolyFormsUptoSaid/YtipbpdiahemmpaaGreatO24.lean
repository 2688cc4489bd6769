/- The determinant's walk. -/
import Derived.Test.YtipbpdiahemmpaaGreatQq
import Derived.Test.YtipbpdiahemmpaaGreatRg
namespace Go.Proofs.YtipbpdiahemmpaaGreat
open Go.RowKit Go.IntWalk
attribute [local go_sem ↓] Go.wp_at_zero Go.wp_at_succ

theorem cell_put {w : World} {g o : Nat} {x y v : Value} {p : Addr} (hp : p.block ≠ g) (h : w.cell? p = some v) : ((w.setCell ⟨g, o, none⟩ x).setCell ⟨g, o + 1, none⟩ y).cell? p = some v := by
  rw [World.cell?_of_block ((Below.heap_setCell _ (⟨g, o + 1, none⟩ : Addr) _ _ hp).trans (Below.heap_setCell _ (⟨g, o, none⟩ : Addr) _ _ hp))]
  exact h
/-- The cell of the last pivot. -/
def LZ (w : World) (b g : Nat) (z : Int) : Prop := ∃ (s : Bool) (A : Option Addr) (n c : Nat), ZC w g s A n c ∧ OwZ w b s A n c z

theorem keep_store {w : World} {g : Nat} {s : Bool} {A : Option Addr} {n c : Nat} (h : ZC w g s A n c) (x y : Value) : KeepT w ((w.setCell ⟨g, 0, none⟩ x).setCell ⟨g, 1, none⟩ y) := fun i cs f e => by
  have hne : i ≠ g := by
    rintro rfl
    unfold ZC at h
    rw [h] at e
    simp at e
  exact ((Below.heap_setCell _ (⟨g, 1, none⟩ : Addr) y i hne).trans (Below.heap_setCell _ (⟨g, 0, none⟩ : Addr) x i hne)).trans e
theorem MB.off {w : World} {b B g : Nat} {A A' : Option Addr} {k c N n' c' : Nat} {G : List Nat} {EE : Nat → List Ent} {F : Nat → Nat → Int} {s : Bool} (h : MB w b B A k c N G EE F) (hz : ZC w g s A' n' c') (hg : ∀ (i x : Nat), G[i]? = some x → x ≠ g) (x y : Value) : MB ((w.setCell ⟨g, 0, none⟩ x).setCell ⟨g, 1, none⟩ y) b B A k c N G EE F := by
  have hb : ∀ i, i ≠ g → ((w.setCell ⟨g, 0, none⟩ x).setCell ⟨g, 1, none⟩ y).heap[i]? = w.heap[i]? := fun i hne => (Below.heap_setCell _ (⟨g, 1, none⟩ : Addr) y i hne).trans (Below.heap_setCell _ (⟨g, 0, none⟩ : Addr) x i hne)
  refine ⟨⟨h.own.1, ?_⟩, h.len, h.nod, fun i gi hgi => ?_⟩
  · rcases h.own.2 with h0 | ⟨go, cap, cur, e1, e2, e3, e4⟩
    · exact .inl h0
    · have hne : go ≠ g := by
        rintro rfl
        unfold ZC at hz
        rw [e3] at hz
        simp at hz
      exact .inr ⟨go, cap, cur, e1, e2, (hb go hne).trans e3, e4⟩
  · obtain ⟨h1, h2, h3, h4⟩ := h.row i gi hgi
    exact ⟨h1, (hb gi (hg i gi hgi)).trans h2, h3, h4.keep (keep_store hz x y)⟩
theorem ne_outer {w : World} {b B go gi : Nat} {k c N : Nat} {G : List Nat} {EE : Nat → List Ent} {F : Nat → Nat → Int} {i : Nat} (h : MB w b B (some ⟨go, 0, none⟩) k c N G EE F) (hg : G[i]? = some gi) : go ≠ gi := by
  obtain ⟨_, h2, _, _⟩ := h.row i gi hg
  rcases h.own.2 with ⟨h1, _⟩ | ⟨g', cap, cur, e1, e2, e3, e4⟩
  · injection h1 with h1; cases h1
  · injection e1 with e1
    injection e1 with e1
    injection e1 with e1
    subst e1
    rintro rfl
    unfold ZB at h2
    rw [e3] at h2
    simp at h2
theorem MB.hd {w : World} {b B go gi : Nat} {k c N : Nat} {G : List Nat} {EE : Nat → List Ent} {F : Nat → Nat → Int} {i : Nat} (h : MB w b B (some ⟨go, 0, none⟩) k c N G EE F) (hg : G[i]? = some gi) (hi : i < k) : w.cell? ⟨go, i, none⟩ = some (.slice (some ⟨gi, 0, none⟩) N N) := by
  obtain ⟨go', gi', e1, e2, _, e3⟩ := h.hdr hi
  injection e1 with e1
  injection e1 with e1
  subst e1
  rw [hg] at e2
  injection e2 with e2
  subst e2
  exact e3
theorem keep_put {w : World} {g : Nat} {E : List Ent} (h : ZB w g E) (j : Nat) (x y : Value) : KeepT w ((w.setCell ⟨g, j * 2, none⟩ x).setCell ⟨g, j * 2 + 1, none⟩ y) := fun i cs f e => by
  have hne : i ≠ g := by
    rintro rfl
    unfold ZB at h
    rw [h] at e
    simp at e
  exact ((Below.heap_setCell _ (⟨g, j * 2 + 1, none⟩ : Addr) y i hne).trans (Below.heap_setCell _ (⟨g, j * 2, none⟩ : Addr) x i hne)).trans e
theorem nodup_ne {G : List Nat} (h : G.Nodup) {i j x y : Nat} (hi : G[i]? = some x) (hj : G[j]? = some y) (hij : i < j) : x ≠ y := by
  have hn := List.pairwise_iff_getElem.1 h
  obtain ⟨l1, e1⟩ := List.getElem?_eq_some_iff.1 hi
  obtain ⟨l2, e2⟩ := List.getElem?_eq_some_iff.1 hj
  have := hn i j l1 l2 hij
  rwa [e1, e2] at this

set_option maxRecDepth 100000 in
set_option maxHeartbeats 8000000 in
theorem det_any {b B n c Z : Nat} {A : Option Addr} {G : List Nat} {EE : Nat → List Ent} {F : Nat → Nat → Int} {w : World} (h : MB w b B A n c n G EE F) (Fs : Nat → Nat → Nat → Int) (ls : Nat → Int) (h0 : ∀ i j, i < n → j < n → F i j = Fs 0 i j) (hl0 : ls 0 = 1) (hs : ∀ k, k < n → ∀ i, i < n → ∀ j, j < n → Fs (k + 1) i j = Pz.elm (Fs k) k (ls k) i j) (hl : ∀ k, k < n → ls (k + 1) = Fs k k k) (hne : ∀ k, k < n → Fs k k k ≠ 0) (hz : ∀ k, k < n → ∀ i, i < n → ∀ j, j < n → Zz.zl (Fs k i j) ≤ Z) (hZ : Z ≤ 100000000000) (hn : n ≤ 1048576) (hB0 : B ≤ w.heap.size) (hbB : b ≤ B) :
    Calls Tryz.prog 201 #[.slice A n c] w fun e w' => ∃ (s : Bool) (A' : Option Addr) (n' c' : Nat) (y : Int), e = .returned (.agg #[.bool s, .slice A' n' c']) ∧ OwZ w' b s A' n' c' y ∧ Hid (y = ls n) ∧ Below B w w' := by
  have HF := Lib.hid (And.intro hs (And.intro hl (And.intro hne hz)))
  have HBB := Lib.hid (And.intro hB0 hbB)
  have hR := ZC.new w false none 0 0
  have hB1 : Below w.heap.size w (w.alloc (.cells #[.bool false, .slice none 0 0] 28)) := (Below.refl _ _).alloc (Nat.le_refl _) _
  have h1 := (h.congr h0).next hB1
  have HGL := Lib.hid (show ∀ (i x : Nat), G[i]? = some x → x < w.heap.size from fun i x hx => (h.row i x hx).2.1.lt)
  have HL0 := Lib.hid hl0
  clear hs hl hne hz h h0 hl0 hB0 hbB
  go_enter Tryz.func201, Tryz.ntmps201
  go_wp2_with fail
  generalize w.alloc (.cells #[.bool false, .slice none 0 0] 28) = W1 at *
  refine (of_any 1 (by omega) (by omega) W1).mono ?_
  rintro _ W2 ⟨s2, A2, n2, c2, z2, rfl, ho2, hz2, hb2⟩
  obtain rfl : z2 = 1 := hz2.out
  obtain ⟨W3, HW3⟩ : ∃ W, W = W2.alloc (.cells #[.bool s2, .slice A2 n2 c2] 28) := ⟨_, rfl⟩
  have hZ3 : ZC W3 W2.heap.size s2 A2 n2 c2 := by rw [HW3]; exact ZC.new W2 s2 A2 n2 c2
  have hb3 : Below W2.heap.size W2 W3 := by rw [HW3]; exact (Below.refl _ _).alloc (Nat.le_refl _) _
  have hR3 := (hR.next hb2).next hb3
  have h3 := (h1.next hb2).next hb3
  have hB2 := hB1.trans (hb2.mono hB1.size)
  have hB3 := (hB2.trans (hb3.mono hB2.size)).mono HBB.out.1
  have ho3 := (ho2.base (b' := b) (Nat.le_trans HBB.out.2 (Nat.le_trans HBB.out.1 hB1.size))).next hb3
  have HLZ := Lib.hid (show LZ W3 b W2.heap.size (ls 0) by rw [HL0.out]; exact ⟨s2, A2, n2, c2, hZ3, ho3⟩)
  have HGW := Lib.hid (show w.heap.size ≤ W2.heap.size from hB2.size)
  have HGT := Lib.hid (show w.heap.size < W2.heap.size from (hR.next hb2).lt)
  have HW3 := Lib.hid HW3
  clear hz2 ho2 hb2 hb3 hZ3 ho3 h1 hR hB1
  go_wp2_with fail
  rw [← HW3.out]
  clear HW3
  clear HW3
  obtain ⟨gr, hgr⟩ : ∃ g, g = w.heap.size := ⟨_, rfl⟩
  obtain ⟨gl, hgl⟩ : ∃ g, g = W2.heap.size := ⟨_, rfl⟩
  rw [← hgl] at HLZ ⊢
  rw [← hgr] at hR3 ⊢
  have HGG := Lib.hid (show gr = w.heap.size ∧ w.heap.size ≤ gl ∧ gr < gl from ⟨hgr, by rw [hgl]; exact HGW.out, by rw [hgr, hgl]; exact HGT.out⟩)
  clear hgr hgl
  go_loopw [4, 12] (fun nv iv wr => ∃ (k : Nat) (EK : Nat → List Ent), nv = .bool false ∧ iv = .int .i64 k ∧ k ≤ n ∧ MB wr b B A n c n G EK (Fs k) ∧ Hid (LZ wr b gl (ls k)) ∧ ZC wr gr false none 0 0 ∧ Below B w wr) (fun _ iv _ => n - (intOf iv).toNat)
  case atStart => exact ⟨0, EE, rfl, rfl, Nat.zero_le _, h3, HLZ, hR3, hB3⟩
  case round =>
    clear h3 HLZ hR3 hB3
    obtain ⟨k, EK, rfl, rfl, hkn, hM, hLZ, hR, hB⟩ := hrel
    by_cases hke : k = n
    · subst hke
      obtain ⟨s4, A4, n4, c4, hZ4, ho4⟩ := hLZ.out
      have c0 := hZ4.c0
      have c1 := hZ4.c1
      have r0 := hR.c0
      have r1 := hR.c1
      have f0 := hR.fz 0
      have f1 := hR.fz 1
      have hf := hR.store s4 A4 n4 c4
      have HO := Lib.hid (ho4.keep (keep_store hR (.bool s4) (.slice A4 n4 c4)))
      have HBF := Lib.hid ((hB.setCell (p := ⟨gr, 0, none⟩) (by have := HGG.out; have := HBB.out; show B ≤ gr; omega) (.bool s4)).setCell (p := ⟨gr, 1, none⟩) (by have := HGG.out; have := HBB.out; show B ≤ gr; omega) (.slice A4 n4 c4))
      clear hM hLZ hB hZ4 ho4
      go_wp2_with fail
      generalize (wr.setCell ⟨gr, 0, none⟩ (.bool s4)).setCell ⟨gr, 1, none⟩ (.slice A4 n4 c4) = W5 at *
      exact bodyPost_ret (by simp [results, Tryz.results201, go_sem, hf.c0, hf.c1]) rfl ⟨_, _, _, _, _, rfl, HO.out, Lib.hid rfl, HBF.out⟩
    · have hkl : k < n := by omega
      have hkli : (k : Int) < (n : Int) := by omega
      have hknb : ((k : Int) == (n : Int)) = false := by simp; omega
      clear hke
      go_wp2_with fail
      have HM := Lib.hid hM
      have HB := Lib.hid hB
      have HR := Lib.hid hR
      clear hM hB hR
      go_loopw [6] (fun av wr2 => av = .int .i64 (k : Int) ∧ Below wr.heap.size wr wr2) (fun _ _ => 0)
      case atStart => exact ⟨rfl, Below.refl _ _⟩
      case round =>
        obtain ⟨rfl, hb⟩ := hrel
        have hM2 := HM.out.next hb
        obtain ⟨go, gk, rfl, hgk, hgo, hhd⟩ := hM2.hdr hkl
        obtain ⟨⟨s5, A5, n5, c5⟩, he, c0, c1, hoe⟩ := hM2.ent hgk hkl
        simp only at c0 c1 hoe
        have hn5 : n5 ≤ 100000000000 := by rw [hoe.len]; exact Nat.le_trans (HF.out.2.2.2 k hkl k hkl k hkl) hZ
        have HB2 := Lib.hid (HB.out.trans (hb.mono (Nat.le_trans HBB.out.1 HB.out.size)))
        have HLZ2 := Lib.hid (show LZ wr b gl (ls k) by
          obtain ⟨s4, A4, n4, c4, e1, e2⟩ := hLZ.out
          exact ⟨s4, A4, n4, c4, e1.next hb, e2.next hb⟩)
        have HR2 := Lib.hid (HR.out.next hb)
        have HM2 := Lib.hid hM2
        clear hb hM2 he
        go_wp2_with fail
        refine (sign_any hoe.rd (by omega)).mono ?_
        rintro _ W5 ⟨y, rfl, hy, hb5⟩
        have hy0 : (y == 0) = false := by
          have h1 := HF.out.2.2.1 k hkl
          have h2 := hy.out
          simp
          intro h3
          rw [h3] at h2
          exact h1 (Int.sign_eq_zero_iff_zero.1 h2.symm)
        have HM5 := Lib.hid (HM2.out.next hb5)
        have HR5 := Lib.hid (HR2.out.next hb5)
        have HB5 := Lib.hid (HB2.out.trans (hb5.mono (Nat.le_trans HBB.out.1 HB2.out.size)))
        obtain ⟨s4, A4, n4, c4, hZ4, ho4⟩ := HLZ2.out
        have HZ5 := Lib.hid (hZ4.next hb5)
        have HO5 := Lib.hid (ho4.next hb5)
        clear hb5 c0 c1 hhd hoe hy hZ4 ho4 hLZ
        go_wp2_with fail
        clear hy0 hknb
        go_loopw [7] (fun iv wr => ∃ (i : Nat) (EI : Nat → List Ent), iv = .int .i64 i ∧ k + 1 ≤ i ∧ i ≤ n ∧ MB wr b B (some ⟨go, 0, none⟩) n c n G EI (Pz.mid (Fs k) k (ls k) i n) ∧ ZC wr gl s4 A4 n4 c4 ∧ OwZ wr b s4 A4 n4 c4 (ls k) ∧ ZC wr gr false none 0 0 ∧ Below B w wr) (fun iv _ => n - (intOf iv).toNat)
        case atStart => exact ⟨k + 1, EK, by go_num, Nat.le_refl _, hkl, HM5.out.congr (fun i j _ hj => (Pz.mid_start i j hj).symm), HZ5.out, HO5.out, HR5.out, HB5.out⟩
        case round =>
          clear HM5 HZ5 HO5 HR5 HB5 HB2 HLZ2 HR2 HM2 HM HB HR
          obtain ⟨i, EI, rfl, hik, hin, hM, hZ4, ho4, hR, hB⟩ := hrel
          by_cases hie : i = n
          · have hni := hie.symm
            subst hni
            clear hie
            have hhd := hM.hd hgk hkl
            obtain ⟨⟨s6, A6, n6, c6⟩, he, c0, c1, hoe⟩ := hM.ent hgk hkl
            simp only at c0 c1 hoe
            rw [Pz.mid_row (Nat.le_refl k), ← HF.out.2.1 k hkl] at hoe
            have k0 := hZ4.c0
            have k1 := hZ4.c1
            have f0 := hZ4.fz 0
            have f1 := hZ4.fz 1
            have HM6 := Lib.hid ((hM.off hZ4 (fun i x hx => by have := HGL.out i x hx; have := HGG.out; omega) (.bool s6) (.slice A6 n6 c6)).congr (F' := Fs (k + 1)) (fun i j hi hj => (Pz.mid_end i j hi).trans (HF.out.1 k hkl i hi j hj).symm))
            have HLZ6 := Lib.hid (show LZ ((wr.setCell ⟨gl, 0, none⟩ (.bool s6)).setCell ⟨gl, 1, none⟩ (.slice A6 n6 c6)) b gl (ls (k + 1)) from ⟨s6, A6, n6, c6, hZ4.store s6 A6 n6 c6, hoe.keep (keep_store hZ4 _ _)⟩)
            have HR6 := Lib.hid ((hR.far (p := ⟨gl, 0, none⟩) (Nat.ne_of_lt HGG.out.2.2) (.bool s6)).far (p := ⟨gl, 1, none⟩) (Nat.ne_of_lt HGG.out.2.2) (.slice A6 n6 c6))
            have HB6 := Lib.hid ((hB.setCell (p := ⟨gl, 0, none⟩) (Nat.le_trans HBB.out.1 HGG.out.2.1) (.bool s6)).setCell (p := ⟨gl, 1, none⟩) (Nat.le_trans HBB.out.1 HGG.out.2.1) (.slice A6 n6 c6))
            clear hM hZ4 ho4 hR hB he hoe
            go_wp2_with fail
            go_roundw
            case rel => exact ⟨k + 1, EI, rfl, by go_num, hkl, HM6.out, HLZ6, HR6.out, HB6.out⟩
            case measure => simp [intOf]; omega
          · have hil : i < n := by omega
            have hili : (i : Int) < (n : Int) := by omega
            clear hie
            go_wp2_with fail
            have HM := Lib.hid hM
            have HZ4 := Lib.hid hZ4
            have HO4 := Lib.hid ho4
            have HR := Lib.hid hR
            have HB := Lib.hid hB
            clear hM hZ4 ho4 hR hB
            go_loopw [8] (fun jv wr => ∃ (q : Nat) (EI : Nat → List Ent), jv = .int .i64 ((q : Int) - 1) ∧ k ≤ q ∧ q ≤ n ∧ MB wr b B (some ⟨go, 0, none⟩) n c n G EI (Pz.mid (Fs k) k (ls k) i q) ∧ ZC wr gl s4 A4 n4 c4 ∧ OwZ wr b s4 A4 n4 c4 (ls k) ∧ ZC wr gr false none 0 0 ∧ Below B w wr) (fun jv _ => (intOf jv + 1).toNat)
            case atStart => exact ⟨n, EI, rfl, Nat.le_of_lt hkl, Nat.le_refl _, HM.out, HZ4.out, HO4.out, HR.out, HB.out⟩
            case round =>
              clear HM HZ4 HO4 HR HB
              obtain ⟨q, EJ, rfl, hkq, hqn, hM, hZ4, ho4, hR, hB⟩ := hrel
              by_cases hqk : q = k
              · subst hqk
                obtain ⟨jv, hjv⟩ : ∃ jv : Int, (q : Int) - 1 = jv := ⟨_, rfl⟩
                rw [hjv]
                have hjk : jv < (q : Int) := by omega
                have HM6 := Lib.hid (hM.congr (fun i' j' _ hj => Pz.mid_next i' j' hj))
                have HX6 := Lib.hid (And.intro hZ4 (And.intro ho4 (And.intro hR hB)))
                clear hjv hM hZ4 ho4 hR hB
                go_wp2_with fail
                go_roundw
                case rel => exact ⟨i + 1, EJ, by go_num, by omega, hil, HM6.out, HX6.out.1, HX6.out.2.1, HX6.out.2.2.1, HX6.out.2.2.2⟩
                case measure => simp [intOf]; omega
              · obtain ⟨j, hj⟩ : ∃ j, q = j + 1 := ⟨q - 1, by omega⟩
                have hji : (q : Int) - 1 = (j : Int) := by omega
                rw [hji]
                have HJQ := Lib.hid hj
                have hjk : (k : Int) ≤ (j : Int) := by omega
                have hjn : j < n := by omega
                have hjni : (j : Int) < (n : Int) := by omega
                obtain ⟨gi, hgi⟩ : ∃ gi, G[i]? = some gi := ⟨G[i]'(by rw [hM.len]; exact hil), List.getElem?_eq_getElem _⟩
                have hhi := hM.hd hgi hil
                have hhk := hM.hd hgk hkl
                obtain ⟨⟨sij, Aij, nij, cij⟩, eij, cij0, cij1, oij⟩ := hM.ent hgi hjn
                obtain ⟨⟨skk, Akk, nkk, ckk⟩, ekk, ckk0, ckk1, okk⟩ := hM.ent hgk hkl
                obtain ⟨⟨skj, Akj, nkj, ckj⟩, ekj, ckj0, ckj1, okj⟩ := hM.ent hgk hjn
                obtain ⟨⟨sik, Aik, nik, cik⟩, eik, cik0, cik1, oik⟩ := hM.ent hgi hkl
                simp only at cij0 cij1 oij ckk0 ckk1 okk ckj0 ckj1 okj cik0 cik1 oik
                rw [Pz.mid_here (by omega)] at oij oik
                rw [Pz.mid_row (Nat.le_refl k)] at okk okj
                have HNI := Lib.hid (show nij ≤ Z ∧ nkk ≤ Z ∧ nkj ≤ Z ∧ nik ≤ Z from ⟨by rw [oij.len]; exact HF.out.2.2.2 k hkl i hil j hjn, by rw [okk.len]; exact HF.out.2.2.2 k hkl k hkl k hkl, by rw [okj.len]; exact HF.out.2.2.2 k hkl k hkl j hjn, by rw [oik.len]; exact HF.out.2.2.2 k hkl i hil k hkl⟩)
                have l0 := hZ4.c0
                have l1 := hZ4.c1
                have HNG := Lib.hid (show go ≠ gi ∧ gk ≠ gi ∧ gl ≠ gi ∧ gr ≠ gi from ⟨ne_outer hM hgi, nodup_ne hM.nod hgk hgi (by omega), by have := HGL.out i gi hgi; have := HGG.out; omega, by have := HGL.out i gi hgi; have := HGG.out; omega⟩)
                have HCE := Lib.hid (show ∀ W : World, Below wr.heap.size wr W → (W.cell? ⟨go, i, none⟩ = some (.slice (some ⟨gi, 0, none⟩) n n) ∧ W.cell? ⟨go, k, none⟩ = some (.slice (some ⟨gk, 0, none⟩) n n) ∧ W.cell? ⟨gk, k * 2, none⟩ = some (.bool skk) ∧ W.cell? ⟨gk, k * 2 + 1, none⟩ = some (.slice Akk nkk ckk) ∧ W.cell? ⟨gk, j * 2, none⟩ = some (.bool skj) ∧ W.cell? ⟨gk, j * 2 + 1, none⟩ = some (.slice Akj nkj ckj) ∧ W.cell? ⟨gl, 0, none⟩ = some (.bool s4) ∧ W.cell? ⟨gl, 1, none⟩ = some (.slice A4 n4 c4)) from fun W hb => by
                  have hM2 := hM.next hb
                  obtain ⟨_, z2, y2, _⟩ := hM2.row k gk hgk
                  obtain ⟨p0, p1⟩ := z2.cells ekk
                  obtain ⟨q0, q1⟩ := z2.cells ekj
                  exact ⟨hM2.hd hgi hil, hM2.hd hgk hkl, p0, p1, q0, q1, (hZ4.next hb).c0, (hZ4.next hb).c1⟩)
                have HCX := Lib.hid (show ∀ W : World, Below wr.heap.size wr W → (W.cell? ⟨gi, j * 2, none⟩ = some (.bool sij) ∧ W.cell? ⟨gi, j * 2 + 1, none⟩ = some (.slice Aij nij cij) ∧ W.cell? ⟨gi, k * 2, none⟩ = some (.bool sik) ∧ W.cell? ⟨gi, k * 2 + 1, none⟩ = some (.slice Aik nik cik) ∧ W.frozen? ⟨gi, j * 2, none⟩ = false ∧ W.frozen? ⟨gi, j * 2 + 1, none⟩ = false) from fun W hb => by
                  have hM2 := hM.next hb
                  obtain ⟨_, z2, y2, _⟩ := hM2.row i gi hgi
                  obtain ⟨p0, p1⟩ := z2.cells eij
                  obtain ⟨q0, q1⟩ := z2.cells eik
                  exact ⟨p0, p1, q0, q1, z2.frozen _, z2.frozen _⟩)
                have HMA := Lib.hid (show ∀ W : World, Below wr.heap.size wr W → Calls Tryz.prog 216 #[.agg #[.bool sij, .slice Aij nij cij], .agg #[.bool skk, .slice Akk nkk ckk]] W (RetI (Fs k i j * Fs k k k) W) from fun W hb => imul_any (oij.next hb).rd (okk.next hb).rd (by have := HNI.out; omega) (by have := HNI.out; omega))
                have HMB := Lib.hid (show ∀ W : World, Below wr.heap.size wr W → Calls Tryz.prog 216 #[.agg #[.bool skj, .slice Akj nkj ckj], .agg #[.bool sik, .slice Aik nik cik]] W (RetI (Fs k k j * Fs k i k) W) from fun W hb => imul_any (okj.next hb).rd (oik.next hb).rd (by have := HNI.out; omega) (by have := HNI.out; omega))
                have HZL := Lib.hid (show Zz.zl (Fs k i j * Fs k k k) ≤ Z + Z ∧ Zz.zl (Fs k k j * Fs k i k) ≤ Z + Z from ⟨by
                  have e1 := Zz.zl_mul (Fs k i j) (Fs k k k)
                  have e2 := HF.out.2.2.2 k hkl i hil j hjn
                  have e3 := HF.out.2.2.2 k hkl k hkl k hkl
                  omega, by
                  have e1 := Zz.zl_mul (Fs k k j) (Fs k i k)
                  have e2 := HF.out.2.2.2 k hkl k hkl j hjn
                  have e3 := HF.out.2.2.2 k hkl i hil k hkl
                  omega⟩)
                have HO4 := Lib.hid (show ∀ W : World, Below wr.heap.size wr W → RdZ W W.heap.size s4 A4 n4 c4 (ls k) from fun W hb => (ho4.next hb).rd)
                have HN4 := Lib.hid (show n4 ≤ 1000000000000 ∧ ls k ≠ 0 from by
                  refine ⟨?_, ?_⟩
                  · rw [ho4.len]
                    cases k with
                    | zero => rw [HL0.out]; exact Nat.le_trans (Zz.zl_small (z := 1) (by decide)) (by omega)
                    | succ k => rw [HF.out.2.1 k (by omega)]; exact Nat.le_trans (HF.out.2.2.2 k (by omega) k (by omega) k (by omega)) (by omega)
                  · cases k with
                    | zero => rw [HL0.out]; decide
                    | succ k => rw [HF.out.2.1 k (by omega)]; exact HF.out.2.2.1 k (by omega))
                have HX := Lib.hid (And.intro hM (And.intro hZ4 (And.intro ho4 (And.intro hR hB))))
                have HBW := Lib.hid (show b ≤ wr.heap.size from Nat.le_trans HBB.out.2 (Nat.le_trans HBB.out.1 hB.size))
                have HD := Lib.hid (Below.refl wr.heap.size wr).drew
                clear hM hZ4 ho4 hR hB oij okk okj oik eij ekk ekj eik hhi hhk hj l0 l1 ckk0 ckk1 ckj0 ckj1 cij0 cij1 cik0 cik1
                have HCS := Lib.hid (show ∀ W : World, Below wr.heap.size wr W → (W.cell? ⟨go, i, none⟩ = some (.slice (some ⟨gi, 0, none⟩) n n) ∧ W.cell? ⟨go, k, none⟩ = some (.slice (some ⟨gk, 0, none⟩) n n) ∧ W.cell? ⟨gk, k * 2, none⟩ = some (.bool skk) ∧ W.cell? ⟨gk, k * 2 + 1, none⟩ = some (.slice Akk nkk ckk) ∧ W.cell? ⟨gk, j * 2, none⟩ = some (.bool skj) ∧ W.cell? ⟨gk, j * 2 + 1, none⟩ = some (.slice Akj nkj ckj) ∧ W.cell? ⟨gl, 0, none⟩ = some (.bool s4) ∧ W.cell? ⟨gl, 1, none⟩ = some (.slice A4 n4 c4) ∧ W.cell? ⟨gi, j * 2, none⟩ = some (.bool sij) ∧ W.cell? ⟨gi, j * 2 + 1, none⟩ = some (.slice Aij nij cij) ∧ W.cell? ⟨gi, k * 2, none⟩ = some (.bool sik) ∧ W.cell? ⟨gi, k * 2 + 1, none⟩ = some (.slice Aik nik cik)) from fun W hb => ⟨(HCE.out W hb).1, (HCE.out W hb).2.1, (HCE.out W hb).2.2.1, (HCE.out W hb).2.2.2.1, (HCE.out W hb).2.2.2.2.1, (HCE.out W hb).2.2.2.2.2.1, (HCE.out W hb).2.2.2.2.2.2.1, (HCE.out W hb).2.2.2.2.2.2.2, (HCX.out W hb).1, (HCX.out W hb).2.1, (HCX.out W hb).2.2.1, (HCX.out W hb).2.2.2.1⟩)
                go_upto_region 19 with fail
                refine wp_region_noPanic ?_
                refine wp_region_last (n := 42) (x := 40) (S := fun w' => w'.cell? ⟨go, i, none⟩ = some (.slice (some ⟨gi, 0, none⟩) n n) ∧ w'.cell? ⟨go, k, none⟩ = some (.slice (some ⟨gk, 0, none⟩) n n) ∧ w'.cell? ⟨gk, k * 2, none⟩ = some (.bool skk) ∧ w'.cell? ⟨gk, k * 2 + 1, none⟩ = some (.slice Akk nkk ckk) ∧ w'.cell? ⟨gk, j * 2, none⟩ = some (.bool skj) ∧ w'.cell? ⟨gk, j * 2 + 1, none⟩ = some (.slice Akj nkj ckj) ∧ w'.cell? ⟨gl, 0, none⟩ = some (.bool s4) ∧ w'.cell? ⟨gl, 1, none⟩ = some (.slice A4 n4 c4) ∧ w'.cell? ⟨gi, j * 2, none⟩ = some (.bool sij) ∧ w'.cell? ⟨gi, j * 2 + 1, none⟩ = some (.slice Aij nij cij) ∧ w'.cell? ⟨gi, k * 2, none⟩ = some (.bool sik) ∧ w'.cell? ⟨gi, k * 2 + 1, none⟩ = some (.slice Aik nik cik)) (by kernel_rfl) rfl rfl rfl rfl (by kernel_rfl) (by kernel_rfl) rfl rfl rfl (by decide) (by kernel_rfl) (by kernel_rfl) (fun _ _ _ _ _ h => h) (HCS.out _ HD.out) (fun hHeld => ?_)
                simp only [idle, List.setIfInBounds_toArray, List.set_cons_zero, List.set_cons_succ]
                refine wpAnyH_take (i := 0) (v := ?_) rfl (by kernel_rfl) (by kernel_rfl) (by kernel_rfl) (fun _ _ _ h => h) (Or.inl ⟨by rfl, ?_⟩) (by assumption) ?_
                rotate_left
                · intro w hSw; (try dsimp only at hSw); go_simp; all_goals with_reducible rfl
                try simp only [Act.put, List.setIfInBounds_toArray]
                refine wpAnyH_take (i := 1) (v := ?_) rfl (by kernel_rfl) (by kernel_rfl) (by kernel_rfl) (fun _ _ _ h => h) (Or.inl ⟨by rfl, ?_⟩) (by assumption) ?_
                rotate_left
                · intro w hSw; (try dsimp only at hSw); go_simp; all_goals with_reducible rfl
                try simp only [Act.put]
                refine wpAnyH_take (i := 2) (v := ?_) rfl (by kernel_rfl) (by kernel_rfl) (by kernel_rfl) (fun _ _ _ h => h) (Or.inl ⟨by rfl, ?_⟩) (by assumption) ?_
                rotate_left
                · intro w hSw; (try dsimp only at hSw); go_simp; all_goals with_reducible rfl
                try simp only [Act.put]
                refine wpAnyH_take (i := 3) (v := ?_) rfl (by kernel_rfl) (by kernel_rfl) (by kernel_rfl) (fun _ _ _ h => h) (Or.inl ⟨by rfl, ?_⟩) (by assumption) ?_
                rotate_left
                · intro w hSw; (try dsimp only at hSw); go_simp; all_goals with_reducible rfl
                try simp only [Act.put]
                refine wpAnyH_take (i := 4) (v := ?_) rfl (by kernel_rfl) (by kernel_rfl) (by kernel_rfl) (fun _ _ _ h => h) (Or.inl ⟨by rfl, ?_⟩) (by assumption) ?_
                rotate_left
                · intro w hSw; (try dsimp only at hSw); go_simp; all_goals with_reducible rfl
                try simp only [Act.put]
                refine wpAnyH_take (i := 5) (v := ?_) rfl (by kernel_rfl) (by kernel_rfl) (by kernel_rfl) (fun _ _ _ h => h) (Or.inl ⟨by rfl, ?_⟩) (by assumption) ?_
                rotate_left
                · intro w hSw; (try dsimp only at hSw); go_simp; all_goals with_reducible rfl
                try simp only [Act.put]
                refine wpAnyH_take (i := 6) (v := ?_) rfl (by kernel_rfl) (by kernel_rfl) (by kernel_rfl) (fun _ _ _ h => h) (Or.inl ⟨by rfl, ?_⟩) (by assumption) ?_
                rotate_left
                · intro w hSw; (try dsimp only at hSw); go_simp; all_goals with_reducible rfl
                try simp only [Act.put]
                refine wpAnyH_take (i := 7) (v := ?_) rfl (by kernel_rfl) (by kernel_rfl) (by kernel_rfl) (fun _ _ _ h => h) (Or.inl ⟨by rfl, ?_⟩) (by assumption) ?_
                rotate_left
                · intro w hSw; (try dsimp only at hSw); go_simp; all_goals with_reducible rfl
                try simp only [Act.put]
                refine wpAnyH_take (i := 8) (v := ?_) rfl (by kernel_rfl) (by kernel_rfl) (by kernel_rfl) (fun _ _ _ h => h) (Or.inl ⟨by rfl, ?_⟩) (by assumption) ?_
                rotate_left
                · intro w hSw; (try dsimp only at hSw); go_simp; all_goals with_reducible rfl
                try simp only [Act.put]
                refine wpAnyH_take (i := 9) (v := ?_) rfl (by kernel_rfl) (by kernel_rfl) (by kernel_rfl) (fun _ _ _ h => h) (Or.inl ⟨by rfl, ?_⟩) (by assumption) ?_
                rotate_left
                · intro w hSw; (try dsimp only at hSw); go_simp; all_goals with_reducible rfl
                try simp only [Act.put]
                refine wpAnyH_take (i := 10) (v := ?_) rfl (by kernel_rfl) (by kernel_rfl) (by kernel_rfl) (fun _ _ _ h => h) (Or.inl ⟨by rfl, ?_⟩) (by assumption) ?_
                rotate_left
                · intro w hSw; (try dsimp only at hSw); go_simp; all_goals with_reducible rfl
                try simp only [Act.put]
                refine wpAnyH_take (i := 11) (v := ?_) rfl (by kernel_rfl) (by kernel_rfl) (by kernel_rfl) (fun _ _ _ h => h) (Or.inl ⟨by rfl, ?_⟩) (by assumption) ?_
                rotate_left
                · intro w hSw; (try dsimp only at hSw); go_simp; all_goals with_reducible rfl
                try simp only [Act.put]
                refine wpAnyH_take (i := 12) (v := ?_) rfl (by kernel_rfl) (by kernel_rfl) (by kernel_rfl) (fun _ _ _ h => h) (Or.inl ⟨by rfl, ?_⟩) (by assumption) ?_
                rotate_left
                · intro w hSw; (try dsimp only at hSw); go_simp; all_goals with_reducible rfl
                try simp only [Act.put]
                refine wpAnyH_take (i := 13) (v := ?_) rfl (by kernel_rfl) (by kernel_rfl) (by kernel_rfl) (fun _ _ _ h => h) (Or.inl ⟨by rfl, ?_⟩) (by assumption) ?_
                rotate_left
                · intro w hSw; (try dsimp only at hSw); go_simp; all_goals with_reducible rfl
                try simp only [Act.put]
                refine wpAnyH_take (i := 14) (v := ?_) rfl (by kernel_rfl) (by kernel_rfl) (by kernel_rfl) (fun _ _ _ h => h) (Or.inl ⟨by rfl, ?_⟩) (by assumption) ?_
                rotate_left
                · intro w hSw; (try dsimp only at hSw); go_simp; all_goals with_reducible rfl
                try simp only [Act.put]
                refine wpAnyH_take (i := 15) (v := ?_) rfl (by kernel_rfl) (by kernel_rfl) (by kernel_rfl) (fun _ _ _ h => h) (Or.inl ⟨by rfl, ?_⟩) (by assumption) ?_
                rotate_left
                · intro w hSw; (try dsimp only at hSw); go_simp; all_goals with_reducible rfl
                try simp only [Act.put]
                refine wpAnyH_take (i := 16) (v := ?_) rfl (by kernel_rfl) (by kernel_rfl) (by kernel_rfl) (fun _ _ _ h => h) (Or.inl ⟨by rfl, ?_⟩) (by assumption) ?_
                rotate_left
                · intro w hSw; (try dsimp only at hSw); go_simp; all_goals with_reducible rfl
                try simp only [Act.put]
                refine wpAnyH_take (i := 17) (v := ?_) rfl (by kernel_rfl) (by kernel_rfl) (by kernel_rfl) (fun _ _ _ h => h) (Or.inl ⟨by rfl, ?_⟩) (by assumption) ?_
                rotate_left
                · intro w hSw; (try dsimp only at hSw); go_simp; all_goals with_reducible rfl
                try simp only [Act.put]
                refine wpAnyH_take (i := 18) (v := ?_) rfl (by kernel_rfl) (by kernel_rfl) (by kernel_rfl) (fun _ _ _ h => h) (Or.inl ⟨by rfl, ?_⟩) (by assumption) ?_
                rotate_left
                · intro w hSw; (try dsimp only at hSw); go_simp; all_goals with_reducible rfl
                try simp only [Act.put]
                refine wpAnyH_take (i := 20) (v := ?_) rfl (by kernel_rfl) (by kernel_rfl) (by kernel_rfl) (fun _ _ _ h => h) (Or.inl ⟨by rfl, ?_⟩) (by assumption) ?_
                rotate_left
                · intro w hSw; (try dsimp only at hSw); go_simp; all_goals with_reducible rfl
                try simp only [Act.put]
                refine wpAnyH_take (i := 21) (v := ?_) rfl (by kernel_rfl) (by kernel_rfl) (by kernel_rfl) (fun _ _ _ h => h) (Or.inl ⟨by rfl, ?_⟩) (by assumption) ?_
                rotate_left
                · intro w hSw; (try dsimp only at hSw); go_simp; all_goals with_reducible rfl
                try simp only [Act.put]
                refine wpAnyH_take (i := 22) (v := ?_) rfl (by kernel_rfl) (by kernel_rfl) (by kernel_rfl) (fun _ _ _ h => h) (Or.inl ⟨by rfl, ?_⟩) (by assumption) ?_
                rotate_left
                · intro w hSw; (try dsimp only at hSw); go_simp; all_goals with_reducible rfl
                try simp only [Act.put]
                refine wpAnyH_take (i := 23) (v := ?_) rfl (by kernel_rfl) (by kernel_rfl) (by kernel_rfl) (fun _ _ _ h => h) (Or.inl ⟨by rfl, ?_⟩) (by assumption) ?_
                rotate_left
                · intro w hSw; (try dsimp only at hSw); go_simp; all_goals with_reducible rfl
                try simp only [Act.put]
                refine wpAnyH_take (i := 24) (v := ?_) rfl (by kernel_rfl) (by kernel_rfl) (by kernel_rfl) (fun _ _ _ h => h) (Or.inl ⟨by rfl, ?_⟩) (by assumption) ?_
                rotate_left
                · intro w hSw; (try dsimp only at hSw); go_simp; all_goals with_reducible rfl
                try simp only [Act.put]
                refine wpAnyH_take (i := 25) (v := ?_) rfl (by kernel_rfl) (by kernel_rfl) (by kernel_rfl) (fun _ _ _ h => h) (Or.inl ⟨by rfl, ?_⟩) (by assumption) ?_
                rotate_left
                · intro w hSw; (try dsimp only at hSw); go_simp; all_goals with_reducible rfl
                try simp only [Act.put]
                refine wpAnyH_take (i := 26) (v := ?_) rfl (by kernel_rfl) (by kernel_rfl) (by kernel_rfl) (fun _ _ _ h => h) (Or.inl ⟨by rfl, ?_⟩) (by assumption) ?_
                rotate_left
                · intro w hSw; (try dsimp only at hSw); go_simp; all_goals with_reducible rfl
                try simp only [Act.put]
                refine wpAnyH_take (i := 27) (v := ?_) rfl (by kernel_rfl) (by kernel_rfl) (by kernel_rfl) (fun _ _ _ h => h) (Or.inl ⟨by rfl, ?_⟩) (by assumption) ?_
                rotate_left
                · intro w hSw; (try dsimp only at hSw); go_simp; all_goals with_reducible rfl
                try simp only [Act.put]
                refine wpAnyH_take (i := 28) (v := ?_) rfl (by kernel_rfl) (by kernel_rfl) (by kernel_rfl) (fun _ _ _ h => h) (Or.inl ⟨by rfl, ?_⟩) (by assumption) ?_
                rotate_left
                · intro w hSw; (try dsimp only at hSw); go_simp; all_goals with_reducible rfl
                try simp only [Act.put]
                refine wpAnyH_take (i := 29) (v := ?_) rfl (by kernel_rfl) (by kernel_rfl) (by kernel_rfl) (fun _ _ _ h => h) (Or.inl ⟨by rfl, ?_⟩) (by assumption) ?_
                rotate_left
                · intro w hSw; (try dsimp only at hSw); go_simp; all_goals with_reducible rfl
                try simp only [Act.put]
                refine wpAnyH_take (i := 30) (v := ?_) rfl (by kernel_rfl) (by kernel_rfl) (by kernel_rfl) (fun _ _ _ h => h) (Or.inl ⟨by rfl, ?_⟩) (by assumption) ?_
                rotate_left
                · intro w hSw; (try dsimp only at hSw); go_simp; all_goals with_reducible rfl
                try simp only [Act.put]
                refine wpAnyH_take (i := 31) (v := ?_) rfl (by kernel_rfl) (by kernel_rfl) (by kernel_rfl) (fun _ _ _ h => h) (Or.inl ⟨by rfl, ?_⟩) (by assumption) ?_
                rotate_left
                · intro w hSw; (try dsimp only at hSw); go_simp; all_goals with_reducible rfl
                try simp only [Act.put]
                refine wpAnyH_take (i := 32) (v := ?_) rfl (by kernel_rfl) (by kernel_rfl) (by kernel_rfl) (fun _ _ _ h => h) (Or.inl ⟨by rfl, ?_⟩) (by assumption) ?_
                rotate_left
                · intro w hSw; (try dsimp only at hSw); go_simp; all_goals with_reducible rfl
                try simp only [Act.put]
                refine wpAnyH_take (i := 33) (v := ?_) rfl (by kernel_rfl) (by kernel_rfl) (by kernel_rfl) (fun _ _ _ h => h) (Or.inl ⟨by rfl, ?_⟩) (by assumption) ?_
                rotate_left
                · intro w hSw; (try dsimp only at hSw); go_simp; all_goals with_reducible rfl
                try simp only [Act.put]
                refine wpAnyH_take (i := 36) (v := ?_) rfl (by kernel_rfl) (by kernel_rfl) (by kernel_rfl) (fun _ _ _ h => h) (Or.inl ⟨by rfl, ?_⟩) (by assumption) ?_
                rotate_left
                · intro w hSw; (try dsimp only at hSw); go_simp; all_goals with_reducible rfl
                try simp only [Act.put]
                refine wpAnyH_ready (rs := [19]) (by kernel_rfl) (by simp) ?_
                refine AllReadyH.cons rfl (fun K hK => ?_) AllReadyH.nil
                go_simp
                (go_at_call 216; refine (HMA.out _ HD.out).mono ?_; rintro _ W5 ⟨s5, A5, n5, c5, z5, rfl, ho5, hz5, hb5⟩; have HB5 := Lib.hid (HD.out.trans hb5))
                try go_wp2_with fail
                clear hHeld
                refine hK.out _ _ (HCS.out W5 HB5.out) (fun hHeld => ?_)
                clear hK
                clear K
                try simp only [Act.put]
                refine wpAnyH_ready (rs := [34]) (by kernel_rfl) (by simp) ?_
                refine AllReadyH.cons rfl (fun K hK => ?_) AllReadyH.nil
                go_simp
                (go_at_call 216; refine (HMB.out _ HB5.out).mono ?_; rintro _ W6 ⟨s6, A6, n6, c6, z6, rfl, ho6, hz6, hb6⟩; have HB6 := Lib.hid (HB5.out.trans (hb6.mono HB5.out.size)); have HO5 := Lib.hid (ho5.next hb6))
                try go_wp2_with fail
                clear hHeld
                refine hK.out _ _ (HCS.out W6 HB6.out) (fun hHeld => ?_)
                clear hK
                clear K
                try simp only [Act.put]
                refine wpAnyH_ready (rs := [35]) (by kernel_rfl) (by simp) ?_
                refine AllReadyH.cons rfl (fun K hK => ?_) AllReadyH.nil
                go_simp
                (go_at_call 248; refine (sub_any HO5.out.rd ho6.rd (by rw [HO5.out.len, hz5.out]; have := HZL.out.1; omega) (by rw [ho6.len, hz6.out]; have := HZL.out.2; omega)).mono ?_; rintro _ W7 ⟨s7, A7, n7, c7, z7, rfl, ho7, hz7, hb7⟩; have HB7 := Lib.hid (HB6.out.trans (hb7.mono HB6.out.size)))
                try go_wp2_with fail
                clear hHeld
                refine hK.out _ _ (HCS.out W7 HB7.out) (fun hHeld => ?_)
                clear hK
                clear K
                try simp only [Act.put]
                refine wpAnyH_ready (rs := [37]) (by kernel_rfl) (by simp) ?_
                refine AllReadyH.cons rfl (fun K hK => ?_) AllReadyH.nil
                go_simp
                (go_at_call 190; refine (exact_any ho7.rd (HO4.out W7 HB7.out) (by rw [ho7.len, hz7.out, hz5.out, hz6.out]; have h1 := Zz.zl_sub (Fs k i j * Fs k k k) (Fs k k j * Fs k i k); have h2 := HZL.out; omega) HN4.out.1 HN4.out.2).mono ?_; rintro _ W8 ⟨s8, A8, n8, c8, z8, k8, rfl, ho8, hz8, hb8⟩; have HB8 := Lib.hid (HB7.out.trans (hb8.mono HB7.out.size)))
                try go_wp2_with fail
                clear hHeld
                refine hK.out _ _ (HCS.out W8 HB8.out) (fun hHeld => ?_)
                clear hK
                clear K
                try simp only [Act.put]
                refine wpAnyH_take (i := 38) (v := ?_) rfl (by kernel_rfl) (by kernel_rfl) (by kernel_rfl) (fun _ _ _ h => h) (Or.inl ⟨by rfl, ?_⟩) (by assumption) ?_
                rotate_left
                · intro w hSw; (try dsimp only at hSw); go_simp; all_goals with_reducible rfl
                try simp only [Act.put]
                refine wpAnyH_take (i := 39) (v := ?_) rfl (by kernel_rfl) (by kernel_rfl) (by kernel_rfl) (fun _ _ _ h => h) (Or.inl ⟨by rfl, ?_⟩) (by assumption) ?_
                rotate_left
                · intro w hSw; (try dsimp only at hSw); go_simp; all_goals with_reducible rfl
                try simp only [Act.put]
                refine wpAnyH_take (i := 40) (v := ?_) rfl (by kernel_rfl) (by kernel_rfl) (by kernel_rfl) (fun _ _ _ h => h) (Or.inl ⟨by rfl, ?_⟩) (by assumption) ?_
                rotate_left
                · intro w hSw; (try dsimp only at hSw); go_simp; all_goals with_reducible rfl
                try simp only [Act.put]
                refine wpAnyH_take (i := 41) (v := ?_) rfl (by kernel_rfl) (by kernel_rfl) (by kernel_rfl) (fun _ _ _ h => h) (Or.inl ⟨by rfl, ?_⟩) (by assumption) ?_
                rotate_left
                · intro w hSw; (try dsimp only at hSw); go_simp; all_goals with_reducible rfl
                try simp only [Act.put]
                refine wpAnyH_take (i := 42) (v := ?_) rfl (by kernel_rfl) (by kernel_rfl) (by kernel_rfl) (fun _ _ _ h => h) (Or.inl ⟨by rfl, ?_⟩) (by assumption) ?_
                rotate_left
                · intro w hSw; (try dsimp only at hSw); go_simp; all_goals with_reducible rfl
                try simp only [Act.put]
                refine wpAnyH_done (by kernel_rfl) ?_ _
                obtain ⟨xf0, xf1, xf2, xf3, xf4, xf5⟩ := HCX.out W8 HB8.out
                have HPUT := Lib.hid ((HX.out.1.next HB8.out).put (i := i) (j := j) (gi := gi) (e := (s8, A8, n8, c8)) (z := z8) hgi (ho8.base (Nat.le_trans HBW.out HB7.out.size)))
                have HZV := Lib.hid (show z8 = Pz.ex (Fs k i j * Fs k k k - Fs k k j * Fs k i k) (ls k) by
                  unfold Pz.ex
                  rw [← hz5.out, ← hz6.out, ← hz7.out]
                  rcases hz8.out with ⟨e1, e2, _⟩ | ⟨e1, e2, _⟩
                  · rw [if_pos e1, e2]
                  · rw [if_neg e1, e2])
                have HZ8 := Lib.hid (((HX.out.2.1.next HB8.out).far (p := ⟨gi, j * 2, none⟩) HNG.out.2.2.1 (.bool s8)).far (p := ⟨gi, j * 2 + 1, none⟩) HNG.out.2.2.1 (.slice A8 n8 c8))
                have HR8 := Lib.hid (((HX.out.2.2.2.1.next HB8.out).far (p := ⟨gi, j * 2, none⟩) HNG.out.2.2.2 (.bool s8)).far (p := ⟨gi, j * 2 + 1, none⟩) HNG.out.2.2.2 (.slice A8 n8 c8))
                have HKT := Lib.hid (show KeepT W8 ((W8.setCell ⟨gi, j * 2, none⟩ (.bool s8)).setCell ⟨gi, j * 2 + 1, none⟩ (.slice A8 n8 c8)) from keep_put ((HX.out.1.next HB8.out).row i gi hgi).2.1 j _ _)
                have HO8 := Lib.hid ((HX.out.2.2.1.next HB8.out).keep HKT.out)
                have HBGI := Lib.hid ((HX.out.1.next HB8.out).row i gi hgi).1
                have HBF := Lib.hid (((HX.out.2.2.2.2.trans (HB8.out.mono (Nat.le_trans HBB.out.1 HX.out.2.2.2.2.size))).setCell (p := ⟨gi, j * 2, none⟩) HBGI.out (.bool s8)).setCell (p := ⟨gi, j * 2 + 1, none⟩) HBGI.out (.slice A8 n8 c8))
                have HMF := Lib.hid (HPUT.out.congr (F' := Pz.mid (Fs k) k (ls k) i j) (fun i' j' _ _ => by
                  refine Eq.trans ?_ (Pz.mid_step (F := Fs k) (k := k) (l := ls k) (i := i) (j := j) (by omega) (by omega) i' j').symm
                  show (if i' = i ∧ j' = j then z8 else Pz.mid (Fs k) k (ls k) i q i' j') = _
                  by_cases e1 : i' = i ∧ j' = j
                  · rw [if_pos e1, if_pos e1, HZV.out]
                  · rw [if_neg e1, if_neg e1, HJQ.out]))
                clear hHeld ho5 ho6 ho7 ho8 hb5 hb6 hb7 hb8 hz5 hz6 hz7 hz8
                show Oper.wp Tryz.prog _ _ _ _ _
                go_simp
                try refine NoPanic.normal ?_
                go_wp2_with fail
                go_roundw
                case rel => exact ⟨j, _, rfl, by omega, by omega, HMF.out, HZ8.out, HO8.out, HR8.out, HBF.out⟩
                case measure => simp [intOf]
end Go.Proofs.YtipbpdiahemmpaaGreat
