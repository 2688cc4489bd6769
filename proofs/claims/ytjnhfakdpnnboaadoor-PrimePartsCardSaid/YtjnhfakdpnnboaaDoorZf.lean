/- Appending, told to the block: where there is room, in place; else in a new block, and nothing that was there changes. -/
import Derived.Test.YtjnhfakdpnnboaaDoorZe
import Derived.ArgAppend
import Derived.Deep.DeepAppendRoom
namespace Go.Proofs.YtjnhfakdpnnboaaDoor
open Go.RowKit Go.IntWalk

theorem wpList_append_two {P : Program} (w : World) {ops : Array Oper} {rest : List Oper} {o : Oper} {a : Act} {Q : Exit → Act → World → Prop} (hgd : o.guard = none) (s x : Operand) (t : TypeId)
    (ho : o.op = .call { callee := .builtin .append, args := #[s, x], argTypes := #[t, t] })
    (base : Nat) (e : TypeId) (i : TypeInfo) (z : Value) (size bytes : Nat) (ht : P.underlying t = some (.slice e)) (hi : P.info? e = some i) (hz : i.zero = some z)
    (hsize : i.size = size) (hby : i.bytes = bytes) (hzs : z.cells.size = size) (hsz : 0 < size)
    (v : Value) (n g cap : Nat) (xs : List Value) (hs : a.eval s = v) (hv : v = .slice (some ⟨g, 0, none⟩) n cap) (hown : w.ownsRow base e size v n xs)
    (ad : Addr) (m c : Nat) (news : List Value) (hx : a.eval x = .slice (some ad) m c) (hl : news.length = m * size) (hnews : ∀ j u, news[j]? = some u → w.cell? (ad.add j) = some u) (h1 : ∀ u ∈ news, u.oneCell' = true)
    (h63 : n + m ≤ maxLen) (hbytes : (n + m) * bytes ≤ 140737488355328) (hbase : base ≤ w.heap.size)
    (h : ∀ v' w', w'.ownsRow base e size v' (n + m) (xs ++ news) → ((v'.ownBlock = some g ∧ w.grownBy w' (some g)) ∨ ((∀ k, v'.ownBlock = some k → w.heap.size ≤ k) ∧ w.grownBy w' none)) → wpList P ops Q rest (a.put o.dst v') w') :
    wpList P ops Q (o :: rest) a w := by
  subst hv
  by_cases hroom : n + m ≤ cap
  · exact wpList_append_own_spare w hgd s x t ho base e i size ht hi hsize g n cap xs hs hown ad m c news hx hl hnews h1 hroom fun w' h2 h3 => h _ w' h2 (.inl ⟨rfl, h3⟩)
  · refine wpList_append_grows w hgd s x t ho e i z size bytes ht hi hz hsize hby hzs hsz (some ⟨g, 0, none⟩) n cap xs hs (fun e => by cases e) hown.1 (fun b e j u hj => ?_) ad m c news hx hl hnews h1 (by omega) h63 hbytes fun v' w' h2 h3 => h v' w' ?_ (.inr ⟨own_block h2, h3⟩)
    · cases e
      exact hown.cells (g := g) rfl j u hj
    · refine ⟨h2.1, ?_⟩
      rcases h2.2 with h4 | ⟨g', cap', cur, h4, h5, h6⟩
      · exact .inl h4
      · exact .inr ⟨g', cap', cur, h4, Nat.le_trans hbase h5, h6⟩
/-- The words M lie at the head of block g. -/
def Rd (w : World) (g : Nat) (M : List Nat) : Prop := g < w.heap.size ∧ ∀ j d : Nat, M[j]? = some d → w.cell? ⟨g, j, none⟩ = some (.int .u32 d)
theorem LU.rd {w : World} {b g c : Nat} {C : List Nat} (h : LU w b g c C) : Rd w g C := ⟨h.lt, fun _ _ hu => h.cell hu⟩
theorem Rd.below {w w' : World} {g B : Nat} {M : List Nat} (h : Rd w g M) (hb : Below B w w') (hB : g < B) : Rd w' g M :=
  ⟨Nat.lt_of_lt_of_le h.1 hb.size, fun j d hd => (hb.cell (p := ⟨g, j, none⟩) hB).trans (h.2 j d hd)⟩
/-- One word more; what is read at the head of an older block stays. -/
theorem LU.two {W w1 : World} {b g q x : Nat} {C M X : List Nat} {v' : Value} {o : Obj} (hM : C = M ++ X) (hR : Rd W q M) (hown' : w1.ownsRow b 25 1 v' (C.length + 1) (uc C ++ [Value.int .u32 x]))
    (hg : (v'.ownBlock = some g ∧ (W.alloc o).grownBy w1 (some g)) ∨ ((∀ k, v'.ownBlock = some k → (W.alloc o).heap.size ≤ k) ∧ (W.alloc o).grownBy w1 none)) :
    ∃ g' c', v' = .slice (some ⟨g', 0, none⟩) (C ++ [x]).length c' ∧ LU w1 b g' c' (C ++ [x]) ∧ Ox g W w1 ∧ (g' = g ∨ W.heap.size ≤ g') ∧ Rd w1 q M := by
  obtain ⟨g', c', rfl⟩ := ownsRow_succ hown'
  have hLU : LU w1 b g' c' (C ++ [x]) := by
    unfold LU
    rw [uc_append, List.length_append]
    exact hown'
  have hO : Ox g W w1 := by
    rcases hg with ⟨_, hg⟩ | ⟨_, hg⟩
    · refine ⟨hg.os, hg.tape, hg.output, by have := hg.size; simp at this; omega, fun k hk hl => (hg.block k (by simp; omega) (fun e => hk ?_)).trans (Below.heap_alloc W o k hl)⟩
      cases e; rfl
    · exact ⟨hg.os, hg.tape, hg.output, by have := hg.size; simp at this; omega, fun k _ hl => (hg.block k (by simp; omega) (fun e => by cases e)).trans (Below.heap_alloc W o k hl)⟩
  refine ⟨g', c', by rw [List.length_append]; rfl, hLU, hO, ?_, Nat.lt_of_lt_of_le hR.1 hO.size, fun j d hd => ?_⟩
  · rcases hg with ⟨e, _⟩ | ⟨e, _⟩
    · left; injection e
    · right
      have := e g' rfl
      simp at this
      omega
  · by_cases hq : q = g
    · rcases hg with ⟨e, _⟩ | ⟨_, hg⟩
      · have e' : g' = g := by injection e
        rw [hq, ← e']
        refine hLU.cell ?_
        rw [hM, List.append_assoc, List.getElem?_append_left (some_lt hd)]
        exact hd
      · have h2 : w1.heap[q]? = W.heap[q]? := (hg.block q (by have := hR.1; simp; omega) (fun e => by cases e)).trans (Below.heap_alloc W o q hR.1)
        exact (World.cell?_of_block (a := ⟨q, j, none⟩) h2).trans (hR.2 j d hd)
    · exact (World.cell?_of_block (a := ⟨q, j, none⟩) (hO.far q hq hR.1)).trans (hR.2 j d hd)
end Go.Proofs.YtjnhfakdpnnboaaDoor
