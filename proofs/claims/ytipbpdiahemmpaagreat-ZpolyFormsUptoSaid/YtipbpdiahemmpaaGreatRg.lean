/- A region that draws its order and ends with a store into a cell that it loads: all but the last operation is held, the last one comes last. Nothing of the program. -/
import Derived.Deep.RegionHeld3
import Derived.StillTail
namespace Go.Proofs.YtipbpdiahemmpaaGreat
open Go

section
variable {P : Program} {ops : Array Oper} {Q : Exit → Act → World → Prop} {md : Region.Mode} {S : World → Prop}
/-- Each operation waits for elder ones alone. -/
def dagB (md : Region.Mode) (ops : Array Oper) : Bool := (List.range ops.size).all fun j => match ops[j]? with
  | some o => o.after.toList.all fun e => !Region.binds md e || decide (e.on < j)
  | none => true
/-- What has come up had come up whatever it waits for. -/
def Shutd (md : Region.Mode) (ops : Array Oper) (listed : Array Bool) : Prop := ∀ (j : Nat) (o : Oper), ops[j]? = some o → listed.getD j false = true → ∀ e ∈ o.after, Region.binds md e = true → listed.getD e.on false = true
theorem getD_set_same {l : Array Bool} {i : Nat} (h : i < l.size) (d : Bool) : (l.setIfInBounds i true).getD i d = true := by
  simp [Array.getD, h]
theorem getD_set_true {l : Array Bool} {i j : Nat} {d : Bool} (h : l.getD j d = true) : (l.setIfInBounds i true).getD j d = true := by
  by_cases e : i = j
  · subst e
    rcases Nat.lt_or_ge i l.size with h1 | h1
    · exact getD_set_same h1 d
    · simp [Array.getD, Nat.not_lt.2 h1] at h ⊢
      exact h
  · rw [getD_set_ne d e]; exact h
theorem Shutd.set {listed : Array Bool} {i : Nat} (h : Shutd md ops listed) (hi : i ∈ Region.ready md ops listed) : Shutd md ops (listed.setIfInBounds i true) := by
  intro j o ho hj e he hb
  by_cases hij : i = j
  · subst hij
    obtain ⟨_, o', ho', h1⟩ := mem_ready.1 hi
    rw [ho] at ho'
    injection ho' with ho'
    subst ho'
    exact getD_set_true (h1 e he hb)
  · rw [getD_set_ne false hij] at hj
    exact getD_set_true (h j o ho hj e he hb)
theorem ready_empty {listed : Array Bool} (hd : dagB md ops = true) (hs : listed.size = ops.size) (hr : Region.ready md ops listed = []) : ∀ j, j < ops.size → listed.getD j false = true := by
  intro j
  induction j using Nat.strongRecOn with
  | _ j ih =>
    intro hj
    cases hl : listed.getD j false with
    | true => rfl
    | false =>
      have ho : ops[j]? = some ops[j] := Array.getElem?_eq_getElem hj
      have hm : j ∈ Region.ready md ops listed := mem_ready.2 ⟨getD_in (by omega) hl, _, ho, fun e he hb => by
        have h1 := List.all_eq_true.1 hd j (by simpa using hj)
        simp only [ho] at h1
        have h2 := List.all_eq_true.1 h1 e (by simpa using he)
        simp only [hb, Bool.not_true, Bool.false_or, decide_eq_true_eq] at h2
        exact ih e.on h2 (by omega)⟩
      rw [hr] at hm
      cases hm
/-- Each operation but e is waited for, by another than e. -/
def sinkB' (md : Region.Mode) (ops : Array Oper) (n e : Nat) : Bool :=
  (List.range n).all fun i => i == e || (List.range (n + 1)).any fun j => decide (i < j) && j != e && Region.waitsFor md ops j i
theorem last_waits {n x : Nat} {listed : Array Bool} (hsink : sinkB' md ops n x = true) (hc : Shutd md ops listed) (hn : n ∈ Region.ready md ops listed) : ∀ i, i < n → i ≠ x → listed.getD i false = true := by
  have key : ∀ d i, i < n → i ≠ x → n - i = d → listed.getD i false = true := by
    intro d
    induction d using Nat.strongRecOn with
    | _ d ih =>
      intro i hi hix hd
      have h1 := List.all_eq_true.1 hsink i (by simpa using hi)
      rw [Bool.or_eq_true] at h1
      obtain ⟨j, hj, h2⟩ := List.any_eq_true.1 (h1.resolve_left (by simpa using hix))
      have hjn : j < n + 1 := by simpa using hj
      simp only [Bool.and_eq_true, decide_eq_true_eq, bne_iff_ne] at h2
      obtain ⟨oj, hoj, e, he, hb, rfl⟩ := Region.waitsFor_spec h2.2
      rcases Nat.eq_or_lt_of_le (Nat.le_of_lt_succ hjn) with e1 | e1
      · subst e1
        obtain ⟨_, o', ho', h3⟩ := mem_ready.1 hn
        rw [hoj] at ho'
        injection ho' with ho'
        subst ho'
        exact h3 e he hb
      · exact hc j oj hoj (ih (n - j) (by omega) j e1 h2.1.2 rfl) e he hb
  exact fun i hi hx => key _ i hi hx rfl

/-- The post behind all but the last operation: the last one comes, then what was asked. -/
def lastPost (P : Program) (o : Oper) (Q : Exit → Act → World → Prop) : Exit → Act → World → Prop
  | .normal, a, w => o.wp P a w (Q .normal) Q
  | e, a, w => Q e a w
/-- In the last one's place: nothing. -/
def idle (o : Oper) : Oper := { o with op := .move (.const undef) }
theorem lastPost_out {o : Oper} (h : LetsOut (lastPost P o Q)) : LetsOut Q := h
theorem wp_lastPost {o o1 : Oper} {K : Act → World → Prop} {a : Act} {w : World} (h : o1.wp P a w K (lastPost P o Q)) : o1.wp P a w K Q := by
  unfold Oper.wp at *
  revert h
  generalize (execOp a.eval o1).run P w = r
  intro h
  cases r with
  | ok x w1 =>
    cases x <;> first | exact h | exact Calls.mono h (fun e _ he => by cases e <;> exact he)
  | halt x w1 => cases x <;> exact h
theorem wpOp_lastPost {o : Oper} {K : Act → World → Prop} {a : Act} {w : World} {i : Nat} (h : wpOp P ops (lastPost P o Q) i K a w) : wpOp P ops Q i K a w := by
  unfold wpOp at *
  cases ho : ops[i]? with
  | none => rw [ho] at h; exact h
  | some o1 =>
    rw [ho] at h
    simp only at h ⊢
    split
    · rename_i hw
      rw [if_pos hw] at h
      exact h.imp wp_lastPost (fun h => ⟨h.1, lastPost_out h.2⟩)
    · rename_i hw
      rw [if_neg hw] at h
      exact h
theorem idle_wp {o : Oper} (hd : o.dst = none) {K : Act → World → Prop} {a : Act} {w : World} (h : (idle o).wp P a w K Q) : K a w := by
  simp [Oper.wp, idle, execOp, hd, Act.put, Oper.upon] at h
  exact h
theorem idle_asks {o : Oper} {a : Act} {w : World} : ¬ (idle o).asks P a w := by
  intro h
  have h1 := h.1
  have e : ((execOp a.eval (idle o)).runT P w #[]).2 = #[] := rfl
  rw [e] at h1
  simp at h1
theorem ready_idle {n : Nat} {o : Oper} (hn : ops[n]? = some o) (listed : Array Bool) (j : Nat) : j ∈ Region.ready md (ops.setIfInBounds n (idle o)) listed ↔ j ∈ Region.ready md ops listed := by
  rw [mem_ready, mem_ready]
  by_cases h : n = j
  · subst h
    have hlt := (Array.getElem?_eq_some_iff.1 hn).1
    rw [Array.getElem?_setIfInBounds_self_of_lt hlt, hn]
    simp [idle]
  · rw [Array.getElem?_setIfInBounds_ne h]
theorem yielded_idle {n : Nat} {o : Oper} (hn : ops[n]? = some o) (tmps : Array Value) : yielded (ops.setIfInBounds n (idle o)) tmps = yielded ops tmps := by
  funext j
  unfold yielded
  by_cases h : n = j
  · subst h
    have hlt := (Array.getElem?_eq_some_iff.1 hn).1
    rw [Array.getElem?_setIfInBounds_self_of_lt hlt, hn]
    rfl
  · rw [Array.getElem?_setIfInBounds_ne h]
/-- A part of a tuple is read: whatever the world. -/
theorem extract_yields {o1 : Oper} {x : Operand} {k : Nat} (hop : o1.op = .extract x k) (hg : o1.guard = none) {K : Act → World → Prop} {a : Act} {w : World} {i : Nat} (hi : ops[i]? = some o1) (h : wpOp P ops Q i K a w) : ∃ v, Yields P ops o1 v a ∧ K (a.put o1.dst v) w := by
  have hw : Region.wanted o1 (yielded ops a.tmps) = true := by simp [Region.wanted, hg]
  unfold wpOp at h
  simp only [hi, hw, if_true] at h
  have quiet : ((execOp a.eval o1).runT P w #[]).2 = #[] := by
    unfold execOp
    rw [hop]
    simp only [Instr.extract]
    split
    · split <;> rfl
    · rfl
  have hno : ¬ o1.asks P a w := fun h => by
    have h1 := h.1
    rw [quiet] at h1
    simp at h1
  have h := h.resolve_right fun h => hno h.1
  unfold Oper.wp at h
  have hrun : (∃ v, ∀ w, (execOp a.eval o1).run P w = .ok (.value v) w) ∨ ∃ msg, (execOp a.eval o1).run P w = .halt (.stuck msg) w := by
    unfold execOp
    rw [hop]
    simp only [Instr.extract]
    split
    · split
      · exact .inl ⟨_, fun _ => rfl⟩
      · exact .inr ⟨_, rfl⟩
    · exact .inr ⟨_, rfl⟩
  rcases hrun with ⟨v, hv⟩ | ⟨msg, hm⟩
  · rw [hv] at h
    exact ⟨v, .inl ⟨hw, hv⟩, h⟩
  · rw [hm] at h
    exact h.elim
theorem wpAny_last {n x : Nat} {o : Oper} (hn : ops[n]? = some o) (hsz : ops.size = n + 1) (hdst : o.dst = none) (hg : o.guard = none) (hd : dagB md ops = true) (hsink : sinkB' md ops n x = true) {ox : Oper} {X : Operand} {kx : Nat} (hx : ops[x]? = some ox) (hop : ox.op = .extract X kx) (hxg : ox.guard = none) (hxn : x < n) (hap : ox.apart ops o = true) (hsel : Region.noSelect ops = true) (hQ : ∀ c d v (a : Act) w, Q (.panic c) (a.put d v) w → Q (.panic c) a w) :
    ∀ (fuel : Nat) (listed : Array Bool) (a : Act) (w : World), listed.size = ops.size → listed.getD n true = false → Shutd md ops listed → wpAnyH P md (ops.setIfInBounds n (idle o)) (lastPost P o Q) S fuel listed a w → wpAny P md ops Q fuel listed a w := by
  intro fuel
  have never : ∀ listed : Array Bool, listed.size = ops.size → listed.getD n true = false → Region.ready md ops listed ≠ [] := by
    intro listed hs hl hr
    have := ready_empty hd hs hr n (by omega)
    rw [getD_both hl] at this
    cases this
  have empty : ∀ listed : Array Bool, Region.ready md (ops.setIfInBounds n (idle o)) listed = [] → Region.ready md ops listed = [] := by
    intro listed h
    apply List.eq_nil_iff_forall_not_mem.2
    intro j hj
    have := (ready_idle (md := md) hn listed j).2 hj
    rw [h] at this
    cases this
  induction fuel with
  | zero =>
    intro listed a w hs hl _ H
    exact absurd (empty listed H.1) (never listed hs hl)
  | succ fuel ih =>
    intro listed a w hs hl hc H
    have swap : ∀ i, i ≠ n → i ∈ Region.ready md ops listed → wpOp P ops (lastPost P o Q) i (fun a' w' => S w' ∧ wpAnyH P md (ops.setIfInBounds n (idle o)) (lastPost P o Q) S fuel (listed.setIfInBounds i true) a' w') a w := by
      intro i hin hi
      have h1 := H.2 i ((ready_idle hn listed i).2 hi)
      unfold wpOp at h1 ⊢
      rw [Array.getElem?_setIfInBounds_ne (Ne.symm hin), yielded_idle hn] at h1
      exact h1
    by_cases hpost : n ∈ Region.ready md ops listed ∧ listed.getD x false = false
    · obtain ⟨hnr, hxl⟩ := hpost
      have hall := last_waits hsink hc hnr
      have hxr : x ∈ Region.ready md ops listed := mem_ready.2 ⟨getD_in (by omega) hxl, _, hx, fun e he hb => by
        have h1 := List.all_eq_true.1 hd x (by simp; omega)
        simp only [hx] at h1
        have h2 := List.all_eq_true.1 h1 e (by simpa using he)
        simp only [hb, Bool.not_true, Bool.false_or, decide_eq_true_eq] at h2
        exact hall e.on (by omega) (by omega)⟩
      obtain ⟨v, hy, hK⟩ := extract_yields hop hxg hx (swap x (by omega) hxr)
      refine wpAny_first hx (Region.noSelect_spec hsel) (fun c a w h => hQ c _ _ a w h) fuel listed a w (fun j oj hj hjx hun _ => ?_) hxr hy (ih (listed.setIfInBounds x true) _ w (by simpa using hs) ?_ (hc.set hxr) hK.2)
      · have hjs := (Array.getElem?_eq_some_iff.1 hj).1
        rcases Nat.eq_or_lt_of_le (Nat.le_of_lt_succ (hsz ▸ hjs)) with e1 | e1
        · subst e1
          rw [hn] at hj
          injection hj with hj
          rw [← hj]
          exact hap
        · have := hall j e1 hjx
          rw [getD_both hun] at this
          cases this
      · rw [getD_set_ne true (by omega)]
        exact hl
    refine ⟨fun h => absurd h (never listed hs hl), fun i hi => ?_⟩
    have h1 := H.2 i ((ready_idle hn listed i).2 hi)
    by_cases hin : i = n
    · subst hin
      have hall : ∀ j, j < i → listed.getD j false = true := fun j hj => by
        by_cases hjx : j = x
        · subst hjx
          cases h : listed.getD j false with
          | true => rfl
          | false => exact absurd ⟨hi, h⟩ hpost
        · exact last_waits hsink hc hi j hj hjx
      have hlt := (Array.getElem?_eq_some_iff.1 hn).1
      have hdone : Region.ready md ops (listed.setIfInBounds i true) = [] := by
        apply List.eq_nil_iff_forall_not_mem.2
        intro j hj
        obtain ⟨h2, o', ho', _⟩ := mem_ready.1 hj
        have hjs := (Array.getElem?_eq_some_iff.1 ho').1
        have h3 : (listed.setIfInBounds i true).getD j false = true := by
          by_cases hji : i = j
          · subst hji; exact getD_set_same (by omega) false
          · rw [getD_set_ne false hji]; exact hall j (by omega)
        rw [getD_both h2] at h3
        cases h3
      have hdone' : Region.ready md (ops.setIfInBounds i (idle o)) (listed.setIfInBounds i true) = [] := by
        apply List.eq_nil_iff_forall_not_mem.2
        intro j hj
        have := (ready_idle hn _ j).1 hj
        rw [hdone] at this
        cases this
      have hpost : o.wp P a w (Q .normal) Q := by
        unfold wpOp at h1
        rw [Array.getElem?_setIfInBounds_self_of_lt hlt] at h1
        have hw : Region.wanted (idle o) (yielded (ops.setIfInBounds i (idle o)) a.tmps) = true := by simp [Region.wanted, idle, hg]
        simp only [hw, if_true] at h1
        have h4 : lastPost P o Q .normal a w := by
          rcases h1 with h1 | h1
          · have h1 := idle_wp hdst h1
            cases fuel with
            | zero => exact h1.2.2
            | succ fuel => exact h1.2.1 hdone'
          · exact absurd h1.1 idle_asks
        exact h4
      unfold wpOp
      simp only [hn]
      have hw : Region.wanted o (yielded ops a.tmps) = true := by simp [Region.wanted, hg]
      rw [if_pos hw]
      refine .inl (Oper.wp_mono (fun a' w' h => ?_) hpost)
      cases fuel with
      | zero => exact ⟨hdone, h⟩
      | succ fuel => exact ⟨fun _ => h, fun j hj => by rw [hdone] at hj; cases hj⟩
    · have h2 := swap i hin hi
      refine wpOp_mono (fun a' w' h => ?_) (wpOp_lastPost h2)
      refine ih (listed.setIfInBounds i true) a' w' (by simpa using hs) ?_ (hc.set hi) h.2
      rw [getD_set_ne true hin]
      exact hl
/-- The beginning: the last operation waits for all others. -/
theorem wp_region_last {id n : Nat} {a : Act} {w : World} {o : Oper} (hm : P.follows .mixedOrders = true) (hn : ops[n]? = some o) (hsz : ops.size = n + 1) (hdst : o.dst = none) (hg : o.guard = none) (hd : dagB .any ops = true) {x : Nat} (hsink : sinkB' .any ops n x = true) {ox : Oper} {X : Operand} {kx : Nat} (hx : ops[x]? = some ox) (hop : ox.op = .extract X kx) (hxg : ox.guard = none) (hxn : x < n) (hap : ox.apart ops o = true) (hsel : Region.noSelect ops = true) (hQ : ∀ c d v (a : Act) w, Q (.panic c) (a.put d v) w → Q (.panic c) a w) (hS : S w.drew)
    (h : S w.drew → wpAnyH P .any (ops.setIfInBounds n (idle o)) (lastPost P o Q) S ops.size (Array.replicate ops.size false) a w.drew) : (Code.region id ops true).wp P Q a w :=
  wp_region_any hm (wpAny_last hn hsz hdst hg hd hsink hx hop hxg hxn hap hsel hQ _ _ _ _ (by simp) (by simp [Array.getD, hsz]) (fun j o ho hj => by simp [Array.getD] at hj) (h hS))
end
end Go.Proofs.YtipbpdiahemmpaaGreat
