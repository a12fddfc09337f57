/-
  A region that draws its order, cut: the operations ahead of number n in any order, the others behind them in theirs. Nothing of the program stands in it.
-/
import Derived.StillTail
import Derived.Deep.RegionHeld
import Derived.Test.YtdcjfaplgpeonaaM
namespace Go.Dm
open Go

section
variable {P : Program} {ops : Array Oper} {md : Region.Mode}

/-- What is asked of the list: guards and edges point backward, the head's operations are waited for, the tail is a chain. -/
def backB (md : Region.Mode) (ops : Array Oper) (n : Nat) : Bool :=
  (List.range n).all fun j => ((ops[j]?).map fun o => o.after.all (fun e => !Region.binds md e || decide (e.on < j)) && (match o.guard with | some (g, _) => decide (g < n) | none => true)).getD true
def cutB (md : Region.Mode) (ops : Array Oper) (n : Nat) : Bool :=
  decide (n < ops.size) && Region.sinkB md ops n && Region.chainB md ops n && backB md ops n && Region.seqB md ops (ops.size - n) n (Array.replicate n true ++ Array.replicate (ops.size - n) false)

theorem backB_spec {n j : Nat} {o : Oper} (h : backB md ops n = true) (hj : j < n) (ho : ops[j]? = some o) :
    (∀ e ∈ o.after, Region.binds md e = true → e.on < j) ∧ ∀ g b, o.guard = some (g, b) → g < n := by
  have h1 := List.all_eq_true.1 h j (List.mem_range.2 hj)
  rw [ho] at h1
  simp only [Option.map_some, Option.getD_some, Bool.and_eq_true] at h1
  refine ⟨fun e he hb => ?_, fun g b hg => ?_⟩
  · obtain ⟨i, hi, rfl⟩ := Array.mem_iff_getElem.1 he
    have := Array.all_eq_true.1 h1.1 i hi
    rw [hb] at this
    simpa using this
  · have h2 := h1.2
    rw [hg] at h2
    simpa using h2

theorem wpAny_more {Q : Exit → Act → World → Prop} : ∀ (f : Nat) (listed : Array Bool) (a : Act) (w : World), wpAny P md ops Q f listed a w → wpAny P md ops Q (f + 1) listed a w
  | 0, _, _, _, h => ⟨fun _ => h.2, fun i hi => by rw [h.1] at hi; cases hi⟩
  | f + 1, _, _, _, h => ⟨h.1, fun i hi => wpOp_mono (fun a' w' h' => wpAny_more f _ a' w' h') (h.2 i hi)⟩
theorem wpAny_more' {Q : Exit → Act → World → Prop} (k : Nat) {f : Nat} {listed : Array Bool} {a : Act} {w : World} (h : wpAny P md ops Q f listed a w) : wpAny P md ops Q (k + f) listed a w := by
  induction k with
  | zero => rw [Nat.zero_add]; exact h
  | succ k ih => rw [Nat.add_right_comm]; exact wpAny_more _ _ _ _ ih

/-- What is owed behind the head: the tail. -/
def cutQ (P : Program) (ops : Array Oper) (Q : Exit → Act → World → Prop) (tail : List Oper) : Exit → Act → World → Prop
  | .normal, a, w => wpList P ops Q tail a w
  | e, a, w => Q e a w

theorem cutQ_lets {Q : Exit → Act → World → Prop} {tail : List Oper} : LetsOut (cutQ P ops Q tail) ↔ LetsOut Q := Iff.rfl

theorem wp_cutQ {o : Oper} {a : Act} {w : World} {K : Act → World → Prop} {Q : Exit → Act → World → Prop} {tail : List Oper} (h : o.wp P a w K (cutQ P ops Q tail)) : o.wp P a w K Q := by
  unfold Oper.wp at *
  generalize (execOp a.eval o).run P w = r at *
  cases r with
  | ok n w' =>
    cases n <;> simp only [Oper.upon] at h ⊢ <;>
      first
        | exact h
        | exact Calls.mono h (fun e w'' he => by cases e <;> exact he)
  | halt x w' => cases x <;> simp only [Oper.upon] at h ⊢ <;> exact h

theorem wanted_cut {n : Nat} {o : Oper} {tmps : Array Value} (hg : ∀ g b, o.guard = some (g, b) → g < n) : Region.wanted o (yielded (ops.toList.take n).toArray tmps) = Region.wanted o (yielded ops tmps) := by
  cases ho : o.guard with
  | none => simp [Region.wanted, ho]
  | some p =>
    obtain ⟨g, b⟩ := p
    have := hg g b ho
    have e : (ops.toList.take n).toArray[g]? = ops[g]? := by simp [this]
    simp only [Region.wanted, ho, yielded, e]

theorem head_at {n i : Nat} (hi : i < n) : (ops.toList.take n).toArray[i]? = ops[i]? := by simp [hi]
theorem head_none {n i : Nat} (hi : n ≤ i) : (ops.toList.take n).toArray[i]? = none := by simp; omega

theorem any_cut {n : Nat} {Q : Exit → Act → World → Prop} (hn : n < ops.size) (hs : Region.sinkB md ops n = true) (hc : Region.chainB md ops n = true) (hb : backB md ops n = true)
    (hq : Region.seqB md ops (ops.size - n) n (Array.replicate n true ++ Array.replicate (ops.size - n) false) = true) :
    ∀ (f : Nat) (H L : Array Bool) (a : Act) (w : World), H.size = n → HeadInv md ops n L → (∀ j, j < n → L[j]? = H[j]?) →
      wpAny P md (ops.toList.take n).toArray (cutQ P ops Q (ops.toList.drop n)) f H a w → wpAny P md ops Q (f + (ops.size - n)) L a w := by
  have hsz : (ops.toList.take n).toArray.size = n := by simp; omega
  -- whatever is ready
  have rdy : ∀ (H L : Array Bool), H.size = n → (∀ j, j < n → L[j]? = H[j]?) → ∀ i, i < n → (i ∈ Region.ready md ops L ↔ i ∈ Region.ready md (ops.toList.take n).toArray H) := by
    intro H L hH hL i hi
    rw [mem_ready, mem_ready, head_at hi]
    have e1 : L.getD i true = H.getD i true := by simp [Array.getD_eq_getD_getElem?, hL i hi]
    rw [e1]
    refine and_congr_right fun _ => ⟨?_, ?_⟩
    · rintro ⟨o, ho, h⟩
      refine ⟨o, ho, fun e he hbd => ?_⟩
      have hlt : e.on < n := Nat.lt_trans ((backB_spec hb hi ho).1 e he hbd) hi
      have := h e he hbd
      rw [Array.getD_eq_getD_getElem?, hL _ hlt, ← Array.getD_eq_getD_getElem?] at this
      exact this
    · rintro ⟨o, ho, h⟩
      refine ⟨o, ho, fun e he hbd => ?_⟩
      have hlt : e.on < n := Nat.lt_trans ((backB_spec hb hi ho).1 e he hbd) hi
      have := h e he hbd
      rw [Array.getD_eq_getD_getElem?, ← hL _ hlt, ← Array.getD_eq_getD_getElem?] at this
      exact this
  -- the least that is not listed is ready
  have least : ∀ (H L : Array Bool), H.size = n → (∀ j, j < n → L[j]? = H[j]?) → ∀ i, i < n → L.getD i true = false → Region.ready md (ops.toList.take n).toArray H ≠ [] := by
    intro H L hH hL i
    induction i using Nat.strongRecOn with
    | _ i ih =>
      intro hi hun h0
      obtain ⟨o, ho⟩ : ∃ o, ops[i]? = some o := ⟨ops[i]'(by omega), by simp [show i < ops.size by omega]⟩
      have hno : i ∉ Region.ready md ops L := fun hm => by
        have := (rdy H L hH hL i hi).1 hm
        rw [h0] at this; cases this
      apply hno
      rw [mem_ready]
      refine ⟨hun, o, ho, fun e he hbd => ?_⟩
      have hlt := (backB_spec hb hi ho).1 e he hbd
      cases hl : L.getD e.on true with
      | false => exact absurd h0 (ih e.on hlt (by omega) hl)
      | true =>
        have hsz2 : e.on < L.size := by
          have h1 := hL e.on (by omega)
          rw [Array.getElem?_eq_getElem (xs := H) (by omega)] at h1
          exact (Array.getElem?_eq_some_iff.1 h1).1
        simp [hsz2] at hl ⊢
        exact hl
  intro f
  induction f with
  | zero =>
    intro H L a w hH inv hL h
    rw [Nat.zero_add]
    have hall : ∀ i, i < n → L.getD i true = true := fun i hi => by
      cases hl : L.getD i true with
      | true => rfl
      | false => exact absurd h.1 (least H L hH hL i hi hl)
    have hLe : L = Array.replicate n true ++ Array.replicate (ops.size - n) false := by
      apply Array.ext
      · simp [inv.size]; omega
      · intro i h1 h2
        by_cases hi : i < n
        · have := hall i hi
          simp [h1] at this
          rw [this, Array.getElem_append_left (by simpa using hi)]
          simp
        · have := inv.tail i (by omega) (by rw [← inv.size]; exact h1)
          simp [h1] at this
          rw [this, Array.getElem_append_right (by simp; omega)]
          simp
    have h2 := h.2
    have hlen : (ops.toList.drop n).length = ops.size - n := by simp
    rw [← hlen]
    refine wpAny_of_seq (ops.toList.drop n) n L a w (fun j => by simp) ?_ h2
    rw [hlen, hLe]; exact hq
  | succ f ih =>
    intro H L a w hH inv hL h
    by_cases hall : ∀ i, i < n → L.getD i true = true
    · -- all of the head have come up
      have hr : Region.ready md (ops.toList.take n).toArray H = [] := by
        cases hr : Region.ready md (ops.toList.take n).toArray H with
        | nil => rfl
        | cons i l =>
          have hm : i ∈ Region.ready md (ops.toList.take n).toArray H := by rw [hr]; simp
          rw [mem_ready] at hm
          obtain ⟨hun, o, ho, _⟩ := hm
          have hi : i < n := by
            rcases Nat.lt_or_ge i n with h' | h'
            · exact h'
            · rw [head_none h'] at ho; cases ho
          have := hall i hi
          rw [Array.getD_eq_getD_getElem?, hL i hi, ← Array.getD_eq_getD_getElem?, hun] at this
          cases this
      have := ih H L a w hH inv hL (by
        cases f with
        | zero => exact ⟨hr, h.1 hr⟩
        | succ f => exact ⟨fun _ => h.1 hr, fun i hi => by rw [hr] at hi; cases hi⟩)
      rw [Nat.add_right_comm]
      exact wpAny_more _ _ _ _ this
    · have hex : ∃ i, i < n ∧ L.getD i true = false := by
        refine Classical.byContradiction fun hno => hall fun i hi => ?_
        cases hl : L.getD i true with
        | true => rfl
        | false => exact absurd ⟨i, hi, hl⟩ hno
      obtain ⟨i0, hi0, hun0⟩ := hex
      rw [Nat.add_right_comm]
      have hno := tail_waits hs hc hn inv _ i0 rfl hi0 hun0
      refine ⟨fun h0 => ?_, fun i hi => ?_⟩
      · have h1 := least H L hH hL i0 hi0 hun0
        cases hr : Region.ready md (ops.toList.take n).toArray H with
        | nil => exact absurd hr h1
        | cons i l =>
          have hm : i ∈ Region.ready md (ops.toList.take n).toArray H := by rw [hr]; simp
          have hi : i < n := by
            obtain ⟨_, o, ho, _⟩ := mem_ready.1 hm
            rcases Nat.lt_or_ge i n with h' | h'
            · exact h'
            · rw [head_none h'] at ho; cases ho
          have := (rdy H L hH hL i hi).2 hm
          rw [h0] at this; cases this
      · have hin : i < n := by
          rcases Nat.lt_or_ge i n with h' | h'
          · exact h'
          · exact absurd hi (hno i h')
        have h1 := h.2 i ((rdy H L hH hL i hin).1 hi)
        have inv' := inv.set hi hin
        have hstep : ∀ a' w', wpAny P md (ops.toList.take n).toArray (cutQ P ops Q (ops.toList.drop n)) f (H.setIfInBounds i true) a' w' → wpAny P md ops Q (f + (ops.size - n)) (L.setIfInBounds i true) a' w' := fun a' w' h' => by
          refine ih _ _ a' w' (by simpa using hH) inv' (fun j hj => ?_) h'
          have e := hL j hj
          by_cases hij : i = j
          · subst hij
            have hL2 : i < L.size := by rw [inv.size]; omega
            simp [hL2, hH, hin]
          · rw [Array.getElem?_setIfInBounds_ne hij, Array.getElem?_setIfInBounds_ne hij]; exact e
        obtain ⟨_, o, ho, _⟩ := mem_ready.1 hi
        have hw := wanted_cut (ops := ops) (tmps := a.tmps) (backB_spec hb hin ho).2
        unfold wpOp at h1 ⊢
        rw [head_at hin, ho] at h1
        rw [ho]
        simp only at h1 ⊢
        rw [hw] at h1
        split
        · rename_i hwt
          rw [if_pos hwt] at h1
          rcases h1 with h1 | h1
          · exact .inl (Oper.wp_mono hstep (wp_cutQ h1))
          · exact .inr ⟨h1.1, h1.2⟩
        · rename_i hwt
          rw [if_neg hwt] at h1
          exact hstep _ _ h1

/-- The head in any order, S kept in it; then the tail in its order. -/
theorem wp_cutR {id : Nat} {Q : Exit → Act → World → Prop} {a : Act} {w : World} {l : List Oper} (S : World → Prop) (n : Nat) (hm : P.follows .mixedOrders = true) (hB : cutB .any l.toArray n = true)
    (hS : ∀ W, Chg [] w W → S W)
    (h : ∀ W, Chg [] w W → S W → wpAnyH P .any (l.take n).toArray (cutQ P l.toArray Q (l.drop n)) S n (Array.replicate n false) a W) : (Code.region id l.toArray true).wp P Q a w := by
  simp only [cutB, Bool.and_eq_true, decide_eq_true_eq] at hB
  obtain ⟨⟨⟨⟨hn, hs⟩, hc⟩, hb⟩, hq⟩ := hB
  refine wp_region_any hm ?_
  have h1 := wpAny_of_held _ _ _ _ (h w.drew (Chg.drew [] w) (hS _ (Chg.drew [] w)))
  have h2 := any_cut (P := P) (Q := Q) hn hs hc hb hq n (Array.replicate n false) (Array.replicate l.toArray.size false) a w.drew (by simp)
    ⟨by simp, fun j oj _ hl => (by rw [getD_replicate_false] at hl; cases hl), fun t _ ht => getD_in (by simpa using ht) (getD_replicate_false _ _)⟩
    (fun j hj => by
      have hj2 : j < l.toArray.size := by omega
      have hj3 : j < l.length := by simpa using hj2
      simp [hj, hj3]) (by simpa using h1)
  rw [show n + (l.toArray.size - n) = l.toArray.size by omega] at h2
  exact h2

/-- .. where the head is one walk: every operation that comes up is taken in its turn. -/
theorem takeH {Q : Exit → Act → World → Prop} {S : World → Prop} (i : Nat) {oi : Oper} {v : Value} {fuel : Nat} {listed : Array Bool} {a : Act} {w : World} (hi : ops[i]? = some oi)
    (hs : Region.noSelect ops = true) (hf : Region.free md ops listed i = true) (hr : (Region.ready md ops listed).contains i = true)
    (hQ : ∀ c a w, Q (.panic c) (a.put oi.dst v) w → Q (.panic c) a w) (hw : Region.wanted oi (yielded ops a.tmps) = true) (hy : ∀ W, S W → (execOp a.eval oi).run P W = .ok (.value v) W) (hS : S w)
    (h : wpAnyH P md ops Q S fuel (listed.setIfInBounds i true) (a.put oi.dst v) w) : wpAnyH P md ops Q S (fuel + 1) listed a w :=
  wpAnyH_take hi hs hf hr hQ (.inl ⟨hw, hy⟩) hS h
end
end Go.Dm
