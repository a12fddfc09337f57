/-
  A region that draws its order within a round of a range over a function: walked as a quiet region outside of one. Nothing of the program stands in it.
-/
import Derived.RangeFuncCalls
import Derived.Sort.QuietIn
namespace Go.Dm
open Go

theorem wide_fn (f : FuncId) : Fence.wide.fn f = True := rfl
def noDefer (o : Oper) : Bool := match o.op with | .defer _ => false | _ => true
theorem noDefer_spec {o : Oper} (h : noDefer o = true) : ∀ c, o.op ≠ .defer c := fun c e => by
  unfold noDefer at h; rw [e] at h; cases h

section
variable {n l : Nat} {P : Program} {Q : Exit → Act → World → Prop}
theorem op_round {o : Oper} {a : Act} {w : World} {K : Act → World → Prop} (hd : noDefer o = true) (h : o.wpIn Fence.wide n P a w K Q) : o.wpIn (Fence.wide.inRound l) n P a w K Q := by
  refine ⟨h.1, ?_⟩
  have h2 := h.2
  rw [Oper.semAt_eq _ _ _ (noDefer_spec hd)] at h2 ⊢
  exact h2
theorem opAt_round {ops : Array Oper} {i : Nat} {a : Act} {w : World} {K : Act → World → Prop} (hd : ops.all noDefer = true) (h : wpOpIn Fence.wide n P ops Q i K a w) : wpOpIn (Fence.wide.inRound l) n P ops Q i K a w := by
  unfold wpOpIn at *
  cases ho : ops[i]? with
  | none => rw [ho] at h; exact h
  | some o =>
    rw [ho] at h
    simp only at h ⊢
    obtain ⟨hi, he⟩ := Array.getElem?_eq_some_iff.1 ho
    have hd1 : noDefer o = true := by
      rw [Array.all_eq_true] at hd
      rw [← he]; exact hd i hi
    split
    · rename_i hw; rw [if_pos hw] at h; exact op_round hd1 h
    · rename_i hw; rw [if_neg hw] at h; exact h
theorem any_round {ops : Array Oper} {md : Region.Mode} (hd : ops.all noDefer = true) : ∀ (k : Nat) (listed : Array Bool) (a : Act) (w : World), wpAnyIn Fence.wide n P md ops Q k listed a w → wpAnyIn (Fence.wide.inRound l) n P md ops Q k listed a w
  | 0, _, _, _, h => h
  | k + 1, _, _, _, h => ⟨h.1, fun i hi => opAt_round hd (wpOpIn_mono (fun a w h => any_round hd k _ a w h) (h.2 i hi))⟩
/-- One walk in the text's order, outside of the round, serves a region that draws within one. -/
theorem region_round {id : Nat} {ops : List Oper} {a : Act} {w : World} (hm : P.follows .mixedOrders = true) (hB : Region.lexB .any ops.toArray = true) (hd : ops.toArray.all noDefer = true)
    (h : wpQuietIn Fence.wide n P ops.toArray (fun w' => ∃ n, w' = w.drewN n) (fun a' => ∀ w', (∃ n, w' = w.drewN n) → Q .normal a' w') ops a) : (Code.region id ops.toArray true).wpIn (Fence.wide.inRound l) n P Q a w := by
  refine wpIn_region_any hm (any_round hd _ _ _ _ ?_)
  simp only [Region.lexB, Bool.and_eq_true] at hB
  refine wpAnyIn_of_quiet (F := Fence.wide) (C := fun w' => ∃ n, w' = w.drewN n) (Q := fun a' => ∀ w', (∃ n, w' = w.drewN n) → Q .normal a' w') rfl (fun _ w' hw' h => h w' hw') _ _ _ _ ⟨1, rfl⟩ ?_
  have := wpAnyQIn_lex (F := Fence.wide) (n := n) (P := P) (C := fun w' => ∃ n, w' = w.drewN n) (md := .any) hB.1 ops 0 (Array.replicate ops.toArray.size false) a (by simp) (by simpa using hB.2) h
  simpa using this
end
end Go.Dm
