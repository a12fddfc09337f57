/-
  copy between slices of records; a record laid into a row. Nothing of the program stands in it.
-/
import Derived.Test.YtdcjfaplgpeonaaS
import Derived.Laws.CopyRow
import Derived.Lib.AppendZerosOnto
import Derived.Lib.Overlaps
import Derived.Laws.Externs
import Derived.Laws.NewBlocks
namespace Go.Dm
open Go.RowKit

/-- A row with other cells from o on. -/
def cutIn (cur : Array Value) (o : Nat) (cs : List Value) : Array Value := (cur.toList.take o ++ cs ++ cur.toList.drop (o + cs.length)).toArray
theorem cutIn_size {cur : Array Value} {o : Nat} {cs : List Value} (h : o + cs.length ≤ cur.size) : (cutIn cur o cs).size = cur.size := by
  simp [cutIn]; omega

theorem Chg.setRow {w : World} {g : Nat} (cs : Array Value) : Chg [g] w (w.setRow g cs) :=
  ⟨rfl, rfl, rfl, by simp [World.setRow], fun k _ hn => by
    have : g ≠ k := fun e => hn (by simp [e])
    simp [World.setRow, Array.getElem?_modify, this]⟩
theorem setRow_at {w : World} {g : Nat} {cur cs : Array Value} {t : TypeId} {fr : Nat × Nat} (h : w.heap[g]? = some (.cells cur t fr)) : (w.setRow g cs).heap[g]? = some (.cells cs t fr) := by
  simp [World.setRow, Array.getElem?_modify, h]

/-- copy, into the block g. -/
theorem copy_law {P : Program} (w : World) (dT sT ty elem : TypeId) (sz : Nat) (g o dLen dCap : Nat) (a : Addr) (sLen sCap : Nat) (cur : Array Value) (t : TypeId) (cs : List Value)
    (hu : P.underlying dT = some (.slice elem)) (hs : (P.info? elem).map (·.size) = some sz)
    (hg : w.heap[g]? = some (.cells cur t (0, 0))) (hn : cs.length = Nat.min sLen dLen * sz)
    (hsrc : ∀ j v, cs[j]? = some v → w.cell? (a.add j) = some v) (hfit : o + cs.length ≤ cur.size) (h1 : ∀ v ∈ cs, v.oneCell' = true) :
    (Builtin.copy_ #[dT, sT] ty #[.slice (some ⟨g, o, none⟩) dLen dCap, .slice (some a) sLen sCap]).run P w = .ok (goInt (Nat.min sLen dLen)) (w.setRow g (cutIn cur o cs)) := by
  have hl := run_loadCells_list (P := P) w a cs hsrc
  have hst := run_storeCells_at P g o t cs 0 cur w hg (by simpa using hfit) h1
  cases hq : P.info? elem with
  | none => simp [hq] at hs
  | some i =>
    have hi : i.size = sz := by simpa [hq] using hs
    simp [Builtin.copy_, run_underlying hu, Builtin.lenOf, Builtin.firstCells, sizeOf, typeInfo, hq, hi, ← hn, hl, hst, cutIn]

theorem wpL_copy {P : Program} {ops : Array Oper} {rest : List Oper} {o : Oper} {a : Act} {Q : Exit → Act → World → Prop} (hg : o.guard = none) (s x : Operand) (t t' : TypeId)
    (hop : o.op = Op.call { callee := Callee.builtin Builtin.copy, args := #[s, x], argTypes := #[t, t'] }) {w w' : World} {u v n : Value} (hev : a.eval s = u) (heu : a.eval x = v)
    (hrun : (Builtin.copy_ #[t, t'] o.type #[u, v]).run P w = .ok n w') (hK : wpList P ops Q rest (a.put o.dst n) w') : wpList P ops Q (o :: rest) a w := by
  refine wpList_plain hg fun K' hK' => ?_
  unfold Oper.wp
  simp [execOp, hop, resolve, invoke, builtin, hev, heu, hrun, Result.andThen]
  exact hK' _ _ hK
theorem wpL_appendRun {P : Program} {ops : Array Oper} {rest : List Oper} {o : Oper} {a : Act} {Q : Exit → Act → World → Prop} (hg : o.guard = none) (s x : Operand) (t t' : TypeId)
    (hop : o.op = Op.call { callee := Callee.builtin Builtin.append, args := #[s, x], argTypes := #[t, t'] }) {w w' : World} {u v n : Value} (hev : a.eval s = u) (heu : a.eval x = v)
    (hrun : (Builtin.append_ #[t, t'] o.type #[u, v]).run P w = .ok n w') (hK : wpList P ops Q rest (a.put o.dst n) w') : wpList P ops Q (o :: rest) a w := by
  refine wpList_plain hg fun K' hK' => ?_
  unfold Oper.wp
  simp [execOp, hop, resolve, invoke, builtin, hev, heu, hrun, Result.andThen]
  exact hK' _ _ hK

/-- The cells ahead stay, those behind move on, the new ones come between. -/
theorem ins_row {V : Type} (cur A B X : List V) (hcur : cur.take (A.length + B.length) = A ++ B) (hlen : A.length + B.length + X.length ≤ cur.length) :
    ∃ R, cur.take (A.length + X.length) ++ B ++ cur.drop (A.length + X.length + B.length) = A ++ R ∧ R.drop X.length = B ++ cur.drop (A.length + X.length + B.length) ∧ X.length ≤ R.length := by
  refine ⟨(cur.take (A.length + X.length)).drop A.length ++ B ++ cur.drop (A.length + X.length + B.length), ?_, ?_, ?_⟩
  · have h1 : cur.take A.length = A := by
      have := congrArg (List.take A.length) hcur
      rw [List.take_take, Nat.min_eq_left (by omega)] at this
      rw [this, List.take_left]
    have h2 : cur.take (A.length + X.length) = A ++ (cur.take (A.length + X.length)).drop A.length := by
      have h3 : (cur.take (A.length + X.length)).take A.length = A := by rw [List.take_take, Nat.min_eq_left (by omega), h1]
      conv => lhs; rw [← List.take_append_drop A.length (cur.take (A.length + X.length)), h3]
    rw [List.append_assoc, List.append_assoc, ← List.append_assoc A, ← h2]
  · have h3 : ((cur.take (A.length + X.length)).drop A.length).length = X.length := by simp; omega
    rw [List.append_assoc, List.drop_left' h3]
  · simp; omega
theorem ins_row2 {V : Type} (A R X S : List V) (hR : R.drop X.length = S) (_hl : X.length ≤ R.length) : (A ++ R).take A.length ++ X ++ (A ++ R).drop (A.length + X.length) = A ++ X ++ S := by
  rw [List.take_left, List.drop_append, ← hR]
  simp

section
variable {α : Type} {e sz : Nat} {renc : α → List Value}
theorem SlAt.mk {w : World} {g n cap : Nat} {cur : Array Value} {l : List α} (R : REnc sz renc) (hg : w.heap[g]? = some (.cells cur e (0, 0))) (hn : n = l.length) (hc : l.length ≤ cap) (hm : cap ≤ maxLen) (hs : cur.size = cap * sz) (ht : cur.toList.take (l.length * sz) = l.flatMap renc) : SlAt e sz renc w (.slice (some ⟨g, 0, none⟩) n cap) l := by
  subst hn
  exact ⟨flat_len R l, .inr ⟨g, cap, cur, rfl, Nat.zero_le _, hg, hc, hm, hs, ht⟩⟩
theorem SlAt.row {w : World} {g n c : Nat} {l : List α} (h : SlAt e sz renc w (.slice (some ⟨g, 0, none⟩) n c) l) : ∃ cur, w.heap[g]? = some (.cells cur e (0, 0)) ∧ n = l.length ∧ l.length ≤ c ∧ c ≤ maxLen ∧ cur.size = c * sz ∧ cur.toList.take (l.length * sz) = l.flatMap renc := by
  rcases h.2 with ⟨h0, _⟩ | ⟨g', cap, cur, hv, _, hg, hn, hm, hs, ht⟩
  · cases h0
  · simp only [Value.slice.injEq, Option.some.injEq, Addr.mk.injEq, and_true] at hv
    obtain ⟨rfl, rfl, rfl⟩ := hv
    exact ⟨cur, hg, rfl, hn, hm, hs, ht⟩
/-- x laid in at i. -/
def insL (l : List α) (i : Nat) (x : α) : List α := l.take i ++ x :: l.drop i
theorem insL_length (l : List α) (i : Nat) (x : α) (hi : i ≤ l.length) : (insL l i x).length = l.length + 1 := by simp [insL]; omega
theorem insL_end (l : List α) (x : α) : insL l l.length x = l ++ [x] := by simp [insL]
theorem flat_ins (l : List α) (i : Nat) (x : α) : (insL l i x).flatMap renc = (l.take i).flatMap renc ++ renc x ++ (l.drop i).flatMap renc := by
  simp [insL]
end
end Go.Dm
