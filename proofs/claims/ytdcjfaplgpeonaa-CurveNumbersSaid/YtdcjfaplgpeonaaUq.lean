/-
  What each price has of some orders: plain laws.
-/
import Derived.Test.YtdcjfaplgpeonaaUk
namespace Go.Proofs.Ytdcjfaplgpeonaa
open Go.RowKit Go.Dm

def sumO (l : List Ord) : Int := (l.map (fun o => o 4)).sum
def atP (l : List Ord) (p : Int) : List Ord := l.filter (fun o => decide (o 3 = p))
def sumP (l : List Ord) (p : Int) : Int := sumO (atP l p)
def hasP (l : List Ord) (p : Int) : Bool := l.any (fun o => decide (o 3 = p))
def semA (l0 l1 : List Ord) (p : Int) : Option (Int × Int) := if hasP l0 p || hasP l1 p then some (sumP l0 p, sumP l1 p) else none

theorem sumO_app (a b : List Ord) : sumO (a ++ b) = sumO a + sumO b := by simp [sumO]
theorem sumP_none {l : List Ord} {p : Int} (h : hasP l p = false) : sumP l p = 0 := by
  have : atP l p = [] := by
    unfold atP
    rw [List.filter_eq_nil_iff]
    intro o ho hd
    have : hasP l p = true := by unfold hasP; rw [List.any_eq_true]; exact ⟨o, ho, hd⟩
    rw [h] at this; cases this
  unfold sumP; rw [this]; rfl
theorem sumP_app (l : List Ord) (o : Ord) (p : Int) : sumP (l ++ [o]) p = sumP l p + if o 3 = p then o 4 else 0 := by
  unfold sumP atP
  rw [List.filter_append, sumO_app]
  by_cases h : o 3 = p <;> simp [h, sumO]
theorem hasP_app (l : List Ord) (o : Ord) (p : Int) : hasP (l ++ [o]) p = (hasP l p || decide (o 3 = p)) := by simp [hasP]
theorem semA_found (l0 l1 : List Ord) (p : Int) : found nenc (nenc (0, 0)) (semA l0 l1 p) = nenc (sumP l0 p, sumP l1 p) := by
  unfold semA
  cases h0 : hasP l0 p <;> cases h1 : hasP l1 p <;> simp [found, sumP_none, h0, h1]
theorem semA_put0 {il : NL} {l0 l1 : List Ord} (h : ∀ q, mLook il q = semA l0 l1 q) (o : Ord) : ∀ q, mLook (putL il (o 3) (sumP l0 (o 3) + o 4, sumP l1 (o 3))) q = semA (l0 ++ [o]) l1 q := fun q => by
  rw [mLook_put, h]
  unfold semA
  rw [hasP_app, sumP_app]
  by_cases e : o 3 = q
  · subst e; simp
  · simp [e]
theorem semA_put1 {il : NL} {l0 l1 : List Ord} (h : ∀ q, mLook il q = semA l0 l1 q) (o : Ord) : ∀ q, mLook (putL il (o 3) (sumP l0 (o 3), sumP l1 (o 3) + o 4)) q = semA l0 (l1 ++ [o]) q := fun q => by
  rw [mLook_put, h]
  unfold semA
  rw [hasP_app, sumP_app]
  by_cases e : o 3 = q
  · subst e; simp
  · simp [e]

def ordsS {L : List Ord} (pre : List (SlotL L)) : List Ord := pre.map (fun i => L.getD i.1 (fun _ => 0))
theorem ordsS_app {L : List Ord} (a : List (SlotL L)) (x : SlotL L) : ordsS (a ++ [x]) = ordsS a ++ [L.getD x.1 (fun _ => 0)] := by simp [ordsS]
/-- The orders of a side. -/
def sideO (L : List Ord) (s : List Nat) : List Ord := ordsS (toS L s)
def stA (L : List Ord) (X : Nat → List Nat) (k : Nat) (pre : List (SlotL L)) : Int → Option (Int × Int) := if k = 0 then semA (ordsS pre) [] else semA (sideO L (X 0)) (ordsS pre)
def endA (L : List Ord) (X : Nat → List Nat) (k : Nat) : Int → Option (Int × Int) := semA (if k = 0 then [] else sideO L (X 0)) (if k ≤ 1 then [] else sideO L (X 1))
theorem stA_start {L : List Ord} {X : Nat → List Nat} {k : Nat} (hk : k < 2) : stA L X k [] = endA L X k := by
  have : k = 0 ∨ k = 1 := by omega
  rcases this with rfl | rfl <;> simp [stA, endA, ordsS]
theorem stA_end {L : List Ord} {X : Nat → List Nat} {k : Nat} (hk : k < 2) : stA L X k (toS L (X k)) = endA L X (k + 1) := by
  have : k = 0 ∨ k = 1 := by omega
  rcases this with rfl | rfl <;> simp [stA, endA, sideO]

/-- The quantities are small. -/
def QtyOk (l : List Ord) : Prop := ∀ o ∈ l, 0 ≤ o 4 ∧ o 4 ≤ 4294967296
theorem QtyOk.sub {l l' : List Ord} (h : QtyOk l) (hs : ∀ o ∈ l', o ∈ l) : QtyOk l' := fun o ho => h o (hs o ho)
theorem sumO_le : ∀ {l : List Ord}, QtyOk l → 0 ≤ sumO l ∧ sumO l ≤ l.length * 4294967296
  | [], _ => by simp [sumO]
  | o :: l, h => by
    have h1 := sumO_le (l := l) (fun x hx => h x (List.mem_cons_of_mem _ hx))
    have h2 := h o (by simp)
    simp only [sumO, List.map_cons, List.sum_cons, List.length_cons] at *
    omega
theorem sumP_le {l : List Ord} (h : QtyOk l) (p : Int) : 0 ≤ sumP l p ∧ sumP l p ≤ l.length * 4294967296 := by
  have h1 := sumO_le (l := atP l p) (h.sub (fun o ho => (List.mem_filter.1 ho).1))
  have h2 : (atP l p).length ≤ l.length := List.length_filter_le _ _
  unfold sumP
  omega
theorem ordsS_pre {L : List Ord} {a b : List (SlotL L)} (h : a <+: b) : ∀ o ∈ ordsS a, o ∈ ordsS b := by
  obtain ⟨t, rfl⟩ := h
  intro o ho
  simp only [ordsS, List.map_append, List.mem_append] at *
  exact .inl ho
theorem ordsS_mem {L : List Ord} (pre : List (SlotL L)) : ∀ o ∈ ordsS pre, o ∈ L := by
  intro o ho
  obtain ⟨i, _, rfl⟩ := List.mem_map.1 ho
  have := i.2
  simp [List.getD, i.2]
end Go.Proofs.Ytdcjfaplgpeonaa
