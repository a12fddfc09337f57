/-
  Arguments read as data: structs of whole numbers by value, slices of them. Nothing of the program stands in it.
-/
import Derived.WalkKit
import Derived.ProofKit
import Derived.ChangeOld
import Derived.SizedLaws
import Derived.Deep.Slices
namespace Go.Dm
open Go.RowKit Go.ChangeShapes Go.WideShapes Go.Deep

section
variable {H : Type} {enc : TypeId × Value → H} {P : Program} {w : World} {base : Nat} {spare : Nat → Bool} {held : Bool}

/-- Whatever reads as a datum of type t is K whole numbers, one behind the other. -/
def FlatInts (P : Program) (t K : Nat) : Prop :=
  P.cellsOf t = K ∧ ∀ {H : Type} (enc : TypeId × Value → H) (w : World) (base : Nat) (spare : Nat → Bool) (held : Bool) (n : Nat) (cs : List Value) (x : DataW H × List MemPlace), DataW.trod enc P w base spare held n t cs = some x → ∃ ns : List Int, ns.length = K ∧ cs = ns.map (fun n => Value.int .i64 n)

theorem flat_int {t : Nat} (ht : P.underlying t = some (.int .i64)) (hc : P.cellsOf t = 1) : FlatInts P t 1 :=
  ⟨hc, fun enc w base spare held n cs x h => by
    obtain ⟨m, rfl, _⟩ := DataW.trod_int ht h
    exact ⟨[m], rfl, rfl⟩⟩

theorem list_parts : ∀ (cs : List Value) (ks : List Nat), cs.length = ks.sum → (∀ j (hj : j < ks.length), ∃ ns : List Int, (cs.drop (ks.take j).sum).take ks[j] = ns.map (fun n => Value.int .i64 n)) → ∃ ns : List Int, cs = ns.map (fun n => Value.int .i64 n)
  | cs, [], h, _ => by
    have : cs = [] := by simpa using h
    subst this; exact ⟨[], rfl⟩
  | cs, k :: ks, h, hp => by
    obtain ⟨n1, h1⟩ := hp 0 (by simp)
    obtain ⟨n2, h2⟩ := list_parts (cs.drop k) ks (by simp at h ⊢; omega) (fun j hj => by
      obtain ⟨ns, hns⟩ := hp (j + 1) (by simp; omega)
      refine ⟨ns, ?_⟩
      simp only [List.take_succ_cons, List.sum_cons, List.getElem_cons_succ] at hns
      rw [List.drop_drop]
      exact hns)
    simp only [List.take_zero, List.sum_nil, List.drop_zero, List.getElem_cons_zero] at h1
    refine ⟨n1 ++ n2, ?_⟩
    rw [List.map_append, ← h1, ← h2, List.take_append_drop]

/-- A struct whose fields are such, one behind the other. -/
theorem flat_struct {t K : Nat} {fs : Array Field} (ks : List Nat) (ht : P.underlying t = some (.struct fs)) (hC : P.cellsOf t = K) (hK : K = ks.sum) (hl : fs.size = ks.length)
    (hf : ∀ j (hj : j < ks.length), ∃ f, fs[j]? = some f ∧ f.offset = (ks.take j).sum ∧ FlatInts P f.type ks[j]) : FlatInts P t K :=
  ⟨hC, fun enc w base spare held n cs x h => by
    obtain ⟨xs, m, _, _, hlen, hxl, hi⟩ := DataW.trod_struct ht h
    have hcl : cs.length = ks.sum := by rw [hlen, hC, hK]
    obtain ⟨ns, hns⟩ := list_parts cs ks hcl (fun j hj => by
      obtain ⟨f, hfj, hoff, hc, hflat⟩ := hf j hj
      have h1 := hi j f hfj
      have hxj : xs[j]? = some (xs[j]'(by omega)) := List.getElem?_eq_getElem (by omega)
      rw [hxj, hoff, hc] at h1
      obtain ⟨ns, _, hns⟩ := hflat enc w base spare held m _ _ h1
      exact ⟨ns, hns⟩)
    refine ⟨ns, ?_, hns⟩
    have := congrArg List.length hns
    simp at this
    omega⟩

/-- A struct by value. -/
theorem open_flat {t K : Nat} {r : Reach} {b0 : Nat} {fs : Array Field} {v : Value} {d : DataW H} {ps : List MemPlace} (F : FlatInts P t K) (ht : P.underlying t = some (.struct fs)) (hv : Value.okWide P w r b0 t v) (h : DataW.Trod enc P w base spare held t v d ps) :
    ∃ ns : List Int, ns.length = K ∧ v = .agg (ns.map (fun n => Value.int .i64 n)).toArray := by
  obtain ⟨cs, rfl, hsz⟩ := okWide_struct ht hv
  obtain ⟨fuel, hf⟩ := h
  obtain ⟨ns, hl, hns⟩ := F.2 enc w base spare held fuel _ _ hf
  refine ⟨ns, hl, ?_⟩
  rw [← hns]
  simp [Value.cells]

/-- A slice of them. -/
theorem open_flats {t e K : Nat} {r : Reach} {b0 : Nat} {v : Value} {d : DataW H} {ps : List MemPlace} (F : FlatInts P e K) (hK : 0 < K) (ht : P.underlying t = some (.slice e)) (hv : Value.okWide P w r b0 t v) (h : DataW.Trod enc P w base spare held t v d ps) :
    ∃ (A : Option Addr) (cap : Nat) (rows : List (List Int)), v = .slice A rows.length cap ∧ (∀ ns ∈ rows, ns.length = K) ∧
      (rows = [] ∨ ∃ b off, A = some ⟨b, off, none⟩ ∧ b < w.heap.size ∧ ∀ (i : Nat) (ns : List Int), rows[i]? = some ns → ∀ (j : Nat) (n : Int), ns[j]? = some n → w.cell? ⟨b, off + i * K + j, none⟩ = some (.int .i64 n)) := by
  obtain ⟨A, len, cap, rfl⟩ := okWide_slice ht hv
  obtain ⟨fuel, hf⟩ := h
  rcases open_slice ht hf with ⟨hcs, _⟩ | ⟨a, len', cap', m, n, D, Pl, hcs, _, hl, _, hm, _, hi⟩
  · simp [Value.cells] at hcs
    obtain ⟨rfl, rfl, rfl⟩ := hcs
    exact ⟨none, 0, [], rfl, by simp, .inl rfl⟩
  · simp [Value.cells] at hcs
    obtain ⟨rfl, rfl, rfl⟩ := hcs
    have hlm : len ≤ m := by rw [hm]; split <;> omega
    have hall : ∀ i, i < len → ∃ ns : List Int, ns.length = K ∧ ∀ j, j < K → ∀ q, ns[j]? = some q → w.cell? (a.add (i * K + j)) = some (.int .i64 q) := by
      intro i hlt
      obtain ⟨cs', hc, ht'⟩ := hi i (by omega)
      obtain ⟨ns, hnl, hns⟩ := F.2 enc w base spare held n _ _ ht'
      rw [F.1] at hc
      obtain ⟨_, hcl, hat⟩ := World.cells?_some hc
      refine ⟨ns, hnl, fun j hj q hq => ?_⟩
      rw [← Go.Deep.add_add, hat j hj, hns, List.getElem?_map, hq]
      rfl
    obtain ⟨V, hV⟩ := choose_lt (α := List Int) hall
    refine ⟨some a, cap, (List.range len).map V, by simp, ?_, ?_⟩
    · intro ns hns
      obtain ⟨i, hi', rfl⟩ := List.mem_map.1 hns
      exact (hV i (by simpa using hi')).1
    · by_cases h0 : len = 0
      · subst h0; exact .inl rfl
      · have hV0 := hV 0 (by omega)
        obtain ⟨q0, hq0⟩ : ∃ q, (V 0)[0]? = some q := ⟨(V 0)[0]'(by rw [hV0.1]; omega), List.getElem?_eq_getElem (by rw [hV0.1]; omega)⟩
        have hc0 := hV0.2 0 hK q0 hq0
        have hadd0 : a.add (0 * K + 0) = a := by simp [Addr.add]
        rw [hadd0] at hc0
        obtain ⟨b, off, sp⟩ := a
        have hsp : sp = none := by
          cases sp with
          | none => rfl
          | some s =>
            simp only [World.cell?] at hc0
            split at hc0 <;> simp at hc0
        subst hsp
        refine .inr ⟨b, off, rfl, World.block_lt_of_cell? w _ hc0, fun i ns hns j q hq => ?_⟩
        have hil : i < len := by
          have := (List.getElem?_eq_some_iff.1 hns).1
          simpa using this
        have hVi : V i = ns := by
          rw [List.getElem?_map, List.getElem?_range hil] at hns
          simpa using hns
        have hj : j < K := by
          have := (List.getElem?_eq_some_iff.1 hq).1
          rw [← hVi, (hV i hil).1] at this
          exact this
        have := (hV i hil).2 j hj q (by rw [hVi]; exact hq)
        have hadd : (⟨b, off, none⟩ : Addr).add (i * K + j) = ⟨b, off + i * K + j, none⟩ := by
          unfold Addr.add
          split
          · rename_i hz
            have : off + i * K + j = off := by omega
            rw [this]
          · simp [Nat.add_assoc]
        rw [hadd] at this
        exact this
end
end Go.Dm
