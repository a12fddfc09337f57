/-
  The library's sort on a slice of int64s that the call has built; a symbol's IDs, rising.
-/
import Derived.Test.YtdcjfaplgpeonaaEa
import Derived.Test.YtdcjfaplgpeonaaSl
import Derived.Shelf.SortM.SortNone
import Derived.Sort.OwnSortedInts
namespace Go.Proofs.Ytdcjfaplgpeonaa
open Go.RowKit Go.Dm Go.Sort

theorem flat_ids (l : List Int) : l.flatMap idE = l.map (Value.int .i64) := by
  induction l with
  | nil => rfl
  | cons a l ih => rw [List.flatMap_cons, ih]; rfl
theorem srt_len (l : List Int) : (srt l).length = l.length := List.length_mergeSort _
theorem sorts_at : SortsAt := fun w v out h hlen => by
  rcases h.2 with ⟨rfl, h0⟩ | ⟨g, cap, cur, rfl, hb0, hg, hn, hc, hs, ht⟩
  · have : out = [] := by simpa using h0
    subst this
    have hc := AnyM.slices_Sort_int_none sortL none 0 w
    change Calls Try.prog 76 _ _ _ at hc
    refine hc.mono ?_
    rintro e w' ⟨he, rfl⟩
    have e0 : srt [] = [] := by simp [srt]
    rw [e0]
    exact ⟨he, h, fun B _ _ => Below.refl _ _⟩
  · rw [flat_ids, Nat.mul_one] at ht
    have hH := holds_of_blockI hg ht
    have hc1 := AnyM.slices_Sort_int sortL g 0 cap out w hH (blk_lt hg) (by omega)
    change Calls Try.prog 76 _ _ _ at hc1
    refine hc1.mono ?_
    rintro e w' ⟨he, n, os, rfl⟩
    refine ⟨he, ?_, fun B hB hF => ?_⟩
    · have := ownsRow_sortedI (n := n) (os := os) (ts := srt out) (srt_len out) hb0 hg hn hc hs
      unfold SlAt
      rw [srt_len, flat_ids]
      exact this
    · have hgr := grownBy_sortedI (w := w) (g := g) (n := n) (os := os) (srt out).toArray
      have hgB : B ≤ g := hF g rfl
      exact (Chg.of_grown hgr (S := [g]) (by simp)).below hB (by simpa using hgB)

theorem ids_rise (w : World) (x m1 m2 : Nat) (l : IL) (h : XAt w x m1 m2 l) (s : Int) (hlen : l.length ≤ 1000) :
    Calls Try.prog 62 #[.pointer (some ⟨x, 0, none⟩), .int .i64 s] w fun e w' => ∃ (v : Value) (out : List Int), e = .returned v ∧ SlAt 2 1 idE w' v (srt out) ∧ out.Perm (idsOf l s) ∧ Chg [] w w' ∧ Fresh w.heap.size v :=
  ids_any sorts_at w x m1 m2 l h s hlen
end Go.Proofs.Ytdcjfaplgpeonaa
