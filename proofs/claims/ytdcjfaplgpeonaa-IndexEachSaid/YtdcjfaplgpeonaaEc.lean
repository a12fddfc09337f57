/-
  The plain law of a symbol's IDs: sorted, they are the reference's rows.
-/
import Derived.Test.YtdcjfaplgpeonaaEb
namespace Go.Proofs.Ytdcjfaplgpeonaa
open Go.RowKit Go.Dm

theorem ins_perm (out : IL) (p : IP) : (insRow out p).Perm (p :: out) := by
  unfold insRow
  have h := List.takeWhile_append_dropWhile (p := lower p.1.2) (l := out)
  have h2 : (out.takeWhile (lower p.1.2) ++ p :: out.dropWhile (lower p.1.2)).Perm (p :: (out.takeWhile (lower p.1.2) ++ out.dropWhile (lower p.1.2))) := List.perm_middle
  rw [h] at h2
  exact h2
theorem of_perm : ∀ (l acc : IL) (s : Int), (l.foldl (fun out p => if p.1.1 = s then insRow out p else out) acc).Perm (acc ++ l.filter fun p => decide (p.1.1 = s))
  | [], acc, s => by simp
  | p :: l, acc, s => by
    rw [List.foldl_cons, List.filter_cons]
    by_cases h : p.1.1 = s
    · rw [if_pos h, if_pos (by simpa using h)]
      refine (of_perm l (insRow acc p) s).trans ?_
      refine ((ins_perm acc p).append_right _).trans ?_
      exact List.perm_middle.symm
    · rw [if_neg h, if_neg (by simpa using h)]
      exact of_perm l acc s
theorem ofL_perm (l : IL) (s : Int) : (ofL l s).Perm (l.filter fun p => decide (p.1.1 = s)) := by
  have := of_perm l [] s
  rw [List.nil_append] at this
  exact this
def Rising (l : List Int) : Prop := l.Pairwise (fun x y => x ≤ y)
theorem ins_rise (out : IL) (p : IP) (h : Rising (out.map (·.1.2))) : Rising ((insRow out p).map (·.1.2)) := by
  induction out with
  | nil => simp [insRow, Rising]
  | cons q out ih =>
    unfold Rising at *
    rw [List.map_cons, List.pairwise_cons] at h
    unfold insRow at *
    by_cases hl : lower p.1.2 q = true
    · rw [List.takeWhile_cons_of_pos hl, List.dropWhile_cons_of_pos hl, List.cons_append, List.map_cons, List.pairwise_cons]
      refine ⟨fun a ha => ?_, ih h.2⟩
      have hp := (ins_perm out p).map (·.1.2)
      unfold insRow at hp
      have := hp.mem_iff.1 ha
      rw [List.map_cons, List.mem_cons] at this
      rcases this with rfl | hm
      · have : q.1.2 < p.1.2 := by simpa [lower] using hl
        omega
      · exact h.1 a hm
    · rw [List.takeWhile_cons_of_neg hl, List.dropWhile_cons_of_neg hl, List.nil_append, List.map_cons, List.pairwise_cons]
      have hq : p.1.2 ≤ q.1.2 := by have : ¬ q.1.2 < p.1.2 := by simpa [lower] using hl
                                    omega
      refine ⟨fun a ha => ?_, ?_⟩
      · rw [List.map_cons, List.mem_cons] at ha
        rcases ha with rfl | hm
        · exact hq
        · have := h.1 a hm; omega
      · rw [List.map_cons, List.pairwise_cons]; exact h
theorem of_rise : ∀ (l acc : IL) (s : Int), Rising (acc.map (·.1.2)) → Rising ((l.foldl (fun out p => if p.1.1 = s then insRow out p else out) acc).map (·.1.2))
  | [], acc, s, h => h
  | p :: l, acc, s, h => by
    rw [List.foldl_cons]
    by_cases hp : p.1.1 = s
    · rw [if_pos hp]; exact of_rise l _ s (ins_rise acc p h)
    · rw [if_neg hp]; exact of_rise l acc s h
theorem rising_eq : ∀ (a b : List Int), Rising a → Rising b → a.Perm b → a = b
  | [], b, _, _, h => by simpa using h.symm.eq_nil
  | x :: a, b, ha, hb, h => by
    cases b with
    | nil => simpa using h.eq_nil
    | cons y b =>
      unfold Rising at ha hb
      rw [List.pairwise_cons] at ha hb
      have hxy : x = y := by
        have h1 : x ∈ y :: b := h.mem_iff.1 (by simp)
        have h2 : y ∈ x :: a := h.mem_iff.2 (by simp)
        rcases List.mem_cons.1 h1 with e | h1
        · exact e
        · rcases List.mem_cons.1 h2 with e | h2
          · exact e.symm
          · have := hb.1 x h1; have := ha.1 y h2; omega
      subst hxy
      rw [rising_eq a b ha.2 hb.2 (List.perm_cons x |>.1 h)]
theorem srt_rise (l : List Int) : Rising (srt l) := by
  have := List.pairwise_mergeSort (le := fun x y : Int => decide (x ≤ y)) (fun a b c h1 h2 => by simp at *; omega) (fun a b => by simp; omega) l
  unfold Rising srt
  exact this.imp (fun h => by simpa using h)
/-- The sorted IDs are those of the reference's rows. -/
theorem srt_of {l : IL} {s : Int} {out : List Int} (h : out.Perm (idsOf l s)) : srt out = (ofL l s).map (·.1.2) := by
  refine rising_eq _ _ (srt_rise out) (of_rise l [] s (by simp [Rising])) ?_
  have h1 : (srt out).Perm out := List.mergeSort_perm _ _
  have h2 := (ofL_perm l s).map (·.1.2)
  exact (h1.trans h).trans h2.symm
/-- .. and the map holds each row's slot. -/
theorem of_look {l : IL} {s : Int} (hn : (keysL l).Nodup) {k : Nat} {p : IP} (h : (ofL l s)[k]? = some p) : p.1.1 = s ∧ mLook l (s, p.1.2) = some p.2 := by
  have hm := (ofL_perm l s).mem_iff.1 (List.mem_of_getElem? h)
  rw [List.mem_filter] at hm
  have hs : p.1.1 = s := by simpa using hm.2
  obtain ⟨j, hj⟩ := List.mem_iff_getElem?.1 hm.1
  refine ⟨hs, ?_⟩
  obtain ⟨⟨p1, p2⟩, p3⟩ := p
  simp only at hs ⊢
  subst hs
  exact mLook_at hn hj
end Go.Proofs.Ytdcjfaplgpeonaa
