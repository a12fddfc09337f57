/-
  The chapter's example; what any point trades.
-/
import Derived.Test.YtdcjfaplgpeonaaVd
namespace Go.Proofs.Ytdcjfaplgpeonaa
open Go.RowKit Go.Dm
attribute [local go_sem] Oper.semAt_some

def sdO (L : List Ord) (sd : Int) : List Ord := L.filter (fun o => decide (o 2 = sd))
theorem hasP_perm {a b : List Ord} (h : a.Perm b) (p : Int) : hasP a p = hasP b p := by
  rw [Bool.eq_iff_iff]
  unfold hasP
  simp only [List.any_eq_true]
  constructor
  · rintro ⟨o, ho, h2⟩; exact ⟨o, h.mem_iff.1 ho, h2⟩
  · rintro ⟨o, ho, h2⟩; exact ⟨o, h.mem_iff.2 ho, h2⟩
theorem Prices.perm {ss : List Int} {a0 a1 b0 b1 : List Ord} (h : Prices ss a0 a1) (h0 : a0.Perm b0) (h1 : a1.Perm b1) : Prices ss b0 b1 :=
  ⟨h.rise, fun q => by rw [h.all, hasP_perm h0, hasP_perm h1]⟩
theorem ptsC_perm {ss : List Int} {a0 a1 b0 b1 : List Ord} (h0 : a0.Perm b0) (h1 : a1.Perm b1) : ptsC ss a0 a1 = ptsC ss b0 b1 := by
  unfold ptsC
  exact List.map_congr_left fun q _ => by rw [demO_perm h0, supO_perm h1]
theorem Prices.len {ss : List Int} {l0 l1 : List Ord} (h : Prices ss l0 l1) : ss.length ≤ l0.length + l1.length := by
  have hn : ss.Nodup := h.rise.imp (fun h => by omega)
  have hs : ss ⊆ (l0 ++ l1).map (fun o => o 3) := fun q hq => by
    have hc := (h.all q).1 hq
    rw [Bool.or_eq_true] at hc
    unfold hasP at hc
    rw [List.any_eq_true, List.any_eq_true] at hc
    rw [List.mem_map]
    rcases hc with ⟨o, ho, h2⟩ | ⟨o, ho, h2⟩
    · exact ⟨o, List.mem_append_left _ ho, by simpa using h2⟩
    · exact ⟨o, List.mem_append_right _ ho, by simpa using h2⟩
  have := List.Nodup.length_le_of_subset hn hs
  simpa using this
/-- The curve of the pool's book. -/
theorem of_pb {w : World} {D : Nat} {B : Bkb} {L : List Ord} {lv0 lv1 : List Lvl} {v0 v1 : Value} (h : PB w D B L lv0 lv1 v0 v1) (hlen : L.length ≤ 60) (hq : QtyOk L) :
    Calls Try.prog 44 #[.pointer (some ⟨B.b, 0, none⟩)] w fun e w' => ∃ c ss, e = .returned (.pointer (some ⟨c, 0, none⟩)) ∧ Prices ss (sdO L 0) (sdO L 1) ∧ CvAt w' w.heap.size c (ptsC ss (sdO L 0) (sdO L 1)) ∧ Chg [] w w' := by
  have p0 := sideO_perm h.s0.ok
  have p1 := sideO_perm h.s1.ok
  have hX : ∀ s, (slX lv0 lv1 s).length ≤ 60 := fun s => by
    have e0 : (lv0.flatMap (·.s)).length ≤ L.length := by
      have hlt : ∀ i ∈ lv0.flatMap (·.s), i < L.length := fun i hi => by
        obtain ⟨x, hx, hi⟩ := List.mem_flatMap.1 hi
        exact h.s0.ok.lt hx hi
      have := List.Nodup.length_le_of_subset h.s0.ok.nodup (fun i hi => List.mem_range.2 (hlt i hi))
      simpa using this
    have e1 : (lv1.flatMap (·.s)).length ≤ L.length := by
      have hlt : ∀ i ∈ lv1.flatMap (·.s), i < L.length := fun i hi => by
        obtain ⟨x, hx, hi⟩ := List.mem_flatMap.1 hi
        exact h.s1.ok.lt hx hi
      have := List.Nodup.length_le_of_subset h.s1.ok.nodup (fun i hi => List.mem_range.2 (hlt i hi))
      simpa using this
    unfold slX
    split <;> omega
  refine (of44 w _ L (slX lv0 lv1) (each_pb h hlen) hq hX).mono ?_
  rintro e w' ⟨c, ss, rfl, hP, hc, hC⟩
  have q0 : (sideO L (slX lv0 lv1 0)).Perm (sdO L 0) := p0
  have q1 : (sideO L (slX lv0 lv1 1)).Perm (sdO L 1) := p1
  exact ⟨c, ss, rfl, hP.perm q0 q1, by rw [← ptsC_perm q0 q1]; exact hc, hC⟩
/-- A curve's point at a price. -/
theorem cv_at {w : World} {B c : Nat} {ss : List Int} {l0 l1 : List Ord} (hP : Prices ss l0 l1) (hc : CvAt w B c (ptsC ss l0 l1)) (h0 : l0.length ≤ 60) (h1 : l1.length ≤ 60) (p : Int) :
    Calls Try.prog 47 #[.pointer (some ⟨c, 0, none⟩), .int .i64 p] w fun e w' => e = .returned (ptV p (demO l0 p) (supO l1 p)) ∧ Chg [] w w' := by
  have hl := hP.len
  refine (at47 w B c p _ hc ?_ (by simp only [ptsC, List.length_map]; omega)).mono ?_
  · unfold ptsC
    rw [List.pairwise_map]
    exact hP.rise
  · rintro e w' ⟨⟨i, rfl, hi⟩, hC⟩
    rw [rd_dem hP hi, rd_sup hP hi]
    exact ⟨rfl, hC⟩

def exA : Ord := fun q => match q with | 0 => 1 | 3 => 10 | 4 => 3 | _ => 0
def exB : Ord := fun q => match q with | 0 => 2 | 2 => 1 | 3 => 9 | 4 => 2 | _ => 0
theorem ex_book : bookL [exA, exB] = [exA, exB] := by
  simp [bookL, addL, takes, okO, exA, exB, hasId]

set_option maxRecDepth 100000 in
set_option maxHeartbeats 2000000 in
theorem alive36 (w : World) : Calls Try.prog 36 #[] w fun e w' => e = .returned (.bool true) ∧ Chg [] w w' := by
  obtain ⟨W0, eW0⟩ : ∃ W0, w.alloc (.cells #[.int .i64 1, .int .i64 0, .int .i64 0, .int .i64 10, .int .i64 3, .int .i64 0, .int .i64 0, .int .i64 2, .int .i64 0, .int .i64 1, .int .i64 9, .int .i64 2, .int .i64 0, .int .i64 0] 52) = W0 := ⟨_, rfl⟩
  have hC0 : Chg [] w W0 := eW0 ▸ Chg.alloc [] w _
  have hb : W0.heap[w.heap.size]? = some (.cells #[.int .i64 1, .int .i64 0, .int .i64 0, .int .i64 10, .int .i64 3, .int .i64 0, .int .i64 0, .int .i64 2, .int .i64 0, .int .i64 1, .int .i64 9, .int .i64 2, .int .i64 0, .int .i64 0] 52 (0, 0)) := eW0 ▸ heap_alloc_new w _
  have hO : OrdsAt W0 (some ⟨w.heap.size, 0, none⟩) [exA, exB] := by
    refine .inr ⟨w.heap.size, 0, rfl, blk_lt hb, fun i o ho j hj => ?_⟩
    match i, ho with
    | 0, ho =>
      simp only [List.getElem?_cons_zero, Option.some.injEq] at ho
      subst ho
      match j, hj with
      | 0, _ => simp [World.cell?, hb, exA]
      | 1, _ => simp [World.cell?, hb, exA]
      | 2, _ => simp [World.cell?, hb, exA]
      | 3, _ => simp [World.cell?, hb, exA]
      | 4, _ => simp [World.cell?, hb, exA]
      | 5, _ => simp [World.cell?, hb, exA]
      | 6, _ => simp [World.cell?, hb, exA]
    | 1, ho =>
      simp only [List.getElem?_cons_succ, List.getElem?_cons_zero, Option.some.injEq] at ho
      subst ho
      match j, hj with
      | 0, _ => simp [World.cell?, hb, exB]
      | 1, _ => simp [World.cell?, hb, exB]
      | 2, _ => simp [World.cell?, hb, exB]
      | 3, _ => simp [World.cell?, hb, exB]
      | 4, _ => simp [World.cell?, hb, exB]
      | 5, _ => simp [World.cell?, hb, exB]
      | 6, _ => simp [World.cell?, hb, exB]
    | i + 2, ho => simp at ho
  have hB := books42 W0 _ 2 [exA, exB] hO (by simp)
  rw [ex_book] at hB
  simp only [List.length_cons, List.length_nil, Nat.zero_add, Nat.reduceAdd] at hB
  go_enter Try.func36, Try.ntmps36
  go_wp2_with fail
  refine hB.mono ?_
  rintro e W1 ⟨B, r, rfl, ⟨lv0, lv1, v0, v1, hP⟩, hR, hC1, _⟩
  have hof := of_pb hP (by simp) (by intro o ho; simp at ho; rcases ho with rfl | rfl <;> simp [exA, exB])
  clear hB hO hb eW0 hR
  go_wp2_with fail
  refine hof.mono ?_
  rintro e W2 ⟨c, ss, rfl, hPr, hcv, hC2⟩
  have hl0 : (sdO [exA, exB] 0).length ≤ 60 := Nat.le_trans (List.length_filter_le _ _) (by simp)
  have hl1 : (sdO [exA, exB] 1).length ≤ 60 := Nat.le_trans (List.length_filter_le _ _) (by simp)
  have h9 := cv_at hPr hcv hl0 hl1 9
  have d9 : demO (sdO [exA, exB] 0) 9 = 3 := by simp [demO, sdO, exA, exB, sumO]
  have s9 : supO (sdO [exA, exB] 1) 9 = 2 := by simp [supO, sdO, exA, exB, sumO]
  have d10 : demO (sdO [exA, exB] 0) 10 = 3 := by simp [demO, sdO, exA, exB, sumO]
  have s10 : supO (sdO [exA, exB] 1) 10 = 2 := by simp [supO, sdO, exA, exB, sumO]
  rw [d9, s9] at h9
  clear hof
  go_wp2_with fail
  refine h9.mono ?_
  rintro e W3 ⟨rfl, hC3⟩
  have h10 := cv_at hPr (hcv.chg hC3 (by simp)) hl0 hl1 10
  rw [d10, s10] at h10
  unfold ptV
  go_wp2_with fail
  refine h10.mono ?_
  rintro e W4 ⟨rfl, hC4⟩
  unfold ptV
  go_wp2_with fail
  go_ret
  exact ⟨rfl, ((((hC0.trans hC1).trans hC2).trans hC3).trans hC4)⟩
end Go.Proofs.Ytdcjfaplgpeonaa
