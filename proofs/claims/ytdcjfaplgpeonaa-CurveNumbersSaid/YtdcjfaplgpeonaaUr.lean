/-
  A curve's points in memory.
-/
import Derived.Test.YtdcjfaplgpeonaaUq
import Derived.Test.YtdcjfaplgpeonaaCp
namespace Go.Dm
open Go Go.RowKit
section
variable {α : Type} {e sz : Nat} {renc : α → List Value} {w : World}
/-- One cell of one record. -/
theorem SlAt.setOne {g n c : Nat} {l : List α} (h : SlAt e sz renc w (.slice (some ⟨g, 0, none⟩) n c) l) (R : REnc sz renc) {i j : Nat} {x y : α} {u : Value} (hx : l[i]? = some x) (hj : j < sz) (hy : renc y = (renc x).set j u) :
    SlAt e sz renc (w.setCell ⟨g, i * sz + j, none⟩ u) (.slice (some ⟨g, 0, none⟩) n c) (l.set i y) := by
  obtain ⟨cur, hg, hn, hc, hm, hs, ht⟩ := h.row
  have hi : i < l.length := (List.getElem?_eq_some_iff.1 hx).1
  refine SlAt.mk R (blk_set hg _ _) (by simpa using hn) (by simpa using hc) hm (by simpa using hs) ?_
  apply List.ext_getElem?
  intro k
  have hF := flat_len R (l.set i y)
  rw [List.length_set] at hF
  have hsz : 0 < sz := by omega
  by_cases hk : k < l.length * sz
  · rw [List.getElem?_take, List.length_set, if_pos hk]
    have hkm : (k / sz) * sz + k % sz = k := Nat.div_add_mod' k sz
    have hk4 : k % sz < sz := Nat.mod_lt _ hsz
    have hkd : k / sz < l.length := (Nat.div_lt_iff_lt_mul hsz).2 hk
    have hcur : cur.toList[k]? = (l.flatMap renc)[k]? := by rw [← ht, List.getElem?_take, if_pos hk]
    have hks : k < cur.size := by rw [hs]; exact Nat.lt_of_lt_of_le hk (Nat.mul_le_mul_right _ hc)
    simp only [Array.toList_setIfInBounds]
    rw [List.getElem?_set]
    by_cases he : k / sz = i
    · have hset : (l.set i y)[k / sz]? = some y := by rw [he]; simp [hi]
      have h1 := flat_get R (l.set i y) (k / sz) (k % sz) y hset hk4
      have h2 := flat_get R l (k / sz) (k % sz) x (by rw [he]; exact hx) hk4
      rw [hkm] at h1 h2
      rw [h1, hy, List.getElem?_set]
      have hlen : (renc x).length = sz := R.len x
      by_cases hjk : j = k % sz
      · have h5 : i * sz + j = k := by rw [← he, hjk]; exact hkm
        rw [if_pos h5, if_pos hjk, if_pos (by simpa [h5] using hks), if_pos (by omega)]
      · have h5 : i * sz + j ≠ k := fun h5 => hjk (by
          have : (i * sz + j) % sz = j := by rw [Nat.mul_comm, Nat.mul_add_mod]; exact Nat.mod_eq_of_lt hj
          rw [← h5, this])
        rw [if_neg h5, if_neg hjk, hcur, h2]
    · obtain ⟨z, hz⟩ : ∃ z, l[k / sz]? = some z := ⟨l[k / sz], by simp [hkd]⟩
      have h1 := flat_get R (l.set i y) (k / sz) (k % sz) z (by rw [List.getElem?_set_ne (fun h => he h.symm)]; exact hz) hk4
      have h2 := flat_get R l (k / sz) (k % sz) z hz hk4
      rw [hkm] at h1 h2
      have h5 : i * sz + j ≠ k := fun h5 => he (by
        have : (i * sz + j) / sz = i := by rw [Nat.mul_comm, Nat.mul_add_div hsz, Nat.div_eq_of_lt hj, Nat.add_zero]
        rw [← h5, this])
      rw [h1, ← h2, ← hcur, if_neg h5]
  · rw [List.getElem?_eq_none (by simp; omega), List.getElem?_eq_none (by rw [hF]; omega)]
end
end Go.Dm
namespace Go.Proofs.Ytdcjfaplgpeonaa
open Go.RowKit Go.Dm

/-- A point. -/
structure Pt where
  p : Int
  d : Int
  s : Int
def ptE (x : Pt) : List Value := [.int .i64 x.p, .int .i64 x.d, .int .i64 x.s]
theorem ptR : REnc 3 ptE := ⟨fun _ => rfl, fun a u hu => by simp [ptE] at hu; rcases hu with rfl | rfl | rfl <;> rfl⟩
theorem elem133 : ElemIs Try.prog 133 83 3 24 := ⟨Try.underlying133, by
  obtain ⟨i, hi, hz, h1, h2⟩ := info_parts (show (Try.prog.info? 83).map (fun i => (i.zero, i.size, i.bytes)) = some (some (.agg #[.int .i64 0, .int .i64 0, .int .i64 0]), 3, 24) by kernel_rfl)
  exact ⟨i, _, hi, hz, h1, h2, rfl⟩, by decide⟩
theorem pts_at {w : World} {g n c : Nat} {l : List Pt} (h : SlAt 83 3 ptE w (.slice (some ⟨g, 0, none⟩) n c) l) {k : Nat} {x : Pt} (hp : l[k]? = some x) :
    w.cell? ⟨g, k * 3, none⟩ = some (.int .i64 x.p) ∧ w.cell? ⟨g, k * 3 + 1, none⟩ = some (.int .i64 x.d) ∧ w.cell? ⟨g, k * 3 + 2, none⟩ = some (.int .i64 x.s) :=
  ⟨h.at_ ptR hp (j := 0) (by omega), h.at_ ptR hp (j := 1) (by omega), h.at_ ptR hp (j := 2) (by omega)⟩
/-- A curve: block c holds a slice of its own with these points. -/
def CvAt (w : World) (B c : Nat) (l : List Pt) : Prop := ∃ v, w.heap[c]? = some (.cells #[v] 135 (0, 0)) ∧ SlAt 83 3 ptE w v l ∧ Fresh B v ∧ B ≤ c
theorem CvAt.chg {w w' : World} {B c : Nat} {l : List Pt} {S : List Nat} (h : CvAt w B c l) (hC : Chg S w w') (hS : ∀ k ∈ S, k < B) : CvAt w' B c l := by
  obtain ⟨v, h1, h2, h3, h4⟩ := h
  exact ⟨v, hC.at_ h1 (fun hm => by have := hS c hm; omega), h2.chg hC (h3.not_in hS), h3, h4⟩
/-- What stands in memory while a curve is made: nothing of it turns by what is done to the curve's own two blocks. -/
structure CSt (w : World) (il : NL) (v : Value) (ss : List Int) (Ds : List Nat) (W : World) : Prop where
  map : MapAt qenc nenc W w.heap.size il
  box : W.heap[w.heap.size + 1]? = some (.cells #[.map (some w.heap.size)] 128 (0, 0))
  ids : SlAt 2 1 idE W v ss
  dfs : Ds.Nodup ∧ ∀ D ∈ Ds, W.heap[D]? = some (.deferred (some []))
theorem CSt.chg {w W W' : World} {il : NL} {v : Value} {ss : List Int} {Ds : List Nat} {T : List Nat} (h : CSt w il v ss Ds W) (hC : Chg T W W') (hT : ∀ k ∈ T, ∃ cs t, W.heap[k]? = some (.cells cs t (0, 0)) ∧ (t = 135 ∨ t = 83)) : CSt w il v ss Ds W' := by
  have nm : w.heap.size ∉ T := fun hm => by
    obtain ⟨cs, t, h1, _⟩ := hT _ hm
    obtain ⟨_, _, h2, _⟩ := h.map
    rw [h1] at h2; cases h2
  have nb : w.heap.size + 1 ∉ T := fun hm => by
    obtain ⟨cs, t, h1, h2⟩ := hT _ hm
    rw [h.box] at h1
    simp only [Option.some.injEq, Obj.cells.injEq] at h1
    obtain ⟨_, rfl, _⟩ := h1
    rcases h2 with h2 | h2 <;> cases h2
  refine ⟨h.map.chg hC nm, hC.at_ h.box nb, h.ids.chg hC (fun g hg hm => ?_), h.dfs.1, fun D hD => hC.at_ (h.dfs.2 D hD) (fun hm => ?_)⟩
  · obtain ⟨cs, t, h1, h2⟩ := hT _ hm
    obtain ⟨cur, h3⟩ := h.ids.typed hg
    rw [h1] at h3
    simp only [Option.some.injEq, Obj.cells.injEq] at h3
    obtain ⟨_, rfl, _⟩ := h3
    rcases h2 with h2 | h2 <;> cases h2
  · obtain ⟨cs, t, h1, h2⟩ := hT _ hm
    rw [h.dfs.2 D hD] at h1; cases h1

def demO (l : List Ord) (p : Int) : Int := sumO (l.filter (fun o => decide (p ≤ o 3)))
def supO (l : List Ord) (p : Int) : Int := sumO (l.filter (fun o => decide (o 3 ≤ p)))
def ptOf (l0 l1 : List Ord) (q : Int) : Pt := ⟨q, sumP l0 q, sumP l1 q⟩
/-- The first k supplies have been summed up. -/
def ptsS (ss : List Int) (l0 l1 : List Ord) (k : Nat) : List Pt := ss.mapIdx (fun i q => ⟨q, sumP l0 q, if i < k then supO l1 q else sumP l1 q⟩)
/-- The demands from k - 1 on have been summed up, too. -/
def ptsD (ss : List Int) (l0 l1 : List Ord) (k : Nat) : List Pt := ss.mapIdx (fun i q => ⟨q, if k ≤ i + 1 then demO l0 q else sumP l0 q, supO l1 q⟩)
theorem ptsS_len (ss : List Int) (l0 l1 : List Ord) (k : Nat) : (ptsS ss l0 l1 k).length = ss.length := by simp [ptsS]
theorem ptsD_len (ss : List Int) (l0 l1 : List Ord) (k : Nat) : (ptsD ss l0 l1 k).length = ss.length := by simp [ptsD]
theorem ptsS_zero (ss : List Int) (l0 l1 : List Ord) : ptsS ss l0 l1 0 = ss.map (ptOf l0 l1) := by
  refine List.ext_getElem? fun i => ?_
  simp only [ptsS, List.getElem?_mapIdx, List.getElem?_map, Nat.not_lt_zero, if_false]
  rfl
/-- Of a rising list of prices: all that some orders have. -/
structure Prices (ss : List Int) (l0 l1 : List Ord) : Prop where
  rise : ss.Pairwise (· < ·)
  all : ∀ q, q ∈ ss ↔ (hasP l0 q || hasP l1 q) = true
theorem sumO_split (l : List Ord) (f g h : Ord → Bool) (hx : ∀ o ∈ l, f o = (g o || h o)) (hd : ∀ o ∈ l, ¬ (g o = true ∧ h o = true)) : sumO (l.filter f) = sumO (l.filter g) + sumO (l.filter h) := by
  induction l with
  | nil => simp [sumO]
  | cons o l ih =>
    have h1 := ih (fun x hx' => hx x (List.mem_cons_of_mem _ hx')) (fun x hx' => hd x (List.mem_cons_of_mem _ hx'))
    have h2 := hx o (by simp)
    have h3 := hd o (by simp)
    simp only [List.filter_cons, h2]
    cases hg : g o <;> cases hh : h o
    · simpa using h1
    · simp only [Bool.or_true, if_true, Bool.false_eq_true, if_false, sumO, List.map_cons, List.sum_cons] at *; omega
    · simp only [Bool.true_or, if_true, Bool.false_eq_true, if_false, sumO, List.map_cons, List.sum_cons] at *; omega
    · exact absurd ⟨hg, hh⟩ h3
theorem hasP_mem {l : List Ord} {o : Ord} (h : o ∈ l) : hasP l (o 3) = true := by unfold hasP; rw [List.any_eq_true]; exact ⟨o, h, by simp⟩
theorem Prices.idx {ss : List Int} {l0 l1 : List Ord} (_h : Prices ss l0 l1) {q : Int} (hq : q ∈ ss) : ∃ i : Nat, ss[i]? = some q := List.mem_iff_getElem?.1 hq
theorem rise_le {ss : List Int} (h : ss.Pairwise (· < ·)) {i j : Nat} {a b : Int} (ha : ss[i]? = some a) (hb : ss[j]? = some b) (hij : i < j) : a < b := by
  obtain ⟨hi, rfl⟩ := List.getElem?_eq_some_iff.1 ha
  obtain ⟨hj, rfl⟩ := List.getElem?_eq_some_iff.1 hb
  exact List.pairwise_iff_getElem.1 h i j hi hj hij
/-- Each step of the sums. -/
theorem sup_first {ss : List Int} {l0 l1 : List Ord} (h : Prices ss l0 l1) {x : Int} (hx : ss[0]? = some x) : supO l1 x = sumP l1 x := by
  unfold supO sumP atP
  congr 1
  refine List.filter_congr fun o ho => ?_
  have : o 3 ∈ ss := (h.all _).2 (by rw [hasP_mem ho, Bool.or_true])
  obtain ⟨i, hi⟩ := h.idx this
  have hle : x ≤ o 3 := by
    rcases Nat.eq_zero_or_pos i with rfl | hp
    · rw [hi] at hx; cases hx; exact Int.le_refl _
    · exact Int.le_of_lt (rise_le h.rise hx hi hp)
  simp only [decide_eq_decide]
  omega
theorem sup_next {ss : List Int} {l0 l1 : List Ord} (h : Prices ss l0 l1) {k : Nat} {x y : Int} (hx : ss[k]? = some x) (hy : ss[k + 1]? = some y) : supO l1 y = sumP l1 y + supO l1 x := by
  unfold supO sumP atP
  refine sumO_split _ _ _ _ (fun o ho => ?_) (fun o ho => ?_)
  · have : o 3 ∈ ss := (h.all _).2 (by rw [hasP_mem ho, Bool.or_true])
    obtain ⟨i, hi⟩ := h.idx this
    have hxy := rise_le h.rise hx hy (Nat.lt_succ_self k)
    have h3 : o 3 < y → o 3 ≤ x := fun hlt => by
      by_cases hik : i ≤ k
      · rcases Nat.lt_or_eq_of_le hik with hik | rfl
        · exact Int.le_of_lt (rise_le h.rise hi hx hik)
        · rw [hi] at hx; cases hx; exact Int.le_refl _
      · rcases Nat.lt_or_eq_of_le (show k + 1 ≤ i by omega) with h4 | rfl
        · have := rise_le h.rise hy hi h4; omega
        · rw [hi] at hy; cases hy; omega
    rw [Bool.eq_iff_iff]
    simp only [decide_eq_true_eq, Bool.or_eq_true]
    constructor
    · intro hle
      rcases Int.lt_or_eq_of_le hle with h5 | h5
      · exact .inr (h3 h5)
      · exact .inl h5
    · rintro (h5 | h5) <;> omega
  · have hxy := rise_le h.rise hx hy (Nat.lt_succ_self k)
    simp only [decide_eq_true_eq]
    omega
theorem dem_last {ss : List Int} {l0 l1 : List Ord} (h : Prices ss l0 l1) {k : Nat} {x : Int} (hx : ss[k]? = some x) (hk : k + 1 = ss.length) : demO l0 x = sumP l0 x := by
  unfold demO sumP atP
  congr 1
  refine List.filter_congr fun o ho => ?_
  have : o 3 ∈ ss := (h.all _).2 (by rw [hasP_mem ho, Bool.true_or])
  obtain ⟨i, hi⟩ := h.idx this
  have hil := (List.getElem?_eq_some_iff.1 hi).1
  have hle : o 3 ≤ x := by
    rcases Nat.lt_or_eq_of_le (show i ≤ k by omega) with hp | rfl
    · exact Int.le_of_lt (rise_le h.rise hi hx hp)
    · rw [hi] at hx; cases hx; exact Int.le_refl _
  simp only [decide_eq_decide]
  omega
theorem dem_next {ss : List Int} {l0 l1 : List Ord} (h : Prices ss l0 l1) {k : Nat} {x y : Int} (hx : ss[k]? = some x) (hy : ss[k + 1]? = some y) : demO l0 x = sumP l0 x + demO l0 y := by
  unfold demO sumP atP
  refine sumO_split _ _ _ _ (fun o ho => ?_) (fun o ho => ?_)
  · have : o 3 ∈ ss := (h.all _).2 (by rw [hasP_mem ho, Bool.true_or])
    obtain ⟨i, hi⟩ := h.idx this
    have hxy := rise_le h.rise hx hy (Nat.lt_succ_self k)
    have h3 : x < o 3 → y ≤ o 3 := fun hlt => by
      by_cases hik : k + 1 ≤ i
      · rcases Nat.lt_or_eq_of_le hik with hik | rfl
        · exact Int.le_of_lt (rise_le h.rise hy hi hik)
        · rw [hi] at hy; cases hy; exact Int.le_refl _
      · rcases Nat.lt_or_eq_of_le (show i ≤ k by omega) with h4 | rfl
        · have := rise_le h.rise hi hx h4; omega
        · rw [hi] at hx; cases hx; omega
    rw [Bool.eq_iff_iff]
    simp only [decide_eq_true_eq, Bool.or_eq_true]
    constructor
    · intro hle
      rcases Int.lt_or_eq_of_le hle with h5 | h5
      · exact .inr (h3 h5)
      · exact .inl h5.symm
    · rintro (h5 | h5) <;> omega
  · have hxy := rise_le h.rise hx hy (Nat.lt_succ_self k)
    simp only [decide_eq_true_eq]
    omega
theorem ptsS_one {ss : List Int} {l0 l1 : List Ord} (h : Prices ss l0 l1) : ptsS ss l0 l1 0 = ptsS ss l0 l1 (0 + 1) := by
  refine List.ext_getElem? fun i => ?_
  simp only [ptsS, List.getElem?_mapIdx, Nat.not_lt_zero, if_false]
  by_cases hi : i < 0 + 1
  · obtain rfl : i = 0 := by omega
    cases hx : ss[0]? with
    | none => rfl
    | some x => simp [sup_first h hx]
  · simp [hi]
theorem ptsS_set {ss : List Int} {l0 l1 : List Ord} {k : Nat} {y : Int} (hy : ss[k]? = some y) : (ptsS ss l0 l1 k).set k ⟨y, sumP l0 y, supO l1 y⟩ = ptsS ss l0 l1 (k + 1) := by
  refine List.ext_getElem? fun i => ?_
  have hk := (List.getElem?_eq_some_iff.1 hy).1
  rw [List.getElem?_set]
  by_cases e : k = i
  · subst e
    have he := (List.getElem?_eq_some_iff.1 hy).2
    simp [ptsS, hk, he]
  · simp only [ptsS, e, if_false, List.getElem?_mapIdx]
    by_cases hi : i < k
    · simp [hi, Nat.lt_succ_of_lt hi]
    · simp [hi, show ¬ i < k + 1 by omega]
theorem ptsS_D {ss : List Int} {l0 l1 : List Ord} (h : Prices ss l0 l1) : ptsS ss l0 l1 ss.length = ptsD ss l0 l1 ss.length := by
  refine List.ext_getElem? fun i => ?_
  simp only [ptsS, ptsD, List.getElem?_mapIdx]
  cases hx : ss[i]? with
  | none => rfl
  | some x =>
    have hi := (List.getElem?_eq_some_iff.1 hx).1
    simp only [hi, if_true, Option.map_some]
    by_cases e : ss.length ≤ i + 1
    · simp [e, dem_last h hx (by omega)]
    · simp [e]
theorem ptsD_set {ss : List Int} {l0 l1 : List Ord} {k : Nat} {y : Int} (hy : ss[k]? = some y) : (ptsD ss l0 l1 (k + 2)).set k ⟨y, demO l0 y, supO l1 y⟩ = ptsD ss l0 l1 (k + 1) := by
  refine List.ext_getElem? fun i => ?_
  have hk := (List.getElem?_eq_some_iff.1 hy).1
  rw [List.getElem?_set]
  by_cases e : k = i
  · subst e
    have he := (List.getElem?_eq_some_iff.1 hy).2
    simp [ptsD, hk, he]
  · simp only [ptsD, e, if_false, List.getElem?_mapIdx]
    by_cases hi : k + 2 ≤ i + 1
    · simp [hi, show k + 1 ≤ i + 1 by omega]
    · simp [hi, show ¬ k + 1 ≤ i + 1 by omega]
/-- The points of a curve. -/
def ptsC (ss : List Int) (l0 l1 : List Ord) : List Pt := ss.map (fun q => ⟨q, demO l0 q, supO l1 q⟩)
theorem ptsD_C (ss : List Int) (l0 l1 : List Ord) (k : Nat) (hk : k ≤ 1) : ptsD ss l0 l1 k = ptsC ss l0 l1 := by
  refine List.ext_getElem? fun i => ?_
  simp only [ptsD, ptsC, List.getElem?_mapIdx, List.getElem?_map, show k ≤ i + 1 by omega, if_true]
def SumOk (l : List Ord) : Prop := ∀ x, (0 ≤ sumP l x ∧ sumP l x ≤ 257698037760) ∧ (0 ≤ demO l x ∧ demO l x ≤ 257698037760) ∧ (0 ≤ supO l x ∧ supO l x ≤ 257698037760)
theorem sumOk {l : List Ord} (h : QtyOk l) (hl : l.length ≤ 60) : SumOk l := fun x => by
  have h1 : ∀ f : Ord → Bool, 0 ≤ sumO (l.filter f) ∧ sumO (l.filter f) ≤ 257698037760 := fun f => by
    have h1 := sumO_le (l := l.filter f) (h.sub (fun o ho => (List.mem_filter.1 ho).1))
    have h2 : (l.filter f).length ≤ l.length := List.length_filter_le _ _
    omega
  exact ⟨h1 _, h1 _, h1 _⟩
theorem keys_len {il : NL} {l0 l1 : List Ord} (hn : (keysL il).Nodup) (h : ∀ q, mLook il q = semA l0 l1 q) : il.length ≤ l0.length + l1.length := by
  have hs : keysL il ⊆ (l0 ++ l1).map (fun o => o 3) := fun q hq => by
    have h1 : mLook il q ≠ none := fun e => mLook_none.1 e hq
    rw [h] at h1
    unfold semA at h1
    rw [List.mem_map]
    by_cases hc : (hasP l0 q || hasP l1 q) = true
    · rw [Bool.or_eq_true] at hc
      unfold hasP at hc
      rw [List.any_eq_true, List.any_eq_true] at hc
      rcases hc with ⟨o, ho, h2⟩ | ⟨o, ho, h2⟩
      · exact ⟨o, List.mem_append_left _ ho, by simpa using h2⟩
      · exact ⟨o, List.mem_append_right _ ho, by simpa using h2⟩
    · simp [hc] at h1
  have := List.Nodup.length_le_of_subset hn hs
  simpa [keysL] using this
theorem prices_of {il : NL} {l0 l1 : List Ord} (hn : (keysL il).Nodup) (h : ∀ q, mLook il q = semA l0 l1 q) {out : List Int} (hp : out.Perm (keysL il)) : Prices (srt out) l0 l1 := by
  have hp2 : (srt out).Perm (keysL il) := (List.mergeSort_perm _ _).trans hp
  refine ⟨?_, fun q => ?_⟩
  · have h1 : (srt out).Pairwise (fun a b => decide (a ≤ b) = true) := List.pairwise_mergeSort (fun a b c h1 h2 => by simp only [decide_eq_true_eq] at *; omega) (fun a b => by simp only [Bool.or_eq_true, decide_eq_true_eq]; omega) _
    have h2 : (srt out).Pairwise (· ≠ ·) := hp2.nodup_iff.2 hn
    refine (h1.and h2).imp ?_
    rintro a b ⟨h3, h4⟩
    simp only [decide_eq_true_eq] at h3
    omega
  · rw [hp2.mem_iff]
    have h1 : q ∈ keysL il ↔ mLook il q ≠ none := by rw [Ne, mLook_none, Decidable.not_not]
    rw [h1, h]
    unfold semA
    by_cases hc : (hasP l0 q || hasP l1 q) = true <;> simp [hc]
end Go.Proofs.Ytdcjfaplgpeonaa
