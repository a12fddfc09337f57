/-
  slices.Insert of one level.
-/
import Derived.Test.YtdcjfaplgpeonaaQ6
import Derived.Test.YtdcjfaplgpeonaaQ1
namespace Go.Proofs.Ytdcjfaplgpeonaa
open Go.RowKit Go.Dm

/-- The block that a slice's row lies in. -/
def ownL (v : Value) : List Nat := v.ownBlock.toList
def InsPost (w : World) (_D : Nat) (v : Value) (lv : List Lvl) (i : Nat) (x : Lvl) (e : Ending) (w' : World) : Prop :=
  ∃ v', e = .returned v' ∧ SlAt 167 4 lvE w' v' (insL lv i x) ∧ Chg (ownL v) w w' ∧ (v'.ownBlock = v.ownBlock ∨ ∃ g, v'.ownBlock = some g ∧ w.heap.size ≤ g)

theorem ownS (A : Option Addr) (n c : Nat) : (Value.slice A n c).ownBlock = A.map (·.block) := by cases A <;> rfl
theorem ins_fin {w w' : World} {D : Nat} {v v' : Value} {lv : List Lvl} {x : Lvl} (h1 : SlAt 167 4 lvE w' v' (lv ++ [x])) (h2 : w.grownBy w' v.ownBlock) (h3 : v'.ownBlock = v.ownBlock ∨ v'.ownBlock = some w.heap.size) :
    InsPost w D v lv lv.length x (.returned v') w' :=
  ⟨v', rfl, by rw [insL_end]; exact h1, Chg.of_grown h2 (fun k hk => .inl (by simp [ownL, hk])), h3.imp id (fun h => ⟨_, h, Nat.le_refl _⟩)⟩

set_option maxRecDepth 100000 in
set_option maxHeartbeats 2000000 in
theorem ins_end (w : World) (D : Nat) (v : Value) (lv : List Lvl) (x : Lvl) (vb : Nat) (hv : SlAt 167 4 lvE w v lv) (hx : w.heap[vb]? = some (.cells (lvE x).toArray 167 (0, 0))) (hlen : lv.length ≤ 1000) :
    Calls Try.prog 100 #[v, .int .i64 lv.length, .slice (some ⟨vb, 0, none⟩) 1 1] w (InsPost w D v lv lv.length x) := by
  obtain ⟨A, c, rfl, hA0, hA⟩ := hv.form
  have n0 : (0 : Int) ≤ (lv.length : Int) := Int.natCast_nonneg _
  go_enter Try.func100, Try.ntmps100
  go_wp2_with (at_builtin; go_must (refine wpL_append rfl _ _ 175 rfl lvR elem175 hv (SrcAt.one (renc := lvE) (a := x) (t := 167) (fr := (0, 0)) hx 1) rfl rfl (maxOk (by simp; omega)) (by simp; omega) ?_))
  all_goals
    intro v' w' h1 h2 h3
    have H := Lib.hid (And.intro h1 (And.intro h2 h3))
    clear h1 h2 h3
    go_wp2
    go_ret
    exact ins_fin H.out.1 (by have h := H.out.2.1; simp only [ownS] at h ⊢; exact h) (by have h := H.out.2.2; simp only [ownS] at h ⊢; exact h)

theorem info167 : (Try.prog.info? 167).map (·.size) = some 4 := by kernel_rfl
theorem one_flat (l : List Lvl) : ∀ v ∈ l.flatMap lvE, v.oneCell' = true := fun v hv => by
  obtain ⟨a, _, ha⟩ := List.mem_flatMap.1 hv
  exact lvR.one a v ha
theorem over123 (w : World) (g vb i lb cb : Nat) (cur : Array Value) (x : Lvl) (hne : vb ≠ g) (hx : w.heap[vb]? = some (.cells (lvE x).toArray 167 (0, 0))) (hg : w.heap[g]? = some (.cells cur 167 (0, 0))) (hs : cur.size ≠ 0) :
    (callFunc 123 #[.slice (some ⟨vb, 0, none⟩) 1 1, .slice (some ⟨g, i, none⟩) lb cb]).run Try.prog w = .ok (.value (.bool false)) w := by
  rw [run_callFunc_extern Try.func123 (by kernel_rfl) (by kernel_rfl) (by kernel_rfl) (e := Extern.SlicesOverlaps.overlaps #[175, 175] #[4]) (by kernel_rfl),
    Lib.run_overlaps_apart w 175 4 167 Try.underlying175 4 (fun w => by kernel_rfl) ⟨vb, 0, none⟩ ⟨g, i, none⟩ 1 1 lb cb hne 167 167 4 cur.size (by simp [World.shape?, hx, lvE]) (by simp [World.shape?, hg]) hs (by simp [World.frozen?, hx]) (by simp [World.frozen?, hx])]
  rfl

theorem ins_shift {w W W1 : World} {g c : Nat} {lv : List Lvl} {i : Nat} {cur : Array Value} (hr : ∃ cur, w.heap[g]? = some (.cells cur 167 (0, 0)) ∧ lv.length = lv.length ∧ lv.length ≤ c ∧ c ≤ maxLen ∧ cur.size = c * 4 ∧ cur.toList.take (lv.length * 4) = lv.flatMap lvE)
    (hg : w.heap[g]? = some (.cells cur 167 (0, 0))) (hi : i < lv.length) (hc : lv.length + 1 ≤ c) (hW : Chg [] w W) (hgW : W.heap[g]? = some (.cells cur 167 (0, 0))) (hW1 : W1 = W.setRow g (cutIn cur ((i + 1) * 4) ((lv.drop i).flatMap lvE))) (x : Lvl) (D : Nat) :
    InsPost w D (.slice (some ⟨g, 0, none⟩) lv.length c) lv i x (.returned (.slice (some ⟨g, 0, none⟩) (lv.length + 1) c)) (W1.setRow g (cutIn (cutIn cur ((i + 1) * 4) ((lv.drop i).flatMap lvE)) (i * 4) (lvE x))) := by
  obtain ⟨cur', hg', _, hlc, hcm, hsz, htk⟩ := hr
  rw [hg] at hg'
  cases hg'
  have hdl : ((lv.drop i).flatMap lvE).length = (lv.length - i) * 4 := by rw [flat_len lvR, List.length_drop]
  have htl : ((lv.take i).flatMap lvE).length = i * 4 := by rw [flat_len lvR, List.length_take, Nat.min_eq_left (by omega)]
  have hxl : (lvE x).length = 4 := lvR.len x
  have hg1 : W1.heap[g]? = some (.cells (cutIn cur ((i + 1) * 4) ((lv.drop i).flatMap lvE)) 167 (0, 0)) := by rw [hW1]; exact setRow_at hgW
  refine ⟨_, rfl, SlAt.mk lvR (setRow_at hg1) (insL_length lv i x (by omega)).symm (by rw [insL_length lv i x (by omega)]; exact hc) hcm ?_ ?_, ?_, .inl rfl⟩
  · have h1 : (cutIn cur ((i + 1) * 4) ((lv.drop i).flatMap lvE)).size = cur.size := cutIn_size (by rw [hdl]; omega)
    rw [cutIn_size (by rw [h1, hxl]; omega), h1, hsz]
  · have hAB : cur.toList.take (((lv.take i).flatMap lvE).length + ((lv.drop i).flatMap lvE).length) = (lv.take i).flatMap lvE ++ (lv.drop i).flatMap lvE := by
      rw [← List.flatMap_append, List.take_append_drop, htl, hdl, ← htk]
      congr 1; omega
    obtain ⟨R, hR, hRd, hRl⟩ := ins_row cur.toList _ _ (lvE x) hAB (by rw [htl, hdl, hxl]; simp; omega)
    have e1 : (cutIn cur ((i + 1) * 4) ((lv.drop i).flatMap lvE)).toList = (lv.take i).flatMap lvE ++ R := by
      rw [← hR, htl, hxl]
      simp only [cutIn]
      rw [show (i + 1) * 4 = i * 4 + 4 by omega]
    have e2 : (cutIn (cutIn cur ((i + 1) * 4) ((lv.drop i).flatMap lvE)) (i * 4) (lvE x)).toList = (lv.take i).flatMap lvE ++ lvE x ++ ((lv.drop i).flatMap lvE ++ cur.toList.drop (((lv.take i).flatMap lvE).length + (lvE x).length + ((lv.drop i).flatMap lvE).length)) := by
      rw [← ins_row2 _ R (lvE x) _ hRd hRl, ← e1, htl, hxl]
      simp only [cutIn, hxl]
    rw [e2, flat_ins, insL_length lv i x (by omega), ← List.append_assoc]
    refine List.take_left' ?_
    rw [List.length_append, List.length_append, htl, hxl, hdl]
    omega
  · refine (hW.nil.trans ?_).trans (Chg.setRow _)
    rw [hW1]
    exact Chg.setRow _

set_option maxRecDepth 100000 in
set_option maxHeartbeats 4000000 in
theorem ins_room (w : World) (D : Nat) (g c : Nat) (lv : List Lvl) (i : Nat) (x : Lvl) (vb : Nat) (hv : SlAt 167 4 lvE w (.slice (some ⟨g, 0, none⟩) lv.length c) lv) (hne : vb ≠ g) (hx : w.heap[vb]? = some (.cells (lvE x).toArray 167 (0, 0))) (hi : i < lv.length) (hc : lv.length + 1 ≤ c) :
    Calls Try.prog 100 #[.slice (some ⟨g, 0, none⟩) lv.length c, .int .i64 i, .slice (some ⟨vb, 0, none⟩) 1 1] w (InsPost w D (.slice (some ⟨g, 0, none⟩) lv.length c) lv i x) := by
  obtain ⟨cur, hg, _, hlc, hcm, hsz, htk⟩ := hv.row
  unfold maxLen at hcm
  have i0 : (0 : Int) ≤ (i : Int) := Int.natCast_nonneg _
  have i1 : (i : Int) < (lv.length : Int) := by omega
  have c1 : ((lv.length : Int) + 1) ≤ (c : Int) := by omega
  have c2 : (c : Int) ≤ 9223372036854775807 := by omega
  have hov := fun lb cb => over123 w g vb ((i + 1) * 4) lb cb cur x hne hx hg (by omega)
  go_enter Try.func100, Try.ntmps100
  go_wp2_with (simp only [hov])
  have hdl : ((lv.drop i).flatMap lvE).length = (lv.length - i) * 4 := by rw [flat_len lvR, List.length_drop]
  have hxl : (lvE x).length = 4 := lvR.len x
  refine wp_tail 8 (by kernel_rfl) (by kernel_rfl) ?_
  intro W hW
  have hgW := hW.at_ hg (by simp)
  have hxW := hW.at_ hx (by simp)
  have hcp1 : ∀ ty dc sc, (Builtin.copy_ #[175, 175] ty #[.slice (some ⟨g, (i + 1) * 4, none⟩) (lv.length - i) dc, .slice (some ⟨g, i * 4, none⟩) (lv.length + 1 - i) sc]).run Try.prog W = .ok (goInt (Nat.min (lv.length + 1 - i) (lv.length - i))) (W.setRow g (cutIn cur ((i + 1) * 4) ((lv.drop i).flatMap lvE))) := fun ty dc sc =>
    copy_law W 175 175 ty 167 4 g ((i + 1) * 4) _ dc ⟨g, i * 4, none⟩ _ sc cur 167 _ Try.underlying175 info167 hgW (by rw [hdl]; congr 1; simp only [Nat.min_def]; split <;> omega)
      (fun j u hj => by
        have h2 := flat_drop lvR lv i (by omega) hj
        have hj2 : i * 4 + j < lv.length * 4 := by rw [← flat_len lvR lv]; exact (List.getElem?_eq_some_iff.1 h2).1
        rw [add_lit3]
        have h3 : cur[i * 4 + j]? = some u := by
          rw [← htk, List.getElem?_take, if_pos hj2] at h2
          simpa using h2
        simp [World.cell?, hgW, h3])
      (by rw [hdl]; omega) (one_flat _)
  obtain ⟨W1, hW1⟩ : ∃ W1, W1 = W.setRow g (cutIn cur ((i + 1) * 4) ((lv.drop i).flatMap lvE)) := ⟨_, rfl⟩
  have hg1 : W1.heap[g]? = some (.cells (cutIn cur ((i + 1) * 4) ((lv.drop i).flatMap lvE)) 167 (0, 0)) := by rw [hW1]; exact setRow_at hgW
  have hC1 : Chg [g] W W1 := by rw [hW1]; exact Chg.setRow _
  have hx1 := hC1.at_ hxW (by simp [hne])
  have hs1 : (cutIn cur ((i + 1) * 4) ((lv.drop i).flatMap lvE)).size = cur.size := cutIn_size (by rw [hdl]; omega)
  have hcp2 : ∀ ty dc, (Builtin.copy_ #[175, 175] ty #[.slice (some ⟨g, i * 4, none⟩) (lv.length + 1 - i) dc, .slice (some ⟨vb, 0, none⟩) 1 1]).run Try.prog W1 = .ok (goInt (Nat.min 1 (lv.length + 1 - i))) (W1.setRow g (cutIn (cutIn cur ((i + 1) * 4) ((lv.drop i).flatMap lvE)) (i * 4) (lvE x))) := fun ty dc =>
    copy_law W1 175 175 ty 167 4 g (i * 4) _ dc ⟨vb, 0, none⟩ 1 1 _ 167 _ Try.underlying175 info167 hg1 (by rw [hxl]; simp only [Nat.min_def]; split <;> omega)
      (fun j u hj => by
        rw [add_lit']
        simp [World.cell?, hx1, hj])
      (by rw [hxl, hs1]; omega) (fun u hu => lvR.one x u hu)
  rw [← hW1] at hcp1
  have hfin := ins_shift hv.row hg hi hc hW hgW hW1 x
  have HF := Lib.hid hfin
  have HC := Lib.hid (And.intro hcp1 hcp2)
  clear hcp1 hcp2 hfin hg1 hC1 hx1 hs1 hgW hxW hW hov hdl hxl hW1 hx hg htk hsz
  have b1 : IntKind.i64.wrap ((i : Int) + 1) = (i : Int) + 1 := IntWalk.i64_in _ (by omega)
  have b2 : (0 : Int) ≤ (i : Int) + 1 := by omega
  have b3 : (i : Int) + 1 ≤ (lv.length : Int) + 1 := by omega
  have b4 : ((i : Int) + 1).toNat = i + 1 := by omega
  have b5 : (i : Int) ≤ (lv.length : Int) + 1 := by omega
  have b6 : ¬ (c = i + 1) := by omega
  have b7 : ¬ (c = i) := by omega
  simp only [List.take_succ_cons, List.take_zero, List.drop_succ_cons, List.drop_zero]
  repeat still_step
  refine wpStill_nil ?_
  go_wp2_with (first | (with_reducible refine wpL_copy rfl (.tmp 73) (.tmp 76) 175 175 rfl rfl rfl (HC.out.1 _ _ _) ?_) | (with_reducible refine wpL_copy rfl (.tmp 80) (.tmp 81) 175 175 rfl rfl rfl (HC.out.2 _ _) ?_))
  go_ret
  exact HF.out D

theorem cutIn_list (cur : Array Value) (o : Nat) (cs : List Value) : (cutIn cur o cs).toList = cur.toList.take o ++ cs ++ cur.toList.drop (o + cs.length) := by simp [cutIn]
theorem ins_grown {w W : World} {lv : List Lvl} {i G : Nat} {Z : List Value} {x : Lvl} {D : Nat} {v : Value} (hi : i < lv.length) (hG1 : lv.length + 1 ≤ G) (hG2 : G ≤ maxLen)
    (hs1 : (((lv.take i).flatMap lvE) ++ Z).toArray.size = G * 4) (hC : Chg [] w W) (hH : W.heap[w.heap.size]? = some (.cells (cutIn (((lv.take i).flatMap lvE) ++ Z).toArray (i * 4) (lvE x)) 167 (0, 0))) :
    InsPost w D v lv i x (.returned (.slice (some ⟨w.heap.size, 0, none⟩) (lv.length + 1) G)) (W.setRow w.heap.size (cutIn (cutIn (((lv.take i).flatMap lvE) ++ Z).toArray (i * 4) (lvE x)) ((i + 1) * 4) ((lv.drop i).flatMap lvE))) := by
  have hxl : (lvE x).length = 4 := lvR.len x
  have htl : ((lv.take i).flatMap lvE).length = i * 4 := by rw [flat_len lvR, List.length_take, Nat.min_eq_left (by omega)]
  have hdl : ((lv.drop i).flatMap lvE).length = (lv.length - i) * 4 := by rw [flat_len lvR, List.length_drop]
  have hs2 : (cutIn (((lv.take i).flatMap lvE) ++ Z).toArray (i * 4) (lvE x)).size = G * 4 := by rw [cutIn_size (by rw [hxl, hs1]; omega), hs1]
  refine ⟨_, rfl, SlAt.mk lvR (setRow_at hH) (insL_length lv i x (by omega)).symm (by rw [insL_length lv i x (by omega)]; exact hG1) hG2 ?_ ?_, ?_, .inr ⟨_, rfl, Nat.le_refl _⟩⟩
  · rw [cutIn_size (by rw [hs2, hdl]; omega), hs2]
  · have e1 : (cutIn (((lv.take i).flatMap lvE) ++ Z).toArray (i * 4) (lvE x)).toList = (lv.take i).flatMap lvE ++ lvE x ++ Z.drop 4 := by
      simp only [cutIn, hxl]
      rw [← htl, List.take_left, ← hxl, List.drop_append]
      simp
    have e2 : (cutIn (cutIn (((lv.take i).flatMap lvE) ++ Z).toArray (i * 4) (lvE x)) ((i + 1) * 4) ((lv.drop i).flatMap lvE)).toList = (lv.take i).flatMap lvE ++ lvE x ++ (lv.drop i).flatMap lvE ++ (cutIn (((lv.take i).flatMap lvE) ++ Z).toArray (i * 4) (lvE x)).toList.drop ((i + 1) * 4 + ((lv.drop i).flatMap lvE).length) := by
      rw [cutIn_list (cutIn (((lv.take i).flatMap lvE) ++ Z).toArray (i * 4) (lvE x))]
      congr 2
      rw [e1]
      exact List.take_left' (by rw [List.length_append, htl, hxl]; omega)
    rw [e2, flat_ins, insL_length lv i x (by omega)]
    refine List.take_left' ?_
    rw [List.length_append, List.length_append, htl, hxl, hdl]
    omega
  · exact (hC.trans' (Chg.setRow (g := w.heap.size) _) (by simp) (by simp))

set_option maxRecDepth 100000 in
set_option maxHeartbeats 4000000 in
theorem ins_grow (w : World) (D : Nat) (g c : Nat) (lv : List Lvl) (i : Nat) (x : Lvl) (vb : Nat) (hv : SlAt 167 4 lvE w (.slice (some ⟨g, 0, none⟩) lv.length c) lv) (_hne : vb ≠ g) (hx : w.heap[vb]? = some (.cells (lvE x).toArray 167 (0, 0))) (hi : i < lv.length) (hc : c < lv.length + 1) (hlen : lv.length ≤ 1000) :
    Calls Try.prog 100 #[.slice (some ⟨g, 0, none⟩) lv.length c, .int .i64 i, .slice (some ⟨vb, 0, none⟩) 1 1] w (InsPost w D (.slice (some ⟨g, 0, none⟩) lv.length c) lv i x) := by
  obtain ⟨cur, hg, _, hlc, hcm, hsz, htk⟩ := hv.row
  unfold maxLen at hcm
  obtain rfl : c = lv.length := by omega
  have i0 : (0 : Int) ≤ (i : Int) := Int.natCast_nonneg _
  have i1 : (i : Int) < (lv.length : Int) := by omega
  have hcx : (lv.length : Int) < (lv.length : Int) + 1 := by omega
  obtain ⟨i0', hi0, hz0, hzs, hzb⟩ := info_parts (show (Try.prog.info? 167).map (fun i => (i.zero, i.size, i.bytes)) = some (some (.agg #[.int .i64 0, .int .i64 0, .int .i64 0, .int .i64 0]), 4, 32) by kernel_rfl)
  have hold : (Builtin.firstCells i0'.size i (.slice (some ⟨g, 0, none⟩) i lv.length)).run Try.prog w.drew = .ok ((lv.take i).flatMap lvE).toArray w.drew := by
    rw [hzs]
    exact run_firstCells_some w.drew 4 i ⟨g, 0, none⟩ i lv.length ((lv.take i).flatMap lvE) (by rw [flat_len lvR, List.length_take, Nat.min_eq_left (by omega)]) (fun j v hj => by
      have h2 := flat_take lv i hj
      have hj2 : j < lv.length * 4 := by rw [← flat_len lvR lv]; exact (List.getElem?_eq_some_iff.1 h2).1
      rw [add_lit']
      have h3 : cur[j]? = some v := by
        rw [← htk, List.getElem?_take, if_pos hj2] at h2
        simpa using h2
      have hg2 : w.drew.heap[g]? = some (.cells cur 167 (0, 0)) := hg
      simp [World.cell?, hg2, h3])
  obtain ⟨Z, hZ, hZl⟩ : ∃ Z : List Value, (((lv.take i).flatMap lvE).toArray ++ Builtin.zeroCells (Value.agg #[.int .i64 0, .int .i64 0, .int .i64 0, .int .i64 0]).cells (lv.length + 1 - i) ++ Builtin.zeroCells (Value.agg #[.int .i64 0, .int .i64 0, .int .i64 0, .int .i64 0]).cells (grownCap w (lv.length + 1) lv.length 167 - (lv.length + 1))) = (((lv.take i).flatMap lvE) ++ Z).toArray ∧ Z.length = (lv.length + 1 - i) * 4 + (grownCap w (lv.length + 1) lv.length 167 - (lv.length + 1)) * 4 :=
    ⟨(Builtin.zeroCells (Value.agg #[.int .i64 0, .int .i64 0, .int .i64 0, .int .i64 0]).cells (lv.length + 1 - i)).toList ++ (Builtin.zeroCells (Value.agg #[.int .i64 0, .int .i64 0, .int .i64 0, .int .i64 0]).cells (grownCap w (lv.length + 1) lv.length 167 - (lv.length + 1))).toList, by simp, by simp [Builtin.zeroCells, Value.cells]⟩
  have hrz : ∀ ty, (Builtin.append_ #[175, 3] ty #[.slice (some ⟨g, 0, none⟩) i lv.length, .int .i64 ((lv.length : Int) + 1 - (i : Int))]).run Try.prog w =
      .ok (.slice (some ⟨w.heap.size, 0, none⟩) (lv.length + 1) (grownCap w (lv.length + 1) lv.length 167)) (w.drew.alloc (.cells (((lv.take i).flatMap lvE) ++ Z).toArray 167)) := fun ty => by
    have h := Lib.run_append_grow_zeros w 175 3 ty 167 i0' _ .i64 .i64 Try.underlying175 Try.underlying3 hi0 hz0 (some ⟨g, 0, none⟩) i lv.length ((lv.take i).flatMap lvE) hold (lv.length + 1 - i) (by omega) (by omega) (by omega) (by omega) (by rw [hzb]; omega)
      (by rw [hzb, show i + (lv.length + 1 - i) = lv.length + 1 by omega]; exact growslice_fits (by omega) (by omega))
    rw [show i + (lv.length + 1 - i) = lv.length + 1 by omega, hZ] at h
    rw [show (lv.length : Int) + 1 - (i : Int) = ((lv.length + 1 - i : Nat) : Int) by omega]
    exact h
  have hG1 : lv.length + 1 ≤ grownCap w (lv.length + 1) lv.length 167 := grownCap_ge w _ _ _
  have hG2 := grownCap_le_maxLen w (lv.length + 1) lv.length 167 (by unfold maxLen; omega)
  obtain ⟨G, hG⟩ : ∃ G, G = grownCap w (lv.length + 1) lv.length 167 := ⟨_, rfl⟩
  obtain ⟨W1, hW1⟩ : ∃ W1, W1 = w.drew.alloc (.cells (((lv.take i).flatMap lvE) ++ Z).toArray 167) := ⟨_, rfl⟩
  rw [← hG] at hrz hZl hG1 hG2
  rw [← hW1] at hrz
  have hC1 : Chg [] w W1 := by rw [hW1]; exact (Chg.drew [] w).trans (Chg.alloc [] _ _)
  have hH1 : W1.heap[w.heap.size]? = some (.cells (((lv.take i).flatMap lvE) ++ Z).toArray 167 (0, 0)) := by rw [hW1]; exact heap_alloc_new w.drew _
  clear hold hZ hG hW1 hzb hzs hz0 hi0
  have hxl : (lvE x).length = 4 := lvR.len x
  have htl : ((lv.take i).flatMap lvE).length = i * 4 := by rw [flat_len lvR, List.length_take, Nat.min_eq_left (by omega)]
  have hdl : ((lv.drop i).flatMap lvE).length = (lv.length - i) * 4 := by rw [flat_len lvR, List.length_drop]
  have hs1 : (((lv.take i).flatMap lvE) ++ Z).toArray.size = G * 4 := by simp only [List.size_toArray, List.length_append, htl, hZl]; omega
  have hcp1 : ∀ ty dc, (Builtin.copy_ #[175, 175] ty #[.slice (some ⟨w.heap.size, i * 4, none⟩) (lv.length + 1 - i) dc, .slice (some ⟨vb, 0, none⟩) 1 1]).run Try.prog W1 = .ok (goInt (Nat.min 1 (lv.length + 1 - i))) (W1.setRow w.heap.size (cutIn (((lv.take i).flatMap lvE) ++ Z).toArray (i * 4) (lvE x))) := fun ty dc =>
    copy_law W1 175 175 ty 167 4 w.heap.size (i * 4) _ dc ⟨vb, 0, none⟩ 1 1 _ 167 _ Try.underlying175 info167 hH1 (by rw [hxl]; simp only [Nat.min_def]; split <;> omega)
      (fun j u hj => by
        rw [add_lit']
        simp [World.cell?, hC1.at_ hx (by simp), hj])
      (by rw [hxl, hs1]; omega) (fun u hu => lvR.one x u hu)
  obtain ⟨W2, hW2⟩ : ∃ W2, W2 = W1.setRow w.heap.size (cutIn (((lv.take i).flatMap lvE) ++ Z).toArray (i * 4) (lvE x)) := ⟨_, rfl⟩
  have hC2 : Chg [] w W2 := hC1.trans' (U := []) (by rw [hW2]; exact Chg.setRow (g := w.heap.size) _) (by simp) (by simp)
  have hH2 : W2.heap[w.heap.size]? = some (.cells (cutIn (((lv.take i).flatMap lvE) ++ Z).toArray (i * 4) (lvE x)) 167 (0, 0)) := by rw [hW2]; exact setRow_at hH1
  rw [← hW2] at hcp1
  have hs2 : (cutIn (((lv.take i).flatMap lvE) ++ Z).toArray (i * 4) (lvE x)).size = G * 4 := by rw [cutIn_size (by rw [hxl, hs1]; omega), hs1]
  have hcp2 : ∀ (W : World), Chg [] W2 W → ∀ ty dc sc, (Builtin.copy_ #[175, 175] ty #[.slice (some ⟨w.heap.size, (i + 1) * 4, none⟩) (lv.length - i) dc, .slice (some ⟨g, i * 4, none⟩) (lv.length - i) sc]).run Try.prog W = .ok (goInt (Nat.min (lv.length - i) (lv.length - i))) (W.setRow w.heap.size (cutIn (cutIn (((lv.take i).flatMap lvE) ++ Z).toArray (i * 4) (lvE x)) ((i + 1) * 4) ((lv.drop i).flatMap lvE))) := fun W hW ty dc sc =>
    copy_law W 175 175 ty 167 4 w.heap.size ((i + 1) * 4) _ dc ⟨g, i * 4, none⟩ _ sc _ 167 _ Try.underlying175 info167 (hW.at_ hH2 (by simp)) (by rw [hdl]; congr 1; simp only [Nat.min_def]; split <;> omega)
      (fun j u hj => by
        have h2 := flat_drop lvR lv i (by omega) hj
        have hj2 : i * 4 + j < lv.length * 4 := by rw [← flat_len lvR lv]; exact (List.getElem?_eq_some_iff.1 h2).1
        rw [add_lit3]
        have h3 : cur[i * 4 + j]? = some u := by
          rw [← htk, List.getElem?_take, if_pos hj2] at h2
          simpa using h2
        simp [World.cell?, hW.at_ (hC2.at_ hg (by simp)) (by simp), h3])
      (by rw [hdl, hs2]; omega) (one_flat _)
  have hfin := fun W (hW : Chg [] W2 W) => ins_grown (x := x) (D := D) (v := .slice (some ⟨g, 0, none⟩) lv.length lv.length) (G := G) (Z := Z) hi hG1 hG2 hs1 (hC2.trans hW) (hW.at_ hH2 (by simp))
  have HH := Lib.hid (And.intro hrz (And.intro hcp1 (And.intro hcp2 hfin)))
  have e1 : IntKind.i64.wrap ((lv.length : Int) + 1 - (i : Int)) = (lv.length : Int) + 1 - (i : Int) := IntWalk.i64_in _ (by omega)
  have b1 : IntKind.i64.wrap ((i : Int) + 1) = (i : Int) + 1 := IntWalk.i64_in _ (by omega)
  have b2 : (0 : Int) ≤ (i : Int) + 1 := by omega
  have b3 : (i : Int) + 1 ≤ (lv.length : Int) + 1 := by omega
  have b4 : ((i : Int) + 1).toNat = i + 1 := by omega
  have b5 : (i : Int) ≤ (lv.length : Int) + 1 := by omega
  have b6 : ¬ (G = i + 1) := by omega
  have b7 : ¬ (G = i) := by omega
  have b8 : ¬ (lv.length = i) := by omega
  have b11 : (i : Int) ≤ (lv.length : Int) := by omega
  unfold maxLen at hG2
  have b9 : (lv.length : Int) + 1 ≤ (G : Int) := by omega
  have b10 : (G : Int) ≤ 9223372036854775807 := by omega
  clear hrz hcp1 hcp2 hfin hC1 hH1 hW2 hC2 hH2 hs1 hs2 hxl htl hdl hZl hx hg htk hsz hv hcm hlc hG1 hG2
  go_enter Try.func100, Try.ntmps100
  go_wp2_with (first | (with_reducible refine wpL_appendRun rfl (.tmp 34) (.tmp 39) 175 3 rfl rfl rfl (HH.out.1 _) ?_) | (with_reducible refine wpL_copy rfl (.tmp 43) (.tmp 44) 175 175 rfl rfl rfl (HH.out.2.1 _ _) ?_))
  refine wp_tail 8 (by kernel_rfl) (by kernel_rfl) ?_
  intro W hW
  have HX := Lib.hid hW
  clear hW
  simp only [List.take_succ_cons, List.take_zero, List.drop_succ_cons, List.drop_zero]
  repeat still_step
  refine wpStill_nil ?_
  go_wp2_with (with_reducible refine wpL_copy rfl (.tmp 50) (.tmp 53) 175 175 rfl rfl rfl (HH.out.2.2.1 _ HX.out _ _ _) ?_)
  go_ret
  exact HH.out.2.2.2 _ HX.out
end Go.Proofs.Ytdcjfaplgpeonaa

/-
  The ladder: Put.
-/
namespace Go.Proofs.Ytdcjfaplgpeonaa
open Go.RowKit Go.Dm

theorem ins_any (w : World) (D : Nat) (v : Value) (lv : List Lvl) (i : Nat) (x : Lvl) (vb : Nat) (hv : SlAt 167 4 lvE w v lv) (hne : vb ∉ ownL v) (hx : w.heap[vb]? = some (.cells (lvE x).toArray 167 (0, 0))) (hi : i ≤ lv.length) (hlen : lv.length ≤ 1000) :
    Calls Try.prog 100 #[v, .int .i64 i, .slice (some ⟨vb, 0, none⟩) 1 1] w (InsPost w D v lv i x) := by
  by_cases he : i = lv.length
  · subst he; exact ins_end w D v lv x vb hv hx hlen
  · obtain ⟨A, c, rfl, _, hA⟩ := hv.form
    obtain ⟨g, rfl⟩ := hA (by omega)
    have hg : vb ≠ g := by simpa [ownL, Value.ownBlock] using hne
    by_cases hc : lv.length + 1 ≤ c
    · exact ins_room w D g c lv i x vb hv hg hx (by omega) hc
    · exact ins_grow w D g c lv i x vb hv hg hx (by omega) (by omega) hlen

theorem blk4v {w : World} {b : Nat} {u0 u1 u2 u3 : Value} {t : TypeId} {fr : Nat × Nat} (h : w.heap[b]? = some (.cells #[u0, u1, u2, u3] t fr)) :
    w.cell? ⟨b, 0, none⟩ = some u0 ∧ w.cell? ⟨b, 1, none⟩ = some u1 ∧ w.cell? ⟨b, 2, none⟩ = some u2 ∧ w.cell? ⟨b, 3, none⟩ = some u3 := by
  simp [World.cell?, h]
def PutPost (w : World) (r : Nat) (sd : Int) (v : Value) (lv' : List Lvl) (k : Nat) (q : Nat) (e : Ending) (w' : World) : Prop :=
  ∃ v', e = .returned (.tuple #[.int .i64 q, .int .i64 0]) ∧ LdBlk w' r sd v' (ones k) ∧ SlAt 167 4 lvE w' v' lv' ∧ Chg (r :: ownL v) w w' ∧ (v'.ownBlock = v.ownBlock ∨ ∃ g, v'.ownBlock = some g ∧ w.heap.size ≤ g)

set_option maxRecDepth 100000 in
set_option maxHeartbeats 4000000 in
theorem lput_new (w : World) (r : Nat) (sd : Int) (lv : List Lvl) (v : Value) (hb : LdBlk w r sd v (ones lv.length)) (hv : SlAt 167 4 lvE w v lv) (hl : LvPr lv) (hs : lv.Pairwise (fun a b => keyS sd a.p < keyS sd b.p)) (hlen : lv.length < 60) (p q : Int) (hp : PrOk p) (hq : 1 ≤ q) (hno : ∀ x ∈ lv, x.p ≠ p) (s : List Nat) :
    Calls Try.prog 82 #[.pointer (some ⟨r, 0, none⟩), .int .i64 p, .int .i64 q] w fun e w' => ∃ i, IsPos sd lv (keyS sd p) i ∧ PutPost w r sd v (insL lv i ⟨p, q, 1, lv.length, s⟩) (lv.length + 1) lv.length e w' := by
  have hpl := place98 w r sd _ lv ⟨v, hb, hv⟩ hl hs (by omega) p hp
  obtain ⟨p0, p1⟩ := hp
  have d1 : decide (p < 1) = false := decide_eq_false (by omega)
  have d2 : decide (q < 1) = false := decide_eq_false (by omega)
  have d3 : decide ((lv.length : Int) ≥ 60) = false := decide_eq_false (by omega)
  obtain ⟨A, c, rfl, _, _⟩ := hv.form
  go_enter Try.func82, Try.ntmps82
  go_wp2_with fail
  refine hpl.mono ?_
  rintro e W ⟨⟨i, rfl, hi⟩, hC⟩
  have hat : isAt sd lv (keyS sd p) i = false := by
    unfold isAt
    cases hx : lv[i]? with
    | none => rfl
    | some x =>
      have := hno x (List.mem_of_getElem? hx)
      simp only [Option.any_some, decide_eq_false_iff_not]
      intro h
      apply this
      unfold keyS at h
      split at h <;> omega
  have HI := Lib.hid (And.intro hi hno)
  rw [hat]
  have hb1 := hC.at_ hb (by simp)
  have hv1 := hv.chg hC (by simp)
  obtain ⟨_, c1, c2, _⟩ := blk7v hb1
  clear hpl hi hat hno hb hv
  go_wp2_with fail
  go_quiet (fail)
  have hCd : Chg [] W (W.drewN nq) := Chg.drewN _ _ _
  obtain ⟨W0, hW0⟩ : ∃ W0, W0 = W.drewN nq := ⟨_, rfl⟩
  rw [← hW0] at hCd ⊢
  clear hW0
  have hC0 := hC.trans hCd
  have hb2 := hCd.at_ hb1 (by simp)
  have hv2 := hv1.chg hCd (by simp)
  have hq := queue99 W0 r sd _ lv.length hlen hb2
  clear c1 c2 hC hCd hb1 hv1
  go_wp2_with fail
  refine hq.mono ?_
  rintro e W1 ⟨rfl, hb3, hC1⟩
  have hr2 := blk_lt hb2
  have hv3 := hv2.chg hC1 (fun g hg hm => by
    have := hv2.ne hb2 (by decide) (r := r)
    simp at hm; subst hm; exact this hg)
  have hro : r ∉ ownL (.slice A lv.length c) := by
    have := hv2.ne hb2 (by decide) (r := r)
    simpa [ownL] using this
  clear hq
  obtain ⟨x, hx⟩ : ∃ x : Lvl, x = ⟨p, q, 1, lv.length, s⟩ := ⟨_, rfl⟩
  have hA := Chg.alloc [] W1 (.cells #[.int .i64 p, .int .i64 q, .int .i64 1, .int .i64 (lv.length : Nat)] 167)
  have hx0 := heap_alloc_new W1 (.cells #[.int .i64 p, .int .i64 q, .int .i64 1, .int .i64 (lv.length : Nat)] 167)
  have hb4 := hA.at_ hb3 (by simp)
  have hv4 := hv3.chg hA (by simp)
  obtain ⟨W2, hW2⟩ : ∃ W2, W2 = W1.alloc (.cells #[.int .i64 p, .int .i64 q, .int .i64 1, .int .i64 (lv.length : Nat)] 167) := ⟨_, rfl⟩
  have hz2 : W2.heap.size = W1.heap.size + 1 := by rw [hW2]; simp
  obtain ⟨_, _, y2, _⟩ := blk7v hb4
  obtain ⟨x0, x1, x2, x3⟩ := blk4v hx0
  go_wp2_with fail
  rw [← hW2] at hA hx0 hb4 hv4 y2 x0 x1 x2 x3 ⊢
  clear hW2
  refine wp_cutR (Chg (ownL (.slice A lv.length c)) W2) 9 (by kernel_rfl) (by kernel_rfl) (fun _ h => Chg.nil h) (fun W hW hS => ?_)
  simp only [List.take_succ_cons, List.take_zero, List.drop_succ_cons, List.drop_zero]
  have hv5 := hv4.chg hW (by simp)
  have hW1sz : W1.heap.size < W2.heap.size := by omega
  have x1n : W1.heap.size ∉ ownL (.slice A lv.length c) := by
    intro hm
    have := hv3.lt (g := W1.heap.size) (by simpa [ownL] using hm)
    omega
  have HA := Lib.hid (And.intro hA (And.intro hW (And.intro hv5 hx)))
  clear hA hW hv5 hx hx0
  refine takeH 0 (v := ?vv99) rfl (by kernel_rfl) (by kernel_rfl) (by kernel_rfl) (fun _ _ _ h => h) (by kernel_rfl) (fun Wx hSx => ?hy99) (by assumption) ?hrest99
  case hy99 => go_simp; (try with_reducible rfl)
  simp only [Act.put, List.setIfInBounds_toArray]
  refine takeH 1 (v := ?vv102) rfl (by kernel_rfl) (by kernel_rfl) (by kernel_rfl) (fun _ _ _ h => h) (by kernel_rfl) (fun Wx hSx => ?hy102) (by assumption) ?hrest102
  case hy102 => go_simp; (try with_reducible rfl)
  simp only [Act.put]
  refine takeH 2 (v := ?vv105) rfl (by kernel_rfl) (by kernel_rfl) (by kernel_rfl) (fun _ _ _ h => h) (by kernel_rfl) (fun Wx hSx => ?hy105) (by assumption) ?hrest105
  case hy105 => go_simp; (try with_reducible rfl)
  simp only [Act.put]
  refine takeH 3 (v := ?vv108) rfl (by kernel_rfl) (by kernel_rfl) (by kernel_rfl) (fun _ _ _ h => h) (by kernel_rfl) (fun Wx hSx => ?hy108) (by assumption) ?hrest108
  case hy108 => go_simp; (try with_reducible rfl)
  simp only [Act.put]
  refine takeH 4 (v := ?vv111) rfl (by kernel_rfl) (by kernel_rfl) (by kernel_rfl) (fun _ _ _ h => h) (by kernel_rfl) (fun Wx hSx => ?hy111) (by assumption) ?hrest111
  case hy111 => have q0 := hSx.cell y2 hro; go_simp; (try with_reducible rfl)
  simp only [Act.put]
  refine takeH 5 (v := ?vv114) rfl (by kernel_rfl) (by kernel_rfl) (by kernel_rfl) (fun _ _ _ h => h) (by kernel_rfl) (fun Wx hSx => ?hy114) (by assumption) ?hrest114
  case hy114 => go_simp; (try with_reducible rfl)
  simp only [Act.put]
  refine takeH 6 (v := ?vv117) rfl (by kernel_rfl) (by kernel_rfl) (by kernel_rfl) (fun _ _ _ h => h) (by kernel_rfl) (fun Wx hSx => ?hy117) (by assumption) ?hrest117
  case hy117 => have q0 := hSx.cell x0 x1n; have q1 := hSx.cell x1 x1n; have q2 := hSx.cell x2 x1n; have q3 := hSx.cell x3 x1n; go_simp; (try with_reducible rfl)
  simp only [Act.put]
  have hB := Chg.alloc [] W (.cells #[.int .i64 p, .int .i64 q, .int .i64 1, .int .i64 (lv.length : Nat)] 167)
  have hB0 := heap_alloc_new W (.cells #[.int .i64 p, .int .i64 q, .int .i64 1, .int .i64 (lv.length : Nat)] 167)
  obtain ⟨W3, hW3⟩ : ∃ W3, W3 = W.alloc (.cells #[.int .i64 p, .int .i64 q, .int .i64 1, .int .i64 (lv.length : Nat)] 167) := ⟨_, rfl⟩
  rw [← hW3] at hB hB0
  have HB := Lib.hid (And.intro hB hB0)
  have HE := Lib.hid hW3
  clear hB hB0 hW3
  refine wpAnyH_ready (rs := [7]) (by kernel_rfl) (by simp) ?_
  refine (AllReadyH.cons rfl (fun K hK => ?_) AllReadyH.nil)
  all_goals try simp only [List.getElem_toArray, List.getElem_cons_succ, List.getElem_cons_zero]
  go_simp
  refine hK.out _ _ (hS.trans (Chg.alloc _ W _)) (fun hHeld => ?_)
  clear hK K
  try simp only [Act.put, List.getElem_toArray, List.getElem_cons_succ, List.getElem_cons_zero, List.setIfInBounds_toArray, List.set_cons_zero, List.set_cons_succ]
  rw [← HE.out] at hHeld ⊢
  have hin := ins_any W3 0 (.slice A lv.length c) lv i x W.heap.size (HA.out.2.2.1.chg HB.out.1 (by simp)) (fun hm => by
    have := HA.out.2.2.1.lt (g := W.heap.size) (by simpa [ownL] using hm)
    omega) (by rw [HA.out.2.2.2]; exact HB.out.2) HI.out.1.1 (by omega)
  refine wpAnyH_ready (rs := [8]) (by kernel_rfl) (by simp) ?_
  refine (AllReadyH.cons rfl (fun K hK => ?_) AllReadyH.nil)
  all_goals try simp only [List.getElem_toArray, List.getElem_cons_succ, List.getElem_cons_zero]
  go_simp
  refine hin.mono ?_
  rintro e W4 ⟨v', rfl, hs', hC4, ho'⟩
  obtain ⟨A', c', rfl, _, _⟩ := hs'.form
  go_simp
  refine hK.out _ _ (hHeld.trans hC4) (fun hHeld => ?_)
  clear hK K
  try simp only [Act.put, List.getElem_toArray, List.getElem_cons_succ, List.getElem_cons_zero, List.setIfInBounds_toArray, List.set_cons_zero, List.set_cons_succ]
  refine wpAnyH_done (by kernel_rfl) ?_ _
  simp only [cutQ]
  have hro4 : LdBlk W4 r sd (.slice A lv.length c) (ones (lv.length + 1)) := hC4.at_ (HB.out.1.at_ (HA.out.2.1.at_ hb4 (by simp)) (by simp)) hro
  obtain ⟨z0, z1, z2, _⟩ := blk7v hro4
  have fz : W4.frozen? ⟨r, 2, none⟩ = false := by simp [World.frozen?, show W4.heap[r]? = _ from hro4]
  have lz := blk_lt (show W4.heap[r]? = _ from hro4)
  have x1n3 : W1.heap.size < W3.heap.size := by have := HB.out.1.size; have := HA.out.2.1.size; omega
  have w3 := hC4.cell (HB.out.1.cell (HA.out.2.1.cell x3 (by simp)) (by simp)) x1n
  have hrn : r ≠ W1.heap.size := by have := hC1.size; omega
  have hrn2 : W1.heap.size ≠ r := fun h => hrn h.symm
  have hall : Chg (r :: ownL (.slice A lv.length c)) w W4 := by
    have t1 : Chg (r :: ownL (.slice A lv.length c)) w W1 := hC0.nil.trans (hC1.mono (by simp))
    have t2 : Chg (r :: ownL (.slice A lv.length c)) W1 W3 := (HA.out.1.trans (HA.out.2.1.trans HB.out.1)).nil
    exact (t1.trans t2).trans (hC4.mono (fun k hk => .inl (List.mem_cons_of_mem _ hk)))
  have hown' : (Value.slice A' (insL lv i x).length c').ownBlock = (Value.slice A lv.length c).ownBlock ∨ ∃ g, (Value.slice A' (insL lv i x).length c').ownBlock = some g ∧ w.heap.size ≤ g ∧ g ≠ r := by
    rcases ho' with h | ⟨g, h, hg⟩
    · exact .inl h
    · refine .inr ⟨g, h, ?_, ?_⟩
      · have := hC0.size; have := hC1.size; have := x1n3; omega
      · have := hC1.size; omega
  have hsl : SlAt 167 4 lvE (W4.setCell ⟨r, 2, none⟩ (.slice A' (insL lv i x).length c')) (.slice A' (insL lv i x).length c') (insL lv i x) := hs'.chg (Chg.setCell (S := [r]) W4 _ _ (by simp)) (fun g hg hm => by
    simp at hm
    subst hm
    rcases hown' with h | ⟨g', h, _, hne⟩
    · rw [h] at hg; exact hro (by simp [ownL, hg])
    · rw [h] at hg; cases hg; exact hne rfl)
  have HZ := Lib.hid (And.intro hall (And.intro hown' (And.intro hsl (And.intro hro4 HA.out.2.2.2))))
  clear hall hown' hsl hro4 ho' hs' hC4 hin hHeld hS hro x1n HA HB HE hb4 hv4 hv3 hb3 hb2 hv2 hC1 hC0 y2 x0 x1 x2 x3 hl hs hq
  go_wp2
  go_ret2
  obtain ⟨h1, h2, h3, h4, h5⟩ := HZ.out
  subst h5
  refine ⟨i, HI.out.1, _, rfl, ?_, h3, h1.trans (Chg.setCell W4 _ _ (by simp)), h2.imp id (fun ⟨g, ha, hb, _⟩ => ⟨g, ha, hb⟩)⟩
  unfold LdBlk
  rw [blk_set h4]
  simp

/-- A level with more in it. -/
def more (x : Lvl) (q : Int) (s : List Nat) : Lvl := ⟨x.p, x.q + q, wrap64 (x.n + 1), x.u, s⟩
theorem lv_set {w : World} {g c n : Nat} {lv : List Lvl} (h : SlAt 167 4 lvE w (.slice (some ⟨g, 0, none⟩) n c) lv) {i : Nat} {x : Lvl} (hx : lv[i]? = some x) (y : Lvl) (hy : y.p = x.p) (hu : y.u = x.u) :
    SlAt 167 4 lvE ((w.setCell ⟨g, i * 4 + 1, none⟩ (.int .i64 y.q)).setCell ⟨g, i * 4 + 2, none⟩ (.int .i64 y.n)) (.slice (some ⟨g, 0, none⟩) n c) (lv.set i y) := by
  obtain ⟨cur, hg, hn, hc, hm, hs, ht⟩ := h.row
  have hi : i < lv.length := (List.getElem?_eq_some_iff.1 hx).1
  refine SlAt.mk lvR (blk_set (blk_set hg _ _) _ _) (by simpa using hn) (by simpa using hc) hm (by simpa using hs) ?_
  apply List.ext_getElem?
  intro j
  have hF := flat_len lvR (lv.set i y)
  have hF0 := flat_len lvR lv
  rw [List.length_set] at hF
  by_cases hj : j < lv.length * 4
  · rw [List.getElem?_take, List.length_set, if_pos hj]
    have hjm : j = (j / 4) * 4 + j % 4 := by omega
    have hj4 : j % 4 < 4 := Nat.mod_lt _ (by omega)
    have hjd : j / 4 < lv.length := by omega
    have hcur : cur.toList[j]? = (lv.flatMap lvE)[j]? := by rw [← ht, List.getElem?_take, if_pos hj]
    by_cases he : j / 4 = i
    · have hset : (lv.set i y)[j / 4]? = some y := by rw [he]; simp [hi]
      have h1 := flat_get lvR (lv.set i y) (j / 4) (j % 4) y hset hj4
      have h2 := flat_get lvR lv (j / 4) (j % 4) x (by rw [he]; exact hx) hj4
      rw [← hjm] at h1 h2
      rw [h1]
      rw [h2] at hcur
      have hsz : j < cur.size := by have : lv.length * 4 ≤ cur.size := by omega
                                    omega
      simp only [Array.toList_setIfInBounds]
      rw [List.getElem?_set, List.getElem?_set]
      have h4 : j % 4 = 0 ∨ j % 4 = 1 ∨ j % 4 = 2 ∨ j % 4 = 3 := by omega
      rcases h4 with h4 | h4 | h4 | h4
      · rw [if_neg (by omega), if_neg (by omega), hcur, h4]; simp [lvE, hy]
      · have h5 : i * 4 + 1 = j := by omega
        rw [if_neg (by omega), h5, if_pos rfl, if_pos (by simpa using hsz), h4]; simp [lvE]
      · have h5 : i * 4 + 2 = j := by omega
        rw [h5, if_pos rfl, if_pos (by simpa using hsz), h4]; simp [lvE]
      · rw [if_neg (by omega), if_neg (by omega), hcur, h4]; simp [lvE, hu]
    · obtain ⟨z, hz⟩ : ∃ z, lv[j / 4]? = some z := ⟨lv[j / 4], by simp [hjd]⟩
      have h1 := flat_get lvR (lv.set i y) (j / 4) (j % 4) z (by rw [List.getElem?_set_ne (fun h => he h.symm)]; exact hz) hj4
      have h2 := flat_get lvR lv (j / 4) (j % 4) z hz hj4
      rw [← hjm] at h1 h2
      rw [h1, ← h2, ← hcur]
      simp only [Array.toList_setIfInBounds]
      rw [List.getElem?_set, List.getElem?_set, if_neg (by omega), if_neg (by omega)]
  · rw [List.getElem?_eq_none (by simp; omega), List.getElem?_eq_none (by rw [hF]; omega)]

set_option maxRecDepth 100000 in
set_option maxHeartbeats 4000000 in
theorem lput_old (w : World) (r : Nat) (sd : Int) (lv : List Lvl) (v : Value) (hb : LdBlk w r sd v (ones lv.length)) (hv : SlAt 167 4 lvE w v lv) (hl : LvPr lv) (hs : lv.Pairwise (fun a b => keyS sd a.p < keyS sd b.p)) (hlen : lv.length < 60) (q : Int) (hq : 1 ≤ q) (hq2 : q ≤ 1000000000000) (j : Nat) (x : Lvl) (hx : lv[j]? = some x) (hx0 : 0 ≤ x.q) (hx1 : x.q ≤ 1000000000000) (s : List Nat) :
    Calls Try.prog 82 #[.pointer (some ⟨r, 0, none⟩), .int .i64 x.p, .int .i64 q] w (PutPost w r sd v (lv.set j (more x q s)) lv.length x.u) := by
  have hp : PrOk x.p := hl x (List.mem_of_getElem? hx)
  have hpl := place98 w r sd _ lv ⟨v, hb, hv⟩ hl hs (by omega) x.p hp
  obtain ⟨p0, p1⟩ := hp
  have d1 : decide (x.p < 1) = false := decide_eq_false (by omega)
  have d2 : decide (q < 1) = false := decide_eq_false (by omega)
  have hj : j < lv.length := (List.getElem?_eq_some_iff.1 hx).1
  obtain ⟨A, c, rfl, _, hA⟩ := hv.form
  obtain ⟨g, rfl⟩ := hA (by omega)
  go_enter Try.func82, Try.ntmps82
  go_wp2_with fail
  refine hpl.mono ?_
  rintro e W ⟨⟨i, rfl, hi⟩, hC⟩
  have hij : i = j := by
    rcases Nat.lt_trichotomy i j with h | h | h
    · exfalso
      have hil : i < lv.length := by omega
      have h1 := hi.2.2 i (lv[i]) (by simp [hil]) (Nat.le_refl _)
      have h2 := List.pairwise_iff_getElem.1 hs i j hil hj h
      rw [(List.getElem?_eq_some_iff.1 hx).2] at h2
      omega
    · exact h
    · exfalso
      have := hi.2.1 j x hx h
      omega
  subst hij
  have hat : isAt sd lv (keyS sd x.p) i = true := by simp [isAt, hx]
  rw [hat]
  have hb1 := hC.at_ hb (by simp)
  have hv1 := hv.chg hC (by simp)
  obtain ⟨_, _, c2, _⟩ := blk7v hb1
  obtain ⟨e0, e1, e2, e3⟩ := lvs_at hv1 hx
  have f1 := hv1.free (i * 4 + 1)
  have f2 := hv1.free (i * 4 + 2)
  have hgl := hv1.lt (g := g) rfl
  have i0 : (0 : Int) ≤ (i : Int) := Int.natCast_nonneg _
  have i1 : (i : Int) < (lv.length : Int) := by omega
  have hfa := fadd101 W x.q q hx0 (by omega) hx1 hq2
  have hrg : r ≠ g := by
    have := hv1.ne hb1 (by decide) (r := r)
    intro e; subst e; exact this rfl
  have hset := lv_set hv1 hx (more x q s) rfl rfl
  have hC2 : Chg (r :: ownL (.slice (some ⟨g, 0, none⟩) lv.length c)) w ((W.setCell ⟨g, i * 4 + 1, none⟩ (.int .i64 (more x q s).q)).setCell ⟨g, i * 4 + 2, none⟩ (.int .i64 (more x q s).n)) :=
    hC.nil.trans ((Chg.setCell W _ _ (by simp [ownL, Value.ownBlock])).trans (Chg.setCell _ _ _ (by simp [ownL, Value.ownBlock])))
  have hbf : LdBlk ((W.setCell ⟨g, i * 4 + 1, none⟩ (.int .i64 (more x q s).q)).setCell ⟨g, i * 4 + 2, none⟩ (.int .i64 (more x q s).n)) r sd (.slice (some ⟨g, 0, none⟩) lv.length c) (ones lv.length) :=
    ((Chg.setCell (S := [g]) W ⟨g, i * 4 + 1, none⟩ _ (by simp)).trans (Chg.setCell _ ⟨g, i * 4 + 2, none⟩ _ (by simp))).at_ hb1 (by simp [hrg])
  have HZ := Lib.hid (And.intro hset (And.intro hC2 hbf))
  unfold more at HZ
  clear hpl hi hat hb hv hs hl hset hC2 hbf hb1 hv1 hx hC
  go_wp2_with fail
  refine hfa.mono ?_
  clear hfa
  rintro e w' ⟨rfl, rfl⟩
  go_wp2
  go_ret2
  exact ⟨_, rfl, HZ.out.2.2, HZ.out.1, HZ.out.2.1, .inl rfl⟩
end Go.Proofs.Ytdcjfaplgpeonaa
