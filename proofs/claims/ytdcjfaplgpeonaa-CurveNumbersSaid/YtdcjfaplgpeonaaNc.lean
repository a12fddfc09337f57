/-
  slices.Insert of one level.
-/
import Derived.Test.YtdcjfaplgpeonaaNb
import Derived.Test.YtdcjfaplgpeonaaCp
namespace Go.Proofs.Ytdcjfaplgpeonaa
open Go.RowKit Go.Dm

/-- The block that a slice's row lies in. -/
def ownL (v : Value) : List Nat := v.ownBlock.toList
def InsPost (w : World) (_D : Nat) (v : Value) (lv : List Lvl) (i : Nat) (x : Lvl) (e : Ending) (w' : World) : Prop :=
  ∃ v', e = .returned v' ∧ SlAt 167 4 lvE w' v' (insL lv i x) ∧ Chg (ownL v) w w' ∧ (v'.ownBlock = v.ownBlock ∨ ∃ g, v'.ownBlock = some g ∧ w.heap.size ≤ g)

theorem ownS (A : Option Addr) (n c : Nat) : (Value.slice A n c).ownBlock = A.map (·.block) := by cases A <;> rfl
theorem ins_fin {w w' : World} {D : Nat} {v v' : Value} {lv : List Lvl} {x : Lvl} (h1 : SlAt 167 4 lvE w' v' (lv ++ [x])) (h2 : w.grownBy w' v.ownBlock) (h3 : v'.ownBlock = v.ownBlock ∨ v'.ownBlock = some w.heap.size) :
    InsPost w D v lv lv.length x (.returned v') w' :=
  ⟨v', rfl, by rw [insL_end]; exact h1, Chg.of_grown h2 (fun k hk => .inl (by simp [ownL, hk])), h3.imp id (fun h => ⟨_, h, Nat.le_refl _⟩)⟩

set_option maxRecDepth 100000 in
set_option maxHeartbeats 2000000 in
theorem ins_end (w : World) (D : Nat) (v : Value) (lv : List Lvl) (x : Lvl) (vb : Nat) (hv : SlAt 167 4 lvE w v lv) (hx : w.heap[vb]? = some (.cells (lvE x).toArray 167 (0, 0))) (hlen : lv.length ≤ 1000) :
    Calls Try.prog 100 #[v, .int .i64 lv.length, .slice (some ⟨vb, 0, none⟩) 1 1] w (InsPost w D v lv lv.length x) := by
  obtain ⟨A, c, rfl, hA0, hA⟩ := hv.form
  have n0 : (0 : Int) ≤ (lv.length : Int) := Int.natCast_nonneg _
  go_enter Try.func100, Try.ntmps100
  go_wp2_with (at_builtin; go_must (refine wpL_append rfl _ _ 175 rfl lvR elem175 hv (SrcAt.one (renc := lvE) (a := x) (t := 167) (fr := (0, 0)) hx 1) rfl rfl (maxOk (by simp; omega)) (by simp; omega) ?_))
  all_goals
    intro v' w' h1 h2 h3
    have H := Lib.hid (And.intro h1 (And.intro h2 h3))
    clear h1 h2 h3
    go_wp2
    go_ret
    exact ins_fin H.out.1 (by have h := H.out.2.1; simp only [ownS] at h ⊢; exact h) (by have h := H.out.2.2; simp only [ownS] at h ⊢; exact h)

theorem info167 : (Try.prog.info? 167).map (·.size) = some 4 := by kernel_rfl
theorem one_flat (l : List Lvl) : ∀ v ∈ l.flatMap lvE, v.oneCell' = true := fun v hv => by
  obtain ⟨a, _, ha⟩ := List.mem_flatMap.1 hv
  exact lvR.one a v ha
theorem over123 (w : World) (g vb i lb cb : Nat) (cur : Array Value) (x : Lvl) (hne : vb ≠ g) (hx : w.heap[vb]? = some (.cells (lvE x).toArray 167 (0, 0))) (hg : w.heap[g]? = some (.cells cur 167 (0, 0))) (hs : cur.size ≠ 0) :
    (callFunc 123 #[.slice (some ⟨vb, 0, none⟩) 1 1, .slice (some ⟨g, i, none⟩) lb cb]).run Try.prog w = .ok (.value (.bool false)) w := by
  rw [run_callFunc_extern Try.func123 (by kernel_rfl) (by kernel_rfl) (by kernel_rfl) (e := Extern.SlicesOverlaps.overlaps #[175, 175] #[4]) (by kernel_rfl),
    Lib.run_overlaps_apart w 175 4 167 Try.underlying175 4 (fun w => by kernel_rfl) ⟨vb, 0, none⟩ ⟨g, i, none⟩ 1 1 lb cb hne 167 167 4 cur.size (by simp [World.shape?, hx, lvE]) (by simp [World.shape?, hg]) hs (by simp [World.frozen?, hx]) (by simp [World.frozen?, hx])]
  rfl

theorem ins_shift {w W W1 : World} {g c : Nat} {lv : List Lvl} {i : Nat} {cur : Array Value} (hr : ∃ cur, w.heap[g]? = some (.cells cur 167 (0, 0)) ∧ lv.length = lv.length ∧ lv.length ≤ c ∧ c ≤ maxLen ∧ cur.size = c * 4 ∧ cur.toList.take (lv.length * 4) = lv.flatMap lvE)
    (hg : w.heap[g]? = some (.cells cur 167 (0, 0))) (hi : i < lv.length) (hc : lv.length + 1 ≤ c) (hW : Chg [] w W) (hgW : W.heap[g]? = some (.cells cur 167 (0, 0))) (hW1 : W1 = W.setRow g (cutIn cur ((i + 1) * 4) ((lv.drop i).flatMap lvE))) (x : Lvl) (D : Nat) :
    InsPost w D (.slice (some ⟨g, 0, none⟩) lv.length c) lv i x (.returned (.slice (some ⟨g, 0, none⟩) (lv.length + 1) c)) (W1.setRow g (cutIn (cutIn cur ((i + 1) * 4) ((lv.drop i).flatMap lvE)) (i * 4) (lvE x))) := by
  obtain ⟨cur', hg', _, hlc, hcm, hsz, htk⟩ := hr
  rw [hg] at hg'
  cases hg'
  have hdl : ((lv.drop i).flatMap lvE).length = (lv.length - i) * 4 := by rw [flat_len lvR, List.length_drop]
  have htl : ((lv.take i).flatMap lvE).length = i * 4 := by rw [flat_len lvR, List.length_take, Nat.min_eq_left (by omega)]
  have hxl : (lvE x).length = 4 := lvR.len x
  have hg1 : W1.heap[g]? = some (.cells (cutIn cur ((i + 1) * 4) ((lv.drop i).flatMap lvE)) 167 (0, 0)) := by rw [hW1]; exact setRow_at hgW
  refine ⟨_, rfl, SlAt.mk lvR (setRow_at hg1) (insL_length lv i x (by omega)).symm (by rw [insL_length lv i x (by omega)]; exact hc) hcm ?_ ?_, ?_, .inl rfl⟩
  · have h1 : (cutIn cur ((i + 1) * 4) ((lv.drop i).flatMap lvE)).size = cur.size := cutIn_size (by rw [hdl]; omega)
    rw [cutIn_size (by rw [h1, hxl]; omega), h1, hsz]
  · have hAB : cur.toList.take (((lv.take i).flatMap lvE).length + ((lv.drop i).flatMap lvE).length) = (lv.take i).flatMap lvE ++ (lv.drop i).flatMap lvE := by
      rw [← List.flatMap_append, List.take_append_drop, htl, hdl, ← htk]
      congr 1; omega
    obtain ⟨R, hR, hRd, hRl⟩ := ins_row cur.toList _ _ (lvE x) hAB (by rw [htl, hdl, hxl]; simp; omega)
    have e1 : (cutIn cur ((i + 1) * 4) ((lv.drop i).flatMap lvE)).toList = (lv.take i).flatMap lvE ++ R := by
      rw [← hR, htl, hxl]
      simp only [cutIn]
      rw [show (i + 1) * 4 = i * 4 + 4 by omega]
    have e2 : (cutIn (cutIn cur ((i + 1) * 4) ((lv.drop i).flatMap lvE)) (i * 4) (lvE x)).toList = (lv.take i).flatMap lvE ++ lvE x ++ ((lv.drop i).flatMap lvE ++ cur.toList.drop (((lv.take i).flatMap lvE).length + (lvE x).length + ((lv.drop i).flatMap lvE).length)) := by
      rw [← ins_row2 _ R (lvE x) _ hRd hRl, ← e1, htl, hxl]
      simp only [cutIn, hxl]
    rw [e2, flat_ins, insL_length lv i x (by omega), ← List.append_assoc]
    refine List.take_left' ?_
    rw [List.length_append, List.length_append, htl, hxl, hdl]
    omega
  · refine (hW.nil.trans ?_).trans (Chg.setRow _)
    rw [hW1]
    exact Chg.setRow _

set_option maxRecDepth 100000 in
set_option maxHeartbeats 4000000 in
theorem ins_room (w : World) (D : Nat) (g c : Nat) (lv : List Lvl) (i : Nat) (x : Lvl) (vb : Nat) (hv : SlAt 167 4 lvE w (.slice (some ⟨g, 0, none⟩) lv.length c) lv) (hne : vb ≠ g) (hx : w.heap[vb]? = some (.cells (lvE x).toArray 167 (0, 0))) (hi : i < lv.length) (hc : lv.length + 1 ≤ c) :
    Calls Try.prog 100 #[.slice (some ⟨g, 0, none⟩) lv.length c, .int .i64 i, .slice (some ⟨vb, 0, none⟩) 1 1] w (InsPost w D (.slice (some ⟨g, 0, none⟩) lv.length c) lv i x) := by
  obtain ⟨cur, hg, _, hlc, hcm, hsz, htk⟩ := hv.row
  unfold maxLen at hcm
  have i0 : (0 : Int) ≤ (i : Int) := Int.natCast_nonneg _
  have i1 : (i : Int) < (lv.length : Int) := by omega
  have c1 : ((lv.length : Int) + 1) ≤ (c : Int) := by omega
  have c2 : (c : Int) ≤ 9223372036854775807 := by omega
  have hov := fun lb cb => over123 w g vb ((i + 1) * 4) lb cb cur x hne hx hg (by omega)
  go_enter Try.func100, Try.ntmps100
  go_wp2_with (simp only [hov])
  have hdl : ((lv.drop i).flatMap lvE).length = (lv.length - i) * 4 := by rw [flat_len lvR, List.length_drop]
  have hxl : (lvE x).length = 4 := lvR.len x
  refine wp_tail 8 (by kernel_rfl) (by kernel_rfl) ?_
  intro W hW
  have hgW := hW.at_ hg (by simp)
  have hxW := hW.at_ hx (by simp)
  have hcp1 : ∀ ty dc sc, (Builtin.copy_ #[175, 175] ty #[.slice (some ⟨g, (i + 1) * 4, none⟩) (lv.length - i) dc, .slice (some ⟨g, i * 4, none⟩) (lv.length + 1 - i) sc]).run Try.prog W = .ok (goInt (Nat.min (lv.length + 1 - i) (lv.length - i))) (W.setRow g (cutIn cur ((i + 1) * 4) ((lv.drop i).flatMap lvE))) := fun ty dc sc =>
    copy_law W 175 175 ty 167 4 g ((i + 1) * 4) _ dc ⟨g, i * 4, none⟩ _ sc cur 167 _ Try.underlying175 info167 hgW (by rw [hdl]; congr 1; simp only [Nat.min_def]; split <;> omega)
      (fun j u hj => by
        have h2 := flat_drop lvR lv i (by omega) hj
        have hj2 : i * 4 + j < lv.length * 4 := by rw [← flat_len lvR lv]; exact (List.getElem?_eq_some_iff.1 h2).1
        rw [add_lit3]
        have h3 : cur[i * 4 + j]? = some u := by
          rw [← htk, List.getElem?_take, if_pos hj2] at h2
          simpa using h2
        simp [World.cell?, hgW, h3])
      (by rw [hdl]; omega) (one_flat _)
  obtain ⟨W1, hW1⟩ : ∃ W1, W1 = W.setRow g (cutIn cur ((i + 1) * 4) ((lv.drop i).flatMap lvE)) := ⟨_, rfl⟩
  have hg1 : W1.heap[g]? = some (.cells (cutIn cur ((i + 1) * 4) ((lv.drop i).flatMap lvE)) 167 (0, 0)) := by rw [hW1]; exact setRow_at hgW
  have hC1 : Chg [g] W W1 := by rw [hW1]; exact Chg.setRow _
  have hx1 := hC1.at_ hxW (by simp [hne])
  have hs1 : (cutIn cur ((i + 1) * 4) ((lv.drop i).flatMap lvE)).size = cur.size := cutIn_size (by rw [hdl]; omega)
  have hcp2 : ∀ ty dc, (Builtin.copy_ #[175, 175] ty #[.slice (some ⟨g, i * 4, none⟩) (lv.length + 1 - i) dc, .slice (some ⟨vb, 0, none⟩) 1 1]).run Try.prog W1 = .ok (goInt (Nat.min 1 (lv.length + 1 - i))) (W1.setRow g (cutIn (cutIn cur ((i + 1) * 4) ((lv.drop i).flatMap lvE)) (i * 4) (lvE x))) := fun ty dc =>
    copy_law W1 175 175 ty 167 4 g (i * 4) _ dc ⟨vb, 0, none⟩ 1 1 _ 167 _ Try.underlying175 info167 hg1 (by rw [hxl]; simp only [Nat.min_def]; split <;> omega)
      (fun j u hj => by
        rw [add_lit']
        simp [World.cell?, hx1, hj])
      (by rw [hxl, hs1]; omega) (fun u hu => lvR.one x u hu)
  rw [← hW1] at hcp1
  have hfin := ins_shift hv.row hg hi hc hW hgW hW1 x
  have HF := Lib.hid hfin
  have HC := Lib.hid (And.intro hcp1 hcp2)
  clear hcp1 hcp2 hfin hg1 hC1 hx1 hs1 hgW hxW hW hov hdl hxl hW1 hx hg htk hsz
  have b1 : IntKind.i64.wrap ((i : Int) + 1) = (i : Int) + 1 := IntWalk.i64_in _ (by omega)
  have b2 : (0 : Int) ≤ (i : Int) + 1 := by omega
  have b3 : (i : Int) + 1 ≤ (lv.length : Int) + 1 := by omega
  have b4 : ((i : Int) + 1).toNat = i + 1 := by omega
  have b5 : (i : Int) ≤ (lv.length : Int) + 1 := by omega
  have b6 : ¬ (c = i + 1) := by omega
  have b7 : ¬ (c = i) := by omega
  simp only [List.take_succ_cons, List.take_zero, List.drop_succ_cons, List.drop_zero]
  repeat still_step
  refine wpStill_nil ?_
  go_wp2_with (first | (with_reducible refine wpL_copy rfl (.tmp 73) (.tmp 76) 175 175 rfl rfl rfl (HC.out.1 _ _ _) ?_) | (with_reducible refine wpL_copy rfl (.tmp 80) (.tmp 81) 175 175 rfl rfl rfl (HC.out.2 _ _) ?_))
  go_ret
  exact HF.out D

theorem cutIn_list (cur : Array Value) (o : Nat) (cs : List Value) : (cutIn cur o cs).toList = cur.toList.take o ++ cs ++ cur.toList.drop (o + cs.length) := by simp [cutIn]
theorem ins_grown {w W : World} {lv : List Lvl} {i G : Nat} {Z : List Value} {x : Lvl} {D : Nat} {v : Value} (hi : i < lv.length) (hG1 : lv.length + 1 ≤ G) (hG2 : G ≤ maxLen)
    (hs1 : (((lv.take i).flatMap lvE) ++ Z).toArray.size = G * 4) (hC : Chg [] w W) (hH : W.heap[w.heap.size]? = some (.cells (cutIn (((lv.take i).flatMap lvE) ++ Z).toArray (i * 4) (lvE x)) 167 (0, 0))) :
    InsPost w D v lv i x (.returned (.slice (some ⟨w.heap.size, 0, none⟩) (lv.length + 1) G)) (W.setRow w.heap.size (cutIn (cutIn (((lv.take i).flatMap lvE) ++ Z).toArray (i * 4) (lvE x)) ((i + 1) * 4) ((lv.drop i).flatMap lvE))) := by
  have hxl : (lvE x).length = 4 := lvR.len x
  have htl : ((lv.take i).flatMap lvE).length = i * 4 := by rw [flat_len lvR, List.length_take, Nat.min_eq_left (by omega)]
  have hdl : ((lv.drop i).flatMap lvE).length = (lv.length - i) * 4 := by rw [flat_len lvR, List.length_drop]
  have hs2 : (cutIn (((lv.take i).flatMap lvE) ++ Z).toArray (i * 4) (lvE x)).size = G * 4 := by rw [cutIn_size (by rw [hxl, hs1]; omega), hs1]
  refine ⟨_, rfl, SlAt.mk lvR (setRow_at hH) (insL_length lv i x (by omega)).symm (by rw [insL_length lv i x (by omega)]; exact hG1) hG2 ?_ ?_, ?_, .inr ⟨_, rfl, Nat.le_refl _⟩⟩
  · rw [cutIn_size (by rw [hs2, hdl]; omega), hs2]
  · have e1 : (cutIn (((lv.take i).flatMap lvE) ++ Z).toArray (i * 4) (lvE x)).toList = (lv.take i).flatMap lvE ++ lvE x ++ Z.drop 4 := by
      simp only [cutIn, hxl]
      rw [← htl, List.take_left, ← hxl, List.drop_append]
      simp
    have e2 : (cutIn (cutIn (((lv.take i).flatMap lvE) ++ Z).toArray (i * 4) (lvE x)) ((i + 1) * 4) ((lv.drop i).flatMap lvE)).toList = (lv.take i).flatMap lvE ++ lvE x ++ (lv.drop i).flatMap lvE ++ (cutIn (((lv.take i).flatMap lvE) ++ Z).toArray (i * 4) (lvE x)).toList.drop ((i + 1) * 4 + ((lv.drop i).flatMap lvE).length) := by
      rw [cutIn_list (cutIn (((lv.take i).flatMap lvE) ++ Z).toArray (i * 4) (lvE x))]
      congr 2
      rw [e1]
      exact List.take_left' (by rw [List.length_append, htl, hxl]; omega)
    rw [e2, flat_ins, insL_length lv i x (by omega)]
    refine List.take_left' ?_
    rw [List.length_append, List.length_append, htl, hxl, hdl]
    omega
  · exact (hC.trans' (Chg.setRow (g := w.heap.size) _) (by simp) (by simp))

set_option maxRecDepth 100000 in
set_option maxHeartbeats 4000000 in
theorem ins_grow (w : World) (D : Nat) (g c : Nat) (lv : List Lvl) (i : Nat) (x : Lvl) (vb : Nat) (hv : SlAt 167 4 lvE w (.slice (some ⟨g, 0, none⟩) lv.length c) lv) (_hne : vb ≠ g) (hx : w.heap[vb]? = some (.cells (lvE x).toArray 167 (0, 0))) (hi : i < lv.length) (hc : c < lv.length + 1) (hlen : lv.length ≤ 1000) :
    Calls Try.prog 100 #[.slice (some ⟨g, 0, none⟩) lv.length c, .int .i64 i, .slice (some ⟨vb, 0, none⟩) 1 1] w (InsPost w D (.slice (some ⟨g, 0, none⟩) lv.length c) lv i x) := by
  obtain ⟨cur, hg, _, hlc, hcm, hsz, htk⟩ := hv.row
  unfold maxLen at hcm
  obtain rfl : c = lv.length := by omega
  have i0 : (0 : Int) ≤ (i : Int) := Int.natCast_nonneg _
  have i1 : (i : Int) < (lv.length : Int) := by omega
  have hcx : (lv.length : Int) < (lv.length : Int) + 1 := by omega
  obtain ⟨i0', hi0, hz0, hzs, hzb⟩ := info_parts (show (Try.prog.info? 167).map (fun i => (i.zero, i.size, i.bytes)) = some (some (.agg #[.int .i64 0, .int .i64 0, .int .i64 0, .int .i64 0]), 4, 32) by kernel_rfl)
  have hold : (Builtin.firstCells i0'.size i (.slice (some ⟨g, 0, none⟩) i lv.length)).run Try.prog w.drew = .ok ((lv.take i).flatMap lvE).toArray w.drew := by
    rw [hzs]
    exact run_firstCells_some w.drew 4 i ⟨g, 0, none⟩ i lv.length ((lv.take i).flatMap lvE) (by rw [flat_len lvR, List.length_take, Nat.min_eq_left (by omega)]) (fun j v hj => by
      have h2 := flat_take lv i hj
      have hj2 : j < lv.length * 4 := by rw [← flat_len lvR lv]; exact (List.getElem?_eq_some_iff.1 h2).1
      rw [add_lit']
      have h3 : cur[j]? = some v := by
        rw [← htk, List.getElem?_take, if_pos hj2] at h2
        simpa using h2
      have hg2 : w.drew.heap[g]? = some (.cells cur 167 (0, 0)) := hg
      simp [World.cell?, hg2, h3])
  obtain ⟨Z, hZ, hZl⟩ : ∃ Z : List Value, (((lv.take i).flatMap lvE).toArray ++ Builtin.zeroCells (Value.agg #[.int .i64 0, .int .i64 0, .int .i64 0, .int .i64 0]).cells (lv.length + 1 - i) ++ Builtin.zeroCells (Value.agg #[.int .i64 0, .int .i64 0, .int .i64 0, .int .i64 0]).cells (grownCap w (lv.length + 1) lv.length 167 - (lv.length + 1))) = (((lv.take i).flatMap lvE) ++ Z).toArray ∧ Z.length = (lv.length + 1 - i) * 4 + (grownCap w (lv.length + 1) lv.length 167 - (lv.length + 1)) * 4 :=
    ⟨(Builtin.zeroCells (Value.agg #[.int .i64 0, .int .i64 0, .int .i64 0, .int .i64 0]).cells (lv.length + 1 - i)).toList ++ (Builtin.zeroCells (Value.agg #[.int .i64 0, .int .i64 0, .int .i64 0, .int .i64 0]).cells (grownCap w (lv.length + 1) lv.length 167 - (lv.length + 1))).toList, by simp, by simp [Builtin.zeroCells, Value.cells]⟩
  have hrz : ∀ ty, (Builtin.append_ #[175, 3] ty #[.slice (some ⟨g, 0, none⟩) i lv.length, .int .i64 ((lv.length : Int) + 1 - (i : Int))]).run Try.prog w =
      .ok (.slice (some ⟨w.heap.size, 0, none⟩) (lv.length + 1) (grownCap w (lv.length + 1) lv.length 167)) (w.drew.alloc (.cells (((lv.take i).flatMap lvE) ++ Z).toArray 167)) := fun ty => by
    have h := Lib.run_append_grow_zeros w 175 3 ty 167 i0' _ .i64 .i64 Try.underlying175 Try.underlying3 hi0 hz0 (some ⟨g, 0, none⟩) i lv.length ((lv.take i).flatMap lvE) hold (lv.length + 1 - i) (by omega) (by omega) (by omega) (by omega) (by rw [hzb]; omega)
      (by rw [hzb, show i + (lv.length + 1 - i) = lv.length + 1 by omega]; exact growslice_fits (by omega) (by omega))
    rw [show i + (lv.length + 1 - i) = lv.length + 1 by omega, hZ] at h
    rw [show (lv.length : Int) + 1 - (i : Int) = ((lv.length + 1 - i : Nat) : Int) by omega]
    exact h
  have hG1 : lv.length + 1 ≤ grownCap w (lv.length + 1) lv.length 167 := grownCap_ge w _ _ _
  have hG2 := grownCap_le_maxLen w (lv.length + 1) lv.length 167 (by unfold maxLen; omega)
  obtain ⟨G, hG⟩ : ∃ G, G = grownCap w (lv.length + 1) lv.length 167 := ⟨_, rfl⟩
  obtain ⟨W1, hW1⟩ : ∃ W1, W1 = w.drew.alloc (.cells (((lv.take i).flatMap lvE) ++ Z).toArray 167) := ⟨_, rfl⟩
  rw [← hG] at hrz hZl hG1 hG2
  rw [← hW1] at hrz
  have hC1 : Chg [] w W1 := by rw [hW1]; exact (Chg.drew [] w).trans (Chg.alloc [] _ _)
  have hH1 : W1.heap[w.heap.size]? = some (.cells (((lv.take i).flatMap lvE) ++ Z).toArray 167 (0, 0)) := by rw [hW1]; exact heap_alloc_new w.drew _
  clear hold hZ hG hW1 hzb hzs hz0 hi0
  have hxl : (lvE x).length = 4 := lvR.len x
  have htl : ((lv.take i).flatMap lvE).length = i * 4 := by rw [flat_len lvR, List.length_take, Nat.min_eq_left (by omega)]
  have hdl : ((lv.drop i).flatMap lvE).length = (lv.length - i) * 4 := by rw [flat_len lvR, List.length_drop]
  have hs1 : (((lv.take i).flatMap lvE) ++ Z).toArray.size = G * 4 := by simp only [List.size_toArray, List.length_append, htl, hZl]; omega
  have hcp1 : ∀ ty dc, (Builtin.copy_ #[175, 175] ty #[.slice (some ⟨w.heap.size, i * 4, none⟩) (lv.length + 1 - i) dc, .slice (some ⟨vb, 0, none⟩) 1 1]).run Try.prog W1 = .ok (goInt (Nat.min 1 (lv.length + 1 - i))) (W1.setRow w.heap.size (cutIn (((lv.take i).flatMap lvE) ++ Z).toArray (i * 4) (lvE x))) := fun ty dc =>
    copy_law W1 175 175 ty 167 4 w.heap.size (i * 4) _ dc ⟨vb, 0, none⟩ 1 1 _ 167 _ Try.underlying175 info167 hH1 (by rw [hxl]; simp only [Nat.min_def]; split <;> omega)
      (fun j u hj => by
        rw [add_lit']
        simp [World.cell?, hC1.at_ hx (by simp), hj])
      (by rw [hxl, hs1]; omega) (fun u hu => lvR.one x u hu)
  obtain ⟨W2, hW2⟩ : ∃ W2, W2 = W1.setRow w.heap.size (cutIn (((lv.take i).flatMap lvE) ++ Z).toArray (i * 4) (lvE x)) := ⟨_, rfl⟩
  have hC2 : Chg [] w W2 := hC1.trans' (U := []) (by rw [hW2]; exact Chg.setRow (g := w.heap.size) _) (by simp) (by simp)
  have hH2 : W2.heap[w.heap.size]? = some (.cells (cutIn (((lv.take i).flatMap lvE) ++ Z).toArray (i * 4) (lvE x)) 167 (0, 0)) := by rw [hW2]; exact setRow_at hH1
  rw [← hW2] at hcp1
  have hs2 : (cutIn (((lv.take i).flatMap lvE) ++ Z).toArray (i * 4) (lvE x)).size = G * 4 := by rw [cutIn_size (by rw [hxl, hs1]; omega), hs1]
  have hcp2 : ∀ (W : World), Chg [] W2 W → ∀ ty dc sc, (Builtin.copy_ #[175, 175] ty #[.slice (some ⟨w.heap.size, (i + 1) * 4, none⟩) (lv.length - i) dc, .slice (some ⟨g, i * 4, none⟩) (lv.length - i) sc]).run Try.prog W = .ok (goInt (Nat.min (lv.length - i) (lv.length - i))) (W.setRow w.heap.size (cutIn (cutIn (((lv.take i).flatMap lvE) ++ Z).toArray (i * 4) (lvE x)) ((i + 1) * 4) ((lv.drop i).flatMap lvE))) := fun W hW ty dc sc =>
    copy_law W 175 175 ty 167 4 w.heap.size ((i + 1) * 4) _ dc ⟨g, i * 4, none⟩ _ sc _ 167 _ Try.underlying175 info167 (hW.at_ hH2 (by simp)) (by rw [hdl]; congr 1; simp only [Nat.min_def]; split <;> omega)
      (fun j u hj => by
        have h2 := flat_drop lvR lv i (by omega) hj
        have hj2 : i * 4 + j < lv.length * 4 := by rw [← flat_len lvR lv]; exact (List.getElem?_eq_some_iff.1 h2).1
        rw [add_lit3]
        have h3 : cur[i * 4 + j]? = some u := by
          rw [← htk, List.getElem?_take, if_pos hj2] at h2
          simpa using h2
        simp [World.cell?, hW.at_ (hC2.at_ hg (by simp)) (by simp), h3])
      (by rw [hdl, hs2]; omega) (one_flat _)
  have hfin := fun W (hW : Chg [] W2 W) => ins_grown (x := x) (D := D) (v := .slice (some ⟨g, 0, none⟩) lv.length lv.length) (G := G) (Z := Z) hi hG1 hG2 hs1 (hC2.trans hW) (hW.at_ hH2 (by simp))
  have HH := Lib.hid (And.intro hrz (And.intro hcp1 (And.intro hcp2 hfin)))
  have e1 : IntKind.i64.wrap ((lv.length : Int) + 1 - (i : Int)) = (lv.length : Int) + 1 - (i : Int) := IntWalk.i64_in _ (by omega)
  have b1 : IntKind.i64.wrap ((i : Int) + 1) = (i : Int) + 1 := IntWalk.i64_in _ (by omega)
  have b2 : (0 : Int) ≤ (i : Int) + 1 := by omega
  have b3 : (i : Int) + 1 ≤ (lv.length : Int) + 1 := by omega
  have b4 : ((i : Int) + 1).toNat = i + 1 := by omega
  have b5 : (i : Int) ≤ (lv.length : Int) + 1 := by omega
  have b6 : ¬ (G = i + 1) := by omega
  have b7 : ¬ (G = i) := by omega
  have b8 : ¬ (lv.length = i) := by omega
  have b11 : (i : Int) ≤ (lv.length : Int) := by omega
  unfold maxLen at hG2
  have b9 : (lv.length : Int) + 1 ≤ (G : Int) := by omega
  have b10 : (G : Int) ≤ 9223372036854775807 := by omega
  clear hrz hcp1 hcp2 hfin hC1 hH1 hW2 hC2 hH2 hs1 hs2 hxl htl hdl hZl hx hg htk hsz hv hcm hlc hG1 hG2
  go_enter Try.func100, Try.ntmps100
  go_wp2_with (first | (with_reducible refine wpL_appendRun rfl (.tmp 34) (.tmp 39) 175 3 rfl rfl rfl (HH.out.1 _) ?_) | (with_reducible refine wpL_copy rfl (.tmp 43) (.tmp 44) 175 175 rfl rfl rfl (HH.out.2.1 _ _) ?_))
  refine wp_tail 8 (by kernel_rfl) (by kernel_rfl) ?_
  intro W hW
  have HX := Lib.hid hW
  clear hW
  simp only [List.take_succ_cons, List.take_zero, List.drop_succ_cons, List.drop_zero]
  repeat still_step
  refine wpStill_nil ?_
  go_wp2_with (with_reducible refine wpL_copy rfl (.tmp 50) (.tmp 53) 175 175 rfl rfl rfl (HH.out.2.2.1 _ HX.out _ _ _) ?_)
  go_ret
  exact HH.out.2.2.2 _ HX.out
end Go.Proofs.Ytdcjfaplgpeonaa
