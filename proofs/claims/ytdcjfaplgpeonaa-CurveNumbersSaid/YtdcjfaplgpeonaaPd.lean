/-
  The program's book: Add, an order that is refused; Add.
-/
import Derived.Test.YtdcjfaplgpeonaaPc
namespace Go.Proofs.Ytdcjfaplgpeonaa
open Go.RowKit Go.Dm

set_option maxRecDepth 100000 in
set_option maxHeartbeats 4000000 in
theorem badd_side (w : World) (b : Nat) (o : Ord) (h0 : o 2 ≠ 0) (h1 : o 2 ≠ 1) :
    Calls Try.prog 66 #[.pointer (some ⟨b, 0, none⟩), oV o] w fun e w' => e = .returned (.int .i64 1) ∧ Chg [] w w' := by
  have hA0 := Chg.alloc [] w (.cells #[.int .i64 (o 0), .int .i64 (o 1), .int .i64 (o 2), .int .i64 (o 3), .int .i64 (o 4), .int .i64 (o 5), .int .i64 (o 6)] 52)
  obtain ⟨W0, hW0⟩ : ∃ W0, W0 = w.alloc (.cells #[.int .i64 (o 0), .int .i64 (o 1), .int .i64 (o 2), .int .i64 (o 3), .int .i64 (o 4), .int .i64 (o 5), .int .i64 (o 6)] 52) := ⟨_, rfl⟩
  have hof1 := of79_no W0 b (o 2) h0 h1
  rw [← hW0] at hA0
  unfold oV
  clear h0 h1
  go_enter Try.func66, Try.ntmps66
  go_wp2_with fail
  rw [← hW0]
  refine hof1.mono ?_
  rintro e w' ⟨rfl, rfl⟩
  clear hof1
  go_wp2
  go_ret
  rw [← hW0]
  exact ⟨rfl, hA0⟩

set_option maxRecDepth 100000 in
set_option maxHeartbeats 4000000 in
theorem badd_range (w : World) (b off : Nat) (sd : Int) (hof : OfIs b off sd) (o : Ord) (ho : o 2 = sd) (hrg : (o 3 < 1 ∨ o 3 > 1099511627776) ∨ (o 4 < 1 ∨ o 4 > 4294967296)) :
    Calls Try.prog 66 #[.pointer (some ⟨b, 0, none⟩), oV o] w fun e w' => e = .returned (.int .i64 9) ∧ Chg [] w w' := by
  have hA0 := Chg.alloc [] w (.cells #[.int .i64 (o 0), .int .i64 (o 1), .int .i64 (o 2), .int .i64 (o 3), .int .i64 (o 4), .int .i64 (o 5), .int .i64 (o 6)] 52)
  have bx0 : (w.alloc (.cells #[.int .i64 (o 0), .int .i64 (o 1), .int .i64 (o 2), .int .i64 (o 3), .int .i64 (o 4), .int .i64 (o 5), .int .i64 (o 6)] 52)).heap[w.heap.size]? = some (.cells (oCs o) 52 (0, 0)) := heap_alloc_new w _
  obtain ⟨W0, hW0⟩ : ∃ W0, W0 = w.alloc (.cells #[.int .i64 (o 0), .int .i64 (o 1), .int .i64 (o 2), .int .i64 (o 3), .int .i64 (o 4), .int .i64 (o 5), .int .i64 (o 6)] 52) := ⟨_, rfl⟩
  have hof1 := hof W0
  rw [← ho] at hof1
  rw [← hW0] at hA0 bx0
  obtain ⟨x0, x1, x2, x3, x4, x5, x6⟩ := blk7 (o := o) bx0
  unfold oV
  have fin : ∃ p1 p2 p3 p4 : Bool, decide (o 3 < 1) = p1 ∧ decide (o 3 > 1099511627776) = p2 ∧ decide (o 4 < 1) = p3 ∧ decide (o 4 > 4294967296) = p4 ∧ (p1 || p2 || p3 || p4) = true := ⟨_, _, _, _, rfl, rfl, rfl, rfl, by simp; omega⟩
  obtain ⟨p1, p2, p3, p4, h1, h2, h3, h4, hp⟩ := fin
  clear hrg ho
  cases p1 <;> cases p2 <;> cases p3 <;> cases p4 <;> first | (exact absurd hp (by decide)) | skip
  all_goals
    clear hp
    go_enter Try.func66, Try.ntmps66
    go_wp2_with fail
    rw [← hW0]
    refine hof1.mono ?_
    rintro e w' ⟨rfl, rfl⟩
    clear hof1
    go_wp2
    go_ret
    rw [← hW0]
    exact ⟨rfl, hA0⟩

set_option maxRecDepth 100000 in
set_option maxHeartbeats 4000000 in
theorem badd_twice (w : World) (b off ar x m1 m2 : Nat) (S : Sdb) (sd : Int) (hB : BC w b off ar x S) (hof : OfIs b off sd) (il : IL) (hX : XAt w x m1 m2 il) (o : Ord) (ho : o 2 = sd) (hok : okO o = true) (hid : (mLook il (0, o 0)).isSome = true) :
    Calls Try.prog 66 #[.pointer (some ⟨b, 0, none⟩), oV o] w fun e w' => e = .returned (.int .i64 6) ∧ Chg [] w w' := by
  have hA0 := Chg.alloc [] w (.cells #[.int .i64 (o 0), .int .i64 (o 1), .int .i64 (o 2), .int .i64 (o 3), .int .i64 (o 4), .int .i64 (o 5), .int .i64 (o 6)] 52)
  have bx0 : (w.alloc (.cells #[.int .i64 (o 0), .int .i64 (o 1), .int .i64 (o 2), .int .i64 (o 3), .int .i64 (o 4), .int .i64 (o 5), .int .i64 (o 6)] 52)).heap[w.heap.size]? = some (.cells (oCs o) 52 (0, 0)) := heap_alloc_new w _
  obtain ⟨W0, hW0⟩ : ∃ W0, W0 = w.alloc (.cells #[.int .i64 (o 0), .int .i64 (o 1), .int .i64 (o 2), .int .i64 (o 3), .int .i64 (o 4), .int .i64 (o 5), .int .i64 (o 6)] 52) := ⟨_, rfl⟩
  rw [← hW0] at hA0 bx0
  have hok2 := hok
  simp only [okO, Bool.and_eq_true, decide_eq_true_eq] at hok2
  obtain ⟨_, ⟨⟨hp1, hp2⟩, hq1⟩, hq2⟩ := hok2
  have g1 : decide (o 3 < 1) = false := decide_eq_false (by omega)
  have g2 : decide (o 3 > 1099511627776) = false := decide_eq_false (by omega)
  have g3 : decide (o 4 < 1) = false := decide_eq_false (by omega)
  have g4 : decide (o 4 > 4294967296) = false := decide_eq_false (by omega)
  have hof1 := hof W0
  rw [← ho] at hof1
  unfold oV
  have B0 := hB.chg hA0 (by simp)
  have X0 := hX.chg hA0 (by simp) (by simp) (by simp)
  obtain ⟨x0, x1, x2, x3, x4, x5, x6⟩ := blk7 (o := o) bx0
  have HI := Lib.hid hid
  clear ho hok hid hB hX hq1 hq2 hp1 hp2
  go_enter Try.func66, Try.ntmps66
  go_wp2_with fail
  rw [← hW0]
  refine hof1.mono ?_
  rintro e w' ⟨rfl, rfl⟩
  clear hof1
  go_wp2_with fail
  have hx5 := B0.c5
  rw [← hW0]
  refine wp_cutR (Chg [] W0) 12 (by kernel_rfl) (by kernel_rfl) (fun _ h => Chg.nil h) (fun W hW hS => ?_)
  simp only [List.take_succ_cons, List.take_zero, List.drop_succ_cons, List.drop_zero]
  have HW := Lib.hid hW
  clear hW
  refine takeH 0 (v := ?vv93) rfl (by kernel_rfl) (by kernel_rfl) (by kernel_rfl) (fun _ _ _ h => h) (by kernel_rfl) (fun Wx hSx => ?hy93) (by assumption) ?hrest93
  case hy93 => go_simp; (try with_reducible rfl)
  simp only [Act.put, List.setIfInBounds_toArray]
  refine takeH 1 (v := ?vv96) rfl (by kernel_rfl) (by kernel_rfl) (by kernel_rfl) (fun _ _ _ h => h) (by kernel_rfl) (fun Wx hSx => ?hy96) (by assumption) ?hrest96
  case hy96 => go_simp; (try with_reducible rfl)
  simp only [Act.put]
  refine takeH 2 (v := ?vv99) rfl (by kernel_rfl) (by kernel_rfl) (by kernel_rfl) (fun _ _ _ h => h) (by kernel_rfl) (fun Wx hSx => ?hy99) (by assumption) ?hrest99
  case hy99 => go_simp; (try with_reducible rfl)
  simp only [Act.put]
  refine takeH 3 (v := ?vv102) rfl (by kernel_rfl) (by kernel_rfl) (by kernel_rfl) (fun _ _ _ h => h) (by kernel_rfl) (fun Wx hSx => ?hy102) (by assumption) ?hrest102
  case hy102 => have q0 := hSx.cell hx5 (by simp); go_simp; (try with_reducible rfl)
  simp only [Act.put]
  refine takeH 4 (v := ?vv105) rfl (by kernel_rfl) (by kernel_rfl) (by kernel_rfl) (fun _ _ _ h => h) (by kernel_rfl) (fun Wx hSx => ?hy105) (by assumption) ?hrest105
  case hy105 => go_simp; (try with_reducible rfl)
  simp only [Act.put]
  refine takeH 5 (v := ?vv108) rfl (by kernel_rfl) (by kernel_rfl) (by kernel_rfl) (fun _ _ _ h => h) (by kernel_rfl) (fun Wx hSx => ?hy108) (by assumption) ?hrest108
  case hy108 => have q0 := hSx.cell x0 (by simp); go_simp; (try with_reducible rfl)
  simp only [Act.put]
  refine wpAnyH_ready (rs := [6]) (by kernel_rfl) (by simp) ?_
  refine (AllReadyH.cons rfl (fun K hK => ?_) AllReadyH.nil)
  all_goals try simp only [List.getElem_toArray, List.getElem_cons_succ, List.getElem_cons_zero]
  go_simp
  refine (key80 _ _).mono ?_
  rintro e W1 ⟨rfl, hC1⟩
  go_simp
  refine hK.out _ _ (hS.trans hC1) (fun hHeld => ?_)
  clear hK K
  try simp only [Act.put, List.getElem_toArray, List.getElem_cons_succ, List.getElem_cons_zero, List.setIfInBounds_toArray, List.set_cons_zero, List.set_cons_succ]
  have hg := get_any W1 x m1 m2 il (X0.chg hHeld (by simp) (by simp) (by simp)) 0 (o 0)
  rw [HI.out] at hg
  refine wpAnyH_ready (rs := [7]) (by kernel_rfl) (by simp) ?_
  refine (AllReadyH.cons rfl (fun K hK => ?_) AllReadyH.nil)
  all_goals try simp only [List.getElem_toArray, List.getElem_cons_succ, List.getElem_cons_zero]
  go_simp
  refine hg.mono ?_
  rintro e W2 ⟨rfl, hC2⟩
  go_simp
  refine hK.out _ _ (hHeld.trans hC2) (fun hHeld => ?_)
  clear hK K
  try simp only [Act.put, List.getElem_toArray, List.getElem_cons_succ, List.getElem_cons_zero, List.setIfInBounds_toArray, List.set_cons_zero, List.set_cons_succ]
  clear hC2 hg hC1 hS HW
  refine takeH 8 (v := ?vv134) rfl (by kernel_rfl) (by kernel_rfl) (by kernel_rfl) (fun _ _ _ h => h) (by kernel_rfl) (fun Wx hSx => ?hy134) (by assumption) ?hrest134
  case hy134 => go_simp; (try with_reducible rfl)
  simp only [Act.put, List.setIfInBounds_toArray]
  refine takeH 9 (v := ?vv137) rfl (by kernel_rfl) (by kernel_rfl) (by kernel_rfl) (fun _ _ _ h => h) (by kernel_rfl) (fun Wx hSx => ?hy137) (by assumption) ?hrest137
  case hy137 => go_simp; (try with_reducible rfl)
  simp only [Act.put]
  refine takeH 10 (v := ?vv140) rfl (by kernel_rfl) (by kernel_rfl) (by kernel_rfl) (fun _ _ _ h => h) (by kernel_rfl) (fun Wx hSx => ?hy140) (by assumption) ?hrest140
  case hy140 => go_simp; (try with_reducible rfl)
  simp only [Act.put]
  refine takeH 11 (v := ?vv143) rfl (by kernel_rfl) (by kernel_rfl) (by kernel_rfl) (fun _ _ _ h => h) (by kernel_rfl) (fun Wx hSx => ?hy143) (by assumption) ?hrest143
  case hy143 => go_simp; (try with_reducible rfl)
  simp only [Act.put]
  refine wpAnyH_done (by kernel_rfl) ?_ _
  simp only [cutQ]
  have hA2 := hA0.trans hHeld
  clear B0 X0 bx0 hA0 hHeld x0 x1 x2 x3 x4 x5 x6 hx5
  go_wp2
  go_ret
  exact ⟨rfl, hA2⟩

theorem PB.apart {w : World} {D : Nat} {B : Bkb} {L : List Ord} {lv0 lv1 : List Lvl} {v0 v1 : Value} (h : PB w D B L lv0 lv1 v0 v1) {w' : World} (hC : Chg [] w w') : PB w' D B L lv0 lv1 v0 v1 := by
  obtain ⟨c, ha, hh⟩ := h.ar
  obtain ⟨il, hx, hi, hl⟩ := h.ix
  exact ⟨hC.at_ h.blk (by simp), ⟨c, ha.chg hC (by simp), hh⟩, ⟨il, hx.chg hC (by simp) (by simp) (by simp), hi, hl⟩, h.s0.chg hC (by simp) (by simp) (by simp) (by simp) (by simp), h.s1.chg hC (by simp) (by simp) (by simp) (by simp) (by simp),
    h.al, h.aq, h.an, h.ae, h.av, h.db, h.da, h.dx, h.d1, h.d2⟩
theorem PB.bc0 {w : World} {D : Nat} {B : Bkb} {L : List Ord} {lv0 lv1 : List Lvl} {v0 v1 : Value} (h : PB w D B L lv0 lv1 v0 v1) : BC w B.b 1 B.ar B.x B.s0 := by
  obtain ⟨c0, c1, c2, c3, c4, c5⟩ := blk6 h.blk
  exact ⟨⟨_, h.blk⟩, c0, c5, c1, c2⟩
theorem PB.bc1 {w : World} {D : Nat} {B : Bkb} {L : List Ord} {lv0 lv1 : List Lvl} {v0 v1 : Value} (h : PB w D B L lv0 lv1 v0 v1) : BC w B.b 3 B.ar B.x B.s1 := by
  obtain ⟨c0, c1, c2, c3, c4, c5⟩ := blk6 h.blk
  exact ⟨⟨_, h.blk⟩, c0, c5, c3, c4⟩
end Go.Proofs.Ytdcjfaplgpeonaa
