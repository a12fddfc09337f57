/-
  How much any point trades, and what is left over then: the law's own walk.
-/
import Derived.Test.YtdcjfaplgpeonaaQe
namespace Go.Proofs.Ytdcjfaplgpeonaa
open Go.RowKit Go.Dm
attribute [local go_sem] Oper.semAt_some

set_option maxRecDepth 100000 in
set_option maxHeartbeats 4000000 in
theorem numbers10 (w : World) (p d s : Int) : Calls Try.prog 10 #[.int .i64 p, .int .i64 d, .int .i64 s] w fun e w' => e = .returned (.bool true) ∧ Chg [] w w' := by
  by_cases hneg : d < 0 ∨ s < 0
  · have hal := alive36 w
    by_cases hd : d < 0
    · have t1 : decide (d < 0) = true := decide_eq_true hd
      go_enter Try.func10, Try.ntmps10
      go_wp2_with fail
      refine hal.mono ?_
      rintro e w' ⟨rfl, hC⟩
      go_wp2_with fail
      go_ret
      exact ⟨rfl, hC⟩
    · have t1 : decide (d < 0) = false := decide_eq_false hd
      have t2 : decide (s < 0) = true := decide_eq_true (by omega)
      go_enter Try.func10, Try.ntmps10
      go_wp2_with fail
      refine hal.mono ?_
      rintro e w' ⟨rfl, hC⟩
      go_wp2_with fail
      go_ret
      exact ⟨rfl, hC⟩
  · have t1 : decide (d < 0) = false := decide_eq_false (by omega)
    have t2 : decide (s < 0) = false := decide_eq_false (by omega)
    obtain ⟨W0, eW0⟩ : ∃ W0, w.alloc (.cells #[.int .i64 p, .int .i64 d, .int .i64 s] 81) = W0 := ⟨_, rfl⟩
    have hC0 : Chg [] w W0 := eW0 ▸ Chg.alloc [] w _
    have hb : W0.heap[w.heap.size]? = some (.cells #[.int .i64 p, .int .i64 d, .int .i64 s] 81 (0, 0)) := eW0 ▸ heap_alloc_new w _
    obtain ⟨c0, c1, c2⟩ := blk3V hb
    go_enter Try.func10, Try.ntmps10
    go_wp2_with fail
    refine wp_cutR (Chg [] W0) 17 (by kernel_rfl) (by kernel_rfl) (fun _ h => Chg.nil h) (fun W hW hS => ?_)
    simp only [List.take_succ_cons, List.take_zero, List.drop_succ_cons, List.drop_zero]
    refine takeH 0 (v := ?vv41) rfl (by kernel_rfl) (by kernel_rfl) (by kernel_rfl) (fun _ _ _ h => h) (by kernel_rfl) (fun Wx hSx => ?hy41) (by assumption) ?hrest41
    case hy41 => have q0 := hSx.cell c0 (by simp); have q1 := hSx.cell c1 (by simp); have q2 := hSx.cell c2 (by simp); go_simp; (try with_reducible rfl)
    simp only [Act.put, List.getElem_toArray, List.getElem_cons_zero, List.setIfInBounds_toArray, List.set_cons_zero, List.set_cons_succ]
    refine takeH 3 (v := ?vv44) rfl (by kernel_rfl) (by kernel_rfl) (by kernel_rfl) (fun _ _ _ h => h) (by kernel_rfl) (fun Wx hSx => ?hy44) (by assumption) ?hrest44
    case hy44 => have q0 := hSx.cell c0 (by simp); have q1 := hSx.cell c1 (by simp); have q2 := hSx.cell c2 (by simp); go_simp; (try with_reducible rfl)
    simp only [Act.put, List.getElem_toArray, List.getElem_cons_succ, List.getElem_cons_zero, List.setIfInBounds_toArray, List.set_cons_zero, List.set_cons_succ]
    refine wpAnyH_ready (rs := [1]) (by kernel_rfl) (by simp) ?_
    refine (AllReadyH.cons rfl (fun K hK => ?_) AllReadyH.nil)
    all_goals try simp only [List.getElem_toArray, List.getElem_cons_succ, List.getElem_cons_zero]
    go_simp
    refine (own38 W p d s).mono ?_
    rintro e W1 ⟨rfl, hC1⟩
    go_simp
    refine hK.out _ _ (hS.trans hC1) (fun hHeld => ?_)
    clear hK K
    try simp only [Act.put, List.getElem_toArray, List.getElem_cons_succ, List.getElem_cons_zero, List.setIfInBounds_toArray, List.set_cons_zero, List.set_cons_succ]
    refine wpAnyH_ready (rs := [2]) (by kernel_rfl) (by simp) ?_
    refine (AllReadyH.cons rfl (fun K hK => ?_) AllReadyH.nil)
    all_goals try simp only [List.getElem_toArray, List.getElem_cons_succ, List.getElem_cons_zero]
    go_simp
    refine (vol37 W1 p d s).mono ?_
    rintro e W2 ⟨rfl, hC2⟩
    go_simp
    refine hK.out _ _ (hHeld.trans hC2) (fun hHeld => ?_)
    clear hK K
    try simp only [Act.put, List.getElem_toArray, List.getElem_cons_succ, List.getElem_cons_zero, List.setIfInBounds_toArray, List.set_cons_zero, List.set_cons_succ]
    refine wpAnyH_ready (rs := [4]) (by kernel_rfl) (by simp) ?_
    refine (AllReadyH.cons rfl (fun K hK => ?_) AllReadyH.nil)
    all_goals try simp only [List.getElem_toArray, List.getElem_cons_succ, List.getElem_cons_zero]
    go_simp
    refine (rvol39 W2 p d s).mono ?_
    rintro e W3 ⟨rfl, hC3⟩
    go_simp
    refine hK.out _ _ (hHeld.trans hC3) (fun hHeld => ?_)
    clear hK K
    try simp only [Act.put, List.getElem_toArray, List.getElem_cons_succ, List.getElem_cons_zero, List.setIfInBounds_toArray, List.set_cons_zero, List.set_cons_succ]
    refine takeH 5 (v := ?vv77) rfl (by kernel_rfl) (by kernel_rfl) (by kernel_rfl) (fun _ _ _ h => h) (by kernel_rfl) (fun Wx hSx => ?hy77) (by assumption) ?hrest77
    case hy77 => go_simp; (try with_reducible rfl)
    simp only [Act.put, List.getElem_toArray, List.getElem_cons_succ, List.getElem_cons_zero, List.setIfInBounds_toArray, List.set_cons_zero, List.set_cons_succ]
    refine takeH 6 (v := ?vv80) rfl (by kernel_rfl) (by kernel_rfl) (by kernel_rfl) (fun _ _ _ h => h) (by kernel_rfl) (fun Wx hSx => ?hy80) (by assumption) ?hrest80
    case hy80 => go_simp; (try with_reducible rfl)
    simp only [Act.put, List.getElem_toArray, List.getElem_cons_succ, List.getElem_cons_zero, List.setIfInBounds_toArray, List.set_cons_zero, List.set_cons_succ]
    refine takeH 7 (v := ?vv83) rfl (by kernel_rfl) (by kernel_rfl) (by kernel_rfl) (fun _ _ _ h => h) (by kernel_rfl) (fun Wx hSx => ?hy83) (by assumption) ?hrest83
    case hy83 => have q0 := hSx.cell c0 (by simp); have q1 := hSx.cell c1 (by simp); have q2 := hSx.cell c2 (by simp); go_simp; (try with_reducible rfl)
    simp only [Act.put, List.getElem_toArray, List.getElem_cons_succ, List.getElem_cons_zero, List.setIfInBounds_toArray, List.set_cons_zero, List.set_cons_succ]
    refine takeH 10 (v := ?vv86) rfl (by kernel_rfl) (by kernel_rfl) (by kernel_rfl) (fun _ _ _ h => h) (by kernel_rfl) (fun Wx hSx => ?hy86) (by assumption) ?hrest86
    case hy86 => have q0 := hSx.cell c0 (by simp); have q1 := hSx.cell c1 (by simp); have q2 := hSx.cell c2 (by simp); go_simp; (try with_reducible rfl)
    simp only [Act.put, List.getElem_toArray, List.getElem_cons_succ, List.getElem_cons_zero, List.setIfInBounds_toArray, List.set_cons_zero, List.set_cons_succ]
    refine wpAnyH_ready (rs := [8]) (by kernel_rfl) (by simp) ?_
    refine (AllReadyH.cons rfl (fun K hK => ?_) AllReadyH.nil)
    all_goals try simp only [List.getElem_toArray, List.getElem_cons_succ, List.getElem_cons_zero]
    go_simp
    refine (own38 W3 p d s).mono ?_
    rintro e W4 ⟨rfl, hC4⟩
    go_simp
    refine hK.out _ _ (hHeld.trans hC4) (fun hHeld => ?_)
    clear hK K
    try simp only [Act.put, List.getElem_toArray, List.getElem_cons_succ, List.getElem_cons_zero, List.setIfInBounds_toArray, List.set_cons_zero, List.set_cons_succ]
    refine wpAnyH_ready (rs := [9]) (by kernel_rfl) (by simp) ?_
    refine (AllReadyH.cons rfl (fun K hK => ?_) AllReadyH.nil)
    all_goals try simp only [List.getElem_toArray, List.getElem_cons_succ, List.getElem_cons_zero]
    go_simp
    refine (odd40 W4 p d s).mono ?_
    rintro e W5 ⟨rfl, hC5⟩
    go_simp
    refine hK.out _ _ (hHeld.trans hC5) (fun hHeld => ?_)
    clear hK K
    try simp only [Act.put, List.getElem_toArray, List.getElem_cons_succ, List.getElem_cons_zero, List.setIfInBounds_toArray, List.set_cons_zero, List.set_cons_succ]
    refine wpAnyH_ready (rs := [11]) (by kernel_rfl) (by simp) ?_
    refine (AllReadyH.cons rfl (fun K hK => ?_) AllReadyH.nil)
    all_goals try simp only [List.getElem_toArray, List.getElem_cons_succ, List.getElem_cons_zero]
    go_simp
    refine (rodd41 W5 p d s).mono ?_
    rintro e W6 ⟨rfl, hC6⟩
    go_simp
    refine hK.out _ _ (hHeld.trans hC6) (fun hHeld => ?_)
    clear hK K
    try simp only [Act.put, List.getElem_toArray, List.getElem_cons_succ, List.getElem_cons_zero, List.setIfInBounds_toArray, List.set_cons_zero, List.set_cons_succ]
    refine takeH 12 (v := ?vv119) rfl (by kernel_rfl) (by kernel_rfl) (by kernel_rfl) (fun _ _ _ h => h) (by kernel_rfl) (fun Wx hSx => ?hy119) (by assumption) ?hrest119
    case hy119 => go_simp; (try with_reducible rfl)
    simp only [Act.put, List.getElem_toArray, List.getElem_cons_succ, List.getElem_cons_zero, List.setIfInBounds_toArray, List.set_cons_zero, List.set_cons_succ]
    refine takeH 13 (v := ?vv122) rfl (by kernel_rfl) (by kernel_rfl) (by kernel_rfl) (fun _ _ _ h => h) (by kernel_rfl) (fun Wx hSx => ?hy122) (by assumption) ?hrest122
    case hy122 => go_simp; (try with_reducible rfl)
    simp only [Act.put, List.getElem_toArray, List.getElem_cons_succ, List.getElem_cons_zero, List.setIfInBounds_toArray, List.set_cons_zero, List.set_cons_succ]
    refine takeH 14 (v := ?vv125) rfl (by kernel_rfl) (by kernel_rfl) (by kernel_rfl) (fun _ _ _ h => h) (by kernel_rfl) (fun Wx hSx => ?hy125) (by assumption) ?hrest125
    case hy125 => go_simp; (try with_reducible rfl)
    simp only [Act.put, List.getElem_toArray, List.getElem_cons_succ, List.getElem_cons_zero, List.setIfInBounds_toArray, List.set_cons_zero, List.set_cons_succ]
    refine wpAnyH_ready (rs := [15]) (by kernel_rfl) (by simp) ?_
    refine (AllReadyH.cons rfl (fun K hK => ?_) AllReadyH.nil)
    all_goals try simp only [List.getElem_toArray, List.getElem_cons_succ, List.getElem_cons_zero]
    go_simp
    refine (alive36 W6).mono ?_
    rintro e W7 ⟨rfl, hC7⟩
    go_simp
    refine hK.out _ _ (hHeld.trans hC7) (fun hHeld => ?_)
    clear hK K
    try simp only [Act.put, List.getElem_toArray, List.getElem_cons_succ, List.getElem_cons_zero, List.setIfInBounds_toArray, List.set_cons_zero, List.set_cons_succ]
    refine takeH 16 (v := ?vv138) rfl (by kernel_rfl) (by kernel_rfl) (by kernel_rfl) (fun _ _ _ h => h) (by kernel_rfl) (fun Wx hSx => ?hy138) (by assumption) ?hrest138
    case hy138 => go_simp; (try with_reducible rfl)
    simp only [Act.put, List.getElem_toArray, List.getElem_cons_succ, List.getElem_cons_zero, List.setIfInBounds_toArray, List.set_cons_zero, List.set_cons_succ]
    refine wpAnyH_done (by kernel_rfl) ?_ _
    simp only [cutQ]
    go_wp2_with fail
    go_ret
    exact ⟨rfl, hC0.trans hHeld⟩
end Go.Proofs.Ytdcjfaplgpeonaa
