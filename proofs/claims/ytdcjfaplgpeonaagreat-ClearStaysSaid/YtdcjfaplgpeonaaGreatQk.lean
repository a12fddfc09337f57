/-
  Which of any two prices is before the other one: the law's own walk.
-/
import Derived.Test.YtdcjfaplgpeonaaGreatQj
namespace Go.Proofs.YtdcjfaplgpeonaaGreat
open Go.RowKit Go.Dm
attribute [local go_sem] Oper.semAt_some

theorem priced_at (w : World) (g c : Nat) (l : List Int) (cs : Array Value) (hb : w.heap[g]? = some (.cells cs 2 (0, 0))) (hcs : ∀ (k : Nat) (x : Int), l[k]? = some x → cs[k]? = some (.int .i64 x)) (hl : l.length ≤ 1000) :
    Calls Tryz.prog 7 #[.slice (some ⟨g, 0, none⟩) l.length c] w fun e w' => e = .returned (.bool (l.all (fun x => decide (0 ≤ x) && decide (x ≤ 1099511627776)))) ∧ w' = w :=
  priced7 w g c l (fun k x hx => cell_blk hb (hcs k x hx)) (blk_lt hb) hl
theorem priced_in {l : List Int} (h : l.all (fun x => decide (0 ≤ x) && decide (x ≤ 1099511627776)) = true) : ∀ x ∈ l, InP x := fun x hx => by
  have := List.all_eq_true.1 h x hx
  simpa [InP] using this

set_option maxRecDepth 100000 in
set_option maxHeartbeats 8000000 in
theorem orders3 (w : World) (a b : Pr) (r : Int) : Calls Tryz.prog 3 #[prV a, prV b, .int .i64 r] w fun e w' => e = .returned (.bool true) ∧ Chg [] w w' := by
  have b3 := heap_alloc_new w (.cells #[.int .i64 a.p, .int .i64 a.v, .int .i64 a.o] 23)
  have hA1 := Chg.alloc [] w (.cells #[.int .i64 a.p, .int .i64 a.v, .int .i64 a.o] 23)
  have b4 := heap_alloc_new (w.alloc (.cells #[.int .i64 a.p, .int .i64 a.v, .int .i64 a.o] 23)) (.cells #[.int .i64 b.p, .int .i64 b.v, .int .i64 b.o] 23)
  have hA2 := Chg.alloc [] (w.alloc (.cells #[.int .i64 a.p, .int .i64 a.v, .int .i64 a.o] 23)) (.cells #[.int .i64 b.p, .int .i64 b.v, .int .i64 b.o] 23)
  rw [World.size_alloc] at b4
  have b3 := hA2.at_ b3 (by simp)
  have hC0 := hA1.trans hA2
  obtain ⟨W0, eW0⟩ : ∃ W0, (w.alloc (.cells #[.int .i64 a.p, .int .i64 a.v, .int .i64 a.o] 23)).alloc (.cells #[.int .i64 b.p, .int .i64 b.v, .int .i64 b.o] 23) = W0 := ⟨_, rfl⟩
  rw [eW0] at b3 b4 hC0
  clear hA1 hA2
  obtain ⟨x0, x1, x2⟩ := prBlk b3
  obtain ⟨y0, y1, y2⟩ := prBlk b4
  have hA3 := Chg.alloc [] W0 (.cells #[.int .i64 a.p, .int .i64 b.p, .int .i64 r] 2)
  have b5 := heap_alloc_new W0 (.cells #[.int .i64 a.p, .int .i64 b.p, .int .i64 r] 2)
  have hpr := priced_at _ W0.heap.size 3 [a.p, b.p, r] _ b5 (fun k x hx => by
    match k, hx with
    | 0, hx => simp at hx; subst hx; rfl
    | 1, hx => simp at hx; subst hx; rfl
    | 2, hx => simp at hx; subst hx; rfl
    | k + 3, hx => simp at hx) (by simp)
  have b3 := hA3.at_ b3 (by simp)
  have b4 := hA3.at_ b4 (by simp)
  have hC1 := hC0.trans hA3
  clear b5 hA3 hC0
  obtain ⟨bb, hbb⟩ : ∃ bb, [a.p, b.p, r].all (fun x => decide (0 ≤ x) && decide (x ≤ 1099511627776)) = bb := ⟨_, rfl⟩
  rw [hbb] at hpr
  have HB := Lib.hid hbb
  clear hbb
  simp only [List.length_cons, List.length_nil, Nat.zero_add, Nat.reduceAdd] at hpr
  cases bb with
  | false =>
    unfold prV
    go_enter Tryz.func3, Tryz.ntmps3
    go_wp2_with fail
    refine hpr.mono ?_
    rintro e w' ⟨rfl, rfl⟩
    clear hpr
    go_wp2_with fail
    refine (alive8 _).mono ?_
    rintro e w' ⟨rfl, hC⟩
    go_wp2_with fail
    go_ret
    exact ⟨rfl, hC1.trans hC⟩
  | true =>
    have hin := priced_in HB.out
    have ha : InP a.p := hin _ (by simp)
    have hb : InP b.p := hin _ (by simp)
    have hr : InP r := hin _ (by simp)
    have o1 := fun W => own10 W a
    have o2 := fun W => own10 W b
    have l1 := fun W => less9 W a b r ha hb hr
    have l2 := fun W => less9 W b a r hb ha hr
    have r1 := fun W => rless11 W a b r ha hb hr
    have r2 := fun W => rless11 W b a r hb ha hr
    obtain ⟨d1, hd1⟩ : ∃ d1, decide (LessP r a b) = d1 := ⟨_, rfl⟩
    obtain ⟨d2, hd2⟩ : ∃ d2, decide (LessP r b a) = d2 := ⟨_, rfl⟩
    rw [hd1] at l1 r1
    rw [hd2] at l2 r2
    have q1 : (d1 == d1) = true := by simp
    have q2 : (d2 == d2) = true := by simp
    clear hd1 hd2 ha hb hr hin
    unfold prV at *
    go_enter Tryz.func3, Tryz.ntmps3
    go_wp2_with fail
    refine hpr.mono ?_
    rintro e w' ⟨rfl, rfl⟩
    clear hpr x0 x1 x2 y0 y1 y2
    go_wp2_with fail
    obtain ⟨W1, eW1⟩ : ∃ W1, W0.alloc (.cells #[.int .i64 a.p, .int .i64 b.p, .int .i64 r] 2) = W1 := ⟨_, rfl⟩
    rw [eW1] at b3 b4 hC1 ⊢
    clear eW1 eW0
    obtain ⟨x0, x1, x2⟩ := prBlk b3
    obtain ⟨y0, y1, y2⟩ := prBlk b4
    refine wp_cutR (Chg [] W1) 27 (by kernel_rfl) (by kernel_rfl) (fun _ h => Chg.nil h) (fun W hW hS => ?_)
    simp only [List.take_succ_cons, List.take_zero, List.drop_succ_cons, List.drop_zero]
    refine takeH 0 (v := ?vv93) rfl (by kernel_rfl) (by kernel_rfl) (by kernel_rfl) (fun _ _ _ h => h) (by kernel_rfl) (fun Wx hSx => ?hy93) (by assumption) ?hrest93
    case hy93 => have q0 := hSx.cell x0 (by simp); have q1 := hSx.cell x1 (by simp); have q2 := hSx.cell x2 (by simp); go_simp; (try with_reducible rfl)
    simp only [Act.put, List.getElem_toArray, List.getElem_cons_zero, List.setIfInBounds_toArray, List.set_cons_zero, List.set_cons_succ]
    refine takeH 6 (v := ?vv96) rfl (by kernel_rfl) (by kernel_rfl) (by kernel_rfl) (fun _ _ _ h => h) (by kernel_rfl) (fun Wx hSx => ?hy96) (by assumption) ?hrest96
    case hy96 => have q0 := hSx.cell x0 (by simp); have q1 := hSx.cell x1 (by simp); have q2 := hSx.cell x2 (by simp); go_simp; (try with_reducible rfl)
    simp only [Act.put, List.getElem_toArray, List.getElem_cons_succ, List.getElem_cons_zero, List.setIfInBounds_toArray, List.set_cons_zero, List.set_cons_succ]
    refine takeH 2 (v := ?vv99) rfl (by kernel_rfl) (by kernel_rfl) (by kernel_rfl) (fun _ _ _ h => h) (by kernel_rfl) (fun Wx hSx => ?hy99) (by assumption) ?hrest99
    case hy99 => have q0 := hSx.cell y0 (by simp); have q1 := hSx.cell y1 (by simp); have q2 := hSx.cell y2 (by simp); go_simp; (try with_reducible rfl)
    simp only [Act.put, List.getElem_toArray, List.getElem_cons_succ, List.getElem_cons_zero, List.setIfInBounds_toArray, List.set_cons_zero, List.set_cons_succ]
    refine takeH 7 (v := ?vv102) rfl (by kernel_rfl) (by kernel_rfl) (by kernel_rfl) (fun _ _ _ h => h) (by kernel_rfl) (fun Wx hSx => ?hy102) (by assumption) ?hrest102
    case hy102 => have q0 := hSx.cell y0 (by simp); have q1 := hSx.cell y1 (by simp); have q2 := hSx.cell y2 (by simp); go_simp; (try with_reducible rfl)
    simp only [Act.put, List.getElem_toArray, List.getElem_cons_succ, List.getElem_cons_zero, List.setIfInBounds_toArray, List.set_cons_zero, List.set_cons_succ]
    refine takeH 4 (v := ?vv105) rfl (by kernel_rfl) (by kernel_rfl) (by kernel_rfl) (fun _ _ _ h => h) (by kernel_rfl) (fun Wx hSx => ?hy105) (by assumption) ?hrest105
    case hy105 => go_simp; (try with_reducible rfl)
    simp only [Act.put, List.getElem_toArray, List.getElem_cons_succ, List.getElem_cons_zero, List.setIfInBounds_toArray, List.set_cons_zero, List.set_cons_succ]
    refine takeH 8 (v := ?vv108) rfl (by kernel_rfl) (by kernel_rfl) (by kernel_rfl) (fun _ _ _ h => h) (by kernel_rfl) (fun Wx hSx => ?hy108) (by assumption) ?hrest108
    case hy108 => go_simp; (try with_reducible rfl)
    simp only [Act.put, List.getElem_toArray, List.getElem_cons_succ, List.getElem_cons_zero, List.setIfInBounds_toArray, List.set_cons_zero, List.set_cons_succ]
    refine wpAnyH_ready (rs := [1]) (by kernel_rfl) (by simp) ?_
    refine (AllReadyH.cons rfl (fun K hK => ?_) AllReadyH.nil)
    all_goals try simp only [List.getElem_toArray, List.getElem_cons_succ, List.getElem_cons_zero]
    go_simp
    refine (o1 W).mono ?_
    rintro e V1 ⟨rfl, hK1⟩
    go_simp
    refine hK.out _ _ (hS.trans hK1) (fun hHeld => ?_)
    clear hK K
    try simp only [Act.put, List.getElem_toArray, List.getElem_cons_succ, List.getElem_cons_zero, List.setIfInBounds_toArray, List.set_cons_zero, List.set_cons_succ]
    refine wpAnyH_ready (rs := [3]) (by kernel_rfl) (by simp) ?_
    refine (AllReadyH.cons rfl (fun K hK => ?_) AllReadyH.nil)
    all_goals try simp only [List.getElem_toArray, List.getElem_cons_succ, List.getElem_cons_zero]
    go_simp
    refine (o2 V1).mono ?_
    rintro e V2 ⟨rfl, hK2⟩
    go_simp
    refine hK.out _ _ (hHeld.trans hK2) (fun hHeld => ?_)
    clear hK K
    try simp only [Act.put, List.getElem_toArray, List.getElem_cons_succ, List.getElem_cons_zero, List.setIfInBounds_toArray, List.set_cons_zero, List.set_cons_succ]
    refine wpAnyH_ready (rs := [5]) (by kernel_rfl) (by simp) ?_
    refine (AllReadyH.cons rfl (fun K hK => ?_) AllReadyH.nil)
    all_goals try simp only [List.getElem_toArray, List.getElem_cons_succ, List.getElem_cons_zero]
    go_simp
    refine (l1 V2).mono ?_
    rintro e V3 ⟨rfl, hK3⟩
    go_simp
    refine hK.out _ _ (hHeld.trans hK3) (fun hHeld => ?_)
    clear hK K
    try simp only [Act.put, List.getElem_toArray, List.getElem_cons_succ, List.getElem_cons_zero, List.setIfInBounds_toArray, List.set_cons_zero, List.set_cons_succ]
    refine wpAnyH_ready (rs := [9]) (by kernel_rfl) (by simp) ?_
    refine (AllReadyH.cons rfl (fun K hK => ?_) AllReadyH.nil)
    all_goals try simp only [List.getElem_toArray, List.getElem_cons_succ, List.getElem_cons_zero]
    go_simp
    refine (r1 V3).mono ?_
    rintro e V4 ⟨rfl, hK4⟩
    go_simp
    refine hK.out _ _ (hHeld.trans hK4) (fun hHeld => ?_)
    clear hK K
    try simp only [Act.put, List.getElem_toArray, List.getElem_cons_succ, List.getElem_cons_zero, List.setIfInBounds_toArray, List.set_cons_zero, List.set_cons_succ]
    refine takeH 10 (v := ?vv151) rfl (by kernel_rfl) (by kernel_rfl) (by kernel_rfl) (fun _ _ _ h => h) (by kernel_rfl) (fun Wx hSx => ?hy151) (by assumption) ?hrest151
    case hy151 => go_simp; (try with_reducible rfl)
    simp only [Act.put, List.getElem_toArray, List.getElem_cons_succ, List.getElem_cons_zero, List.setIfInBounds_toArray, List.set_cons_zero, List.set_cons_succ]
    refine takeH 11 (v := ?vv154) rfl (by kernel_rfl) (by kernel_rfl) (by kernel_rfl) (fun _ _ _ h => h) (by kernel_rfl) (fun Wx hSx => ?hy154) (by assumption) ?hrest154
    case hy154 => go_simp; (try with_reducible rfl)
    simp only [Act.put, List.getElem_toArray, List.getElem_cons_succ, List.getElem_cons_zero, List.setIfInBounds_toArray, List.set_cons_zero, List.set_cons_succ]
    refine takeH 12 (v := ?vv157) rfl (by kernel_rfl) (by kernel_rfl) (by kernel_rfl) (fun _ _ _ h => h) (by kernel_rfl) (fun Wx hSx => ?hy157) (by assumption) ?hrest157
    case hy157 => have q0 := hSx.cell y0 (by simp); have q1 := hSx.cell y1 (by simp); have q2 := hSx.cell y2 (by simp); go_simp; (try with_reducible rfl)
    simp only [Act.put, List.getElem_toArray, List.getElem_cons_succ, List.getElem_cons_zero, List.setIfInBounds_toArray, List.set_cons_zero, List.set_cons_succ]
    refine takeH 18 (v := ?vv160) rfl (by kernel_rfl) (by kernel_rfl) (by kernel_rfl) (fun _ _ _ h => h) (by kernel_rfl) (fun Wx hSx => ?hy160) (by assumption) ?hrest160
    case hy160 => have q0 := hSx.cell y0 (by simp); have q1 := hSx.cell y1 (by simp); have q2 := hSx.cell y2 (by simp); go_simp; (try with_reducible rfl)
    simp only [Act.put, List.getElem_toArray, List.getElem_cons_succ, List.getElem_cons_zero, List.setIfInBounds_toArray, List.set_cons_zero, List.set_cons_succ]
    refine takeH 14 (v := ?vv163) rfl (by kernel_rfl) (by kernel_rfl) (by kernel_rfl) (fun _ _ _ h => h) (by kernel_rfl) (fun Wx hSx => ?hy163) (by assumption) ?hrest163
    case hy163 => have q0 := hSx.cell x0 (by simp); have q1 := hSx.cell x1 (by simp); have q2 := hSx.cell x2 (by simp); go_simp; (try with_reducible rfl)
    simp only [Act.put, List.getElem_toArray, List.getElem_cons_succ, List.getElem_cons_zero, List.setIfInBounds_toArray, List.set_cons_zero, List.set_cons_succ]
    refine takeH 19 (v := ?vv166) rfl (by kernel_rfl) (by kernel_rfl) (by kernel_rfl) (fun _ _ _ h => h) (by kernel_rfl) (fun Wx hSx => ?hy166) (by assumption) ?hrest166
    case hy166 => have q0 := hSx.cell x0 (by simp); have q1 := hSx.cell x1 (by simp); have q2 := hSx.cell x2 (by simp); go_simp; (try with_reducible rfl)
    simp only [Act.put, List.getElem_toArray, List.getElem_cons_succ, List.getElem_cons_zero, List.setIfInBounds_toArray, List.set_cons_zero, List.set_cons_succ]
    refine takeH 16 (v := ?vv169) rfl (by kernel_rfl) (by kernel_rfl) (by kernel_rfl) (fun _ _ _ h => h) (by kernel_rfl) (fun Wx hSx => ?hy169) (by assumption) ?hrest169
    case hy169 => go_simp; (try with_reducible rfl)
    simp only [Act.put, List.getElem_toArray, List.getElem_cons_succ, List.getElem_cons_zero, List.setIfInBounds_toArray, List.set_cons_zero, List.set_cons_succ]
    refine takeH 20 (v := ?vv172) rfl (by kernel_rfl) (by kernel_rfl) (by kernel_rfl) (fun _ _ _ h => h) (by kernel_rfl) (fun Wx hSx => ?hy172) (by assumption) ?hrest172
    case hy172 => go_simp; (try with_reducible rfl)
    simp only [Act.put, List.getElem_toArray, List.getElem_cons_succ, List.getElem_cons_zero, List.setIfInBounds_toArray, List.set_cons_zero, List.set_cons_succ]
    refine wpAnyH_ready (rs := [13]) (by kernel_rfl) (by simp) ?_
    refine (AllReadyH.cons rfl (fun K hK => ?_) AllReadyH.nil)
    all_goals try simp only [List.getElem_toArray, List.getElem_cons_succ, List.getElem_cons_zero]
    go_simp
    refine (o2 V4).mono ?_
    rintro e V5 ⟨rfl, hK5⟩
    go_simp
    refine hK.out _ _ (hHeld.trans hK5) (fun hHeld => ?_)
    clear hK K
    try simp only [Act.put, List.getElem_toArray, List.getElem_cons_succ, List.getElem_cons_zero, List.setIfInBounds_toArray, List.set_cons_zero, List.set_cons_succ]
    refine wpAnyH_ready (rs := [15]) (by kernel_rfl) (by simp) ?_
    refine (AllReadyH.cons rfl (fun K hK => ?_) AllReadyH.nil)
    all_goals try simp only [List.getElem_toArray, List.getElem_cons_succ, List.getElem_cons_zero]
    go_simp
    refine (o1 V5).mono ?_
    rintro e V6 ⟨rfl, hK6⟩
    go_simp
    refine hK.out _ _ (hHeld.trans hK6) (fun hHeld => ?_)
    clear hK K
    try simp only [Act.put, List.getElem_toArray, List.getElem_cons_succ, List.getElem_cons_zero, List.setIfInBounds_toArray, List.set_cons_zero, List.set_cons_succ]
    refine wpAnyH_ready (rs := [17]) (by kernel_rfl) (by simp) ?_
    refine (AllReadyH.cons rfl (fun K hK => ?_) AllReadyH.nil)
    all_goals try simp only [List.getElem_toArray, List.getElem_cons_succ, List.getElem_cons_zero]
    go_simp
    refine (l2 V6).mono ?_
    rintro e V7 ⟨rfl, hK7⟩
    go_simp
    refine hK.out _ _ (hHeld.trans hK7) (fun hHeld => ?_)
    clear hK K
    try simp only [Act.put, List.getElem_toArray, List.getElem_cons_succ, List.getElem_cons_zero, List.setIfInBounds_toArray, List.set_cons_zero, List.set_cons_succ]
    refine wpAnyH_ready (rs := [21]) (by kernel_rfl) (by simp) ?_
    refine (AllReadyH.cons rfl (fun K hK => ?_) AllReadyH.nil)
    all_goals try simp only [List.getElem_toArray, List.getElem_cons_succ, List.getElem_cons_zero]
    go_simp
    refine (r2 V7).mono ?_
    rintro e V8 ⟨rfl, hK8⟩
    go_simp
    refine hK.out _ _ (hHeld.trans hK8) (fun hHeld => ?_)
    clear hK K
    try simp only [Act.put, List.getElem_toArray, List.getElem_cons_succ, List.getElem_cons_zero, List.setIfInBounds_toArray, List.set_cons_zero, List.set_cons_succ]
    refine takeH 22 (v := ?vv215) rfl (by kernel_rfl) (by kernel_rfl) (by kernel_rfl) (fun _ _ _ h => h) (by kernel_rfl) (fun Wx hSx => ?hy215) (by assumption) ?hrest215
    case hy215 => go_simp; (try with_reducible rfl)
    simp only [Act.put, List.getElem_toArray, List.getElem_cons_succ, List.getElem_cons_zero, List.setIfInBounds_toArray, List.set_cons_zero, List.set_cons_succ]
    refine takeH 23 (v := ?vv218) rfl (by kernel_rfl) (by kernel_rfl) (by kernel_rfl) (fun _ _ _ h => h) (by kernel_rfl) (fun Wx hSx => ?hy218) (by assumption) ?hrest218
    case hy218 => go_simp; (try with_reducible rfl)
    simp only [Act.put, List.getElem_toArray, List.getElem_cons_succ, List.getElem_cons_zero, List.setIfInBounds_toArray, List.set_cons_zero, List.set_cons_succ]
    refine takeH 24 (v := ?vv221) rfl (by kernel_rfl) (by kernel_rfl) (by kernel_rfl) (fun _ _ _ h => h) (by kernel_rfl) (fun Wx hSx => ?hy221) (by assumption) ?hrest221
    case hy221 => go_simp; (try with_reducible rfl)
    simp only [Act.put, List.getElem_toArray, List.getElem_cons_succ, List.getElem_cons_zero, List.setIfInBounds_toArray, List.set_cons_zero, List.set_cons_succ]
    refine wpAnyH_ready (rs := [25]) (by kernel_rfl) (by simp) ?_
    refine (AllReadyH.cons rfl (fun K hK => ?_) AllReadyH.nil)
    all_goals try simp only [List.getElem_toArray, List.getElem_cons_succ, List.getElem_cons_zero]
    go_simp
    refine (alive8 V8).mono ?_
    rintro e V9 ⟨rfl, hK9⟩
    go_simp
    refine hK.out _ _ (hHeld.trans hK9) (fun hHeld => ?_)
    clear hK K
    try simp only [Act.put, List.getElem_toArray, List.getElem_cons_succ, List.getElem_cons_zero, List.setIfInBounds_toArray, List.set_cons_zero, List.set_cons_succ]
    refine takeH 26 (v := ?vv234) rfl (by kernel_rfl) (by kernel_rfl) (by kernel_rfl) (fun _ _ _ h => h) (by kernel_rfl) (fun Wx hSx => ?hy234) (by assumption) ?hrest234
    case hy234 => go_simp; (try with_reducible rfl)
    simp only [Act.put, List.getElem_toArray, List.getElem_cons_succ, List.getElem_cons_zero, List.setIfInBounds_toArray, List.set_cons_zero, List.set_cons_succ]
    refine wpAnyH_done (by kernel_rfl) ?_ _
    simp only [cutQ]
    go_wp2_with fail
    go_ret
    exact ⟨rfl, hC1.trans hHeld⟩
end Go.Proofs.YtdcjfaplgpeonaaGreat
