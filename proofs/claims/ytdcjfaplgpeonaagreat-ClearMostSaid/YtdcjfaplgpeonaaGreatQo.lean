/-
  No price in a band trades more than the one that is chosen: the law's own walk.
-/
import Derived.Test.YtdcjfaplgpeonaaGreatQn
namespace Go.Proofs.YtdcjfaplgpeonaaGreat
open Go.RowKit Go.Dm
attribute [local go_sem] Oper.semAt_some

set_option maxRecDepth 100000 in
set_option maxHeartbeats 16000000 in
theorem most5 (w : World) (A : Option Addr) (cap : Nat) (l : List Ord) (h : OrdsAt w A l) (r lo hi pr : Int) :
    Calls Tryz.prog 5 #[.slice A l.length cap, .int .i64 r, bdV lo hi, .int .i64 pr] w fun e w' => e = .returned (.bool true) ∧ Chg [] w w' := by
  have hA1 := Chg.alloc [] w (.cells #[.int .i64 lo, .int .i64 hi] 32)
  have b5 := heap_alloc_new w (.cells #[.int .i64 lo, .int .i64 hi] 32)
  obtain ⟨W0, eW0⟩ : ∃ W0, w.alloc (.cells #[.int .i64 lo, .int .i64 hi] 32) = W0 := ⟨_, rfl⟩
  rw [eW0] at hA1 b5
  by_cases hbig : l.length > 60
  · have t1 : decide ((l.length : Int) > 60) = true := decide_eq_true (by omega)
    clear hbig h
    unfold bdV
    go_enter Tryz.func5, Tryz.ntmps5
    go_wp2_with fail
    refine (alive8 _).mono ?_
    rintro e w' ⟨rfl, hC⟩
    go_wp2_with fail
    go_ret
    exact ⟨rfl, hA1.trans hC⟩
  · have t1 : decide ((l.length : Int) > 60) = false := decide_eq_false (by omega)
    have hA2 := Chg.alloc [] W0 (.cells #[.int .i64 r] 2)
    have b6 := heap_alloc_new W0 (.cells #[.int .i64 r] 2)
    have hpr := priced_at _ W0.heap.size 1 [r] _ b6 (fun k x hx => by
      match k, hx with
      | 0, hx => simp at hx; subst hx; rfl
      | k + 1, hx => simp at hx) (by simp)
    obtain ⟨W1, eW1⟩ : ∃ W1, W0.alloc (.cells #[.int .i64 r] 2) = W1 := ⟨_, rfl⟩
    rw [eW1] at hpr hA2
    have b5 := hA2.at_ b5 (by simp)
    have hC1 := hA1.trans hA2
    clear b6 hA2 hA1
    obtain ⟨bb, hbb⟩ : ∃ bb, [r].all (fun x => decide (0 ≤ x) && decide (x ≤ 1099511627776)) = bb := ⟨_, rfl⟩
    rw [hbb] at hpr
    have HB := Lib.hid hbb
    clear hbb
    simp only [List.length_cons, List.length_nil, Nat.zero_add] at hpr
    obtain ⟨c0, c1⟩ := blk2 b5
    cases bb with
    | false =>
      clear hbig h
      unfold bdV
      go_enter Tryz.func5, Tryz.ntmps5
      go_wp2_with fail
      refine hpr.mono ?_
      rintro e w' ⟨rfl, rfl⟩
      clear hpr
      go_wp2_with fail
      refine (alive8 _).mono ?_
      rintro e w' ⟨rfl, hC⟩
      go_wp2_with fail
      go_ret
      exact ⟨rfl, hC1.trans hC⟩
    | true =>
      by_cases g1 : pr < lo
      · have qg1 : decide (pr < lo) = true := decide_eq_true g1
        clear g1 hbig h
        unfold bdV
        go_enter Tryz.func5, Tryz.ntmps5
        go_wp2_with fail
        refine hpr.mono ?_
        rintro e w' ⟨rfl, rfl⟩
        clear hpr
        go_wp2_with fail
        refine (alive8 _).mono ?_
        rintro e w' ⟨rfl, hC⟩
        go_wp2_with fail
        go_ret
        exact ⟨rfl, hC1.trans hC⟩
      · have qg1 : decide (pr < lo) = false := decide_eq_false g1
        by_cases g2 : pr > hi
        · have qg2 : decide (pr > hi) = true := decide_eq_true g2
          clear g2 hbig h
          unfold bdV
          go_enter Tryz.func5, Tryz.ntmps5
          go_wp2_with fail
          refine hpr.mono ?_
          rintro e w' ⟨rfl, rfl⟩
          clear hpr
          go_wp2_with fail
          refine (alive8 _).mono ?_
          rintro e w' ⟨rfl, hC⟩
          go_wp2_with fail
          go_ret
          exact ⟨rfl, hC1.trans hC⟩
        · have qg2 : decide (pr > hi) = false := decide_eq_false g2
          by_cases g3 : lo < 1
          · have qg3 : decide (lo < 1) = true := decide_eq_true g3
            clear g3 hbig h
            unfold bdV
            go_enter Tryz.func5, Tryz.ntmps5
            go_wp2_with fail
            refine hpr.mono ?_
            rintro e w' ⟨rfl, rfl⟩
            clear hpr
            go_wp2_with fail
            refine (alive8 _).mono ?_
            rintro e w' ⟨rfl, hC⟩
            go_wp2_with fail
            go_ret
            exact ⟨rfl, hC1.trans hC⟩
          · have qg3 : decide (lo < 1) = false := decide_eq_false g3
            by_cases g4 : hi > 1099511627776
            · have qg4 : decide (hi > 1099511627776) = true := decide_eq_true g4
              clear g4 hbig h
              unfold bdV
              go_enter Tryz.func5, Tryz.ntmps5
              go_wp2_with fail
              refine hpr.mono ?_
              rintro e w' ⟨rfl, rfl⟩
              clear hpr
              go_wp2_with fail
              refine (alive8 _).mono ?_
              rintro e w' ⟨rfl, hC⟩
              go_wp2_with fail
              go_ret
              exact ⟨rfl, hC1.trans hC⟩
            · have qg4 : decide (hi > 1099511627776) = false := decide_eq_false g4
              have hr : InP r := priced_in HB.out _ (by simp)
              have hlen : l.length ≤ 60 := by omega
              have hOk := book_ok hlen
              have hO1 : OrdsAt W1 A l := by
                rcases h with h | ⟨b, off, e, hb, hc⟩
                · exact .inl h
                · exact .inr ⟨b, off, e, Nat.lt_of_lt_of_le hb hC1.size, fun i o ho j hj => hC1.cell (hc i o ho j hj) (by simp)⟩
              have hbk := books42 W1 A cap l hO1 hlen
              clear hbig h hO1
              unfold bdV
              go_enter Tryz.func5, Tryz.ntmps5
              go_wp2_with fail
              refine hpr.mono ?_
              rintro e w' ⟨rfl, rfl⟩
              clear hpr
              go_wp2_with fail
              refine hbk.mono ?_
              rintro e W2 ⟨B, rb, rfl, ⟨lv0, lv1, v0, v1, hP⟩, hR, hC2, _⟩
              obtain ⟨L, hL⟩ : ∃ L, bookL l = L := ⟨_, rfl⟩
              rw [hL] at hP hR hOk
              have b5 := hC2.at_ b5 (by simp)
              have hC3 := hC1.trans hC2
              have hds := ds_ok hOk.qty
              clear c0 c1 hbk hL hC1 hC2
              have k1 := choose13 W2 hP hOk r lo hi hr
              have k2 := fun W (hW : Chg [] W2 W) => rof20 W rb L (hR.chg hW (by simp) (by simp)) hOk
              have k3 := fun W (hW : Chg [] W2 W) => has21 W rb L (hR.chg hW (by simp) (by simp)) pr (by have := hOk.len; omega)
              obtain ⟨⟨x, bx⟩, hx⟩ : ∃ x, chooseL (psO L) (dO L) (sO L) r lo hi = x := ⟨_, rfl⟩
              have hno := most_no hds (r := r) (lo := lo) (hi := hi) (p := pr) (by omega) (by omega) (by omega) (by omega)
              have hyes := most_yes hds (r := r) (lo := lo) (hi := hi) (p := pr) (by omega) (by omega) (by omega) (by omega)
              rw [hx] at k1 hno hyes
              obtain ⟨qq, hqq⟩ : ∃ qq, prAt (dO L) (sO L) pr = qq := ⟨_, rfl⟩
              have hqv : min (dO L pr) (sO L pr) = qq.v := by rw [← hqq]; rfl
              have k2p := fun W hW => k2 W hW pr
              rw [hqv] at hno
              simp only [hqq] at k2p hyes
              clear hx hqv hP hR hds
              cases bx with
              | false =>
                obtain ⟨hx0, hv0⟩ := hno rfl
                have z0 : (x.p == 0) = true := by rw [show x = _ from hx0]; rfl
                have z1 : (x.v == 0) = true := by rw [show x = _ from hx0]; rfl
                have z2 : (x.o == 0) = true := by rw [show x = _ from hx0]; rfl
                have z3 : (qq.v == 0) = true := by simpa using hv0
                clear hx0 hv0 hno hyes k3
                unfold chV prV bdV at *
                obtain ⟨c0, c1⟩ := blk2 b5
                go_wp2_with fail
                refine k1.mono ?_
                rintro e W4 ⟨rfl, hD4⟩
                have hA5 := Chg.alloc [] W4 (.cells #[.int .i64 x.p, .int .i64 x.v, .int .i64 x.o] 27)
                have b9 := heap_alloc_new W4 (.cells #[.int .i64 x.p, .int .i64 x.v, .int .i64 x.o] 27)
                obtain ⟨W5, eW5⟩ : ∃ W5, W4.alloc (.cells #[.int .i64 x.p, .int .i64 x.v, .int .i64 x.o] 27) = W5 := ⟨_, rfl⟩
                rw [eW5] at hA5 b9
                have hD5 := hD4.trans hA5
                clear c0 c1 hA5 hD4 k1
                go_wp2_with fail
                refine (k2p W5 hD5).mono ?_
                rintro e W6 ⟨rfl, hD6⟩
                have hA7 := Chg.alloc [] W6 (.cells #[.int .i64 qq.p, .int .i64 qq.v, .int .i64 qq.o] 23)
                have b11 := heap_alloc_new W6 (.cells #[.int .i64 qq.p, .int .i64 qq.v, .int .i64 qq.o] 23)
                obtain ⟨W7, eW7⟩ : ∃ W7, W6.alloc (.cells #[.int .i64 qq.p, .int .i64 qq.v, .int .i64 qq.o] 23) = W7 := ⟨_, rfl⟩
                rw [eW7] at hA7 b11
                have b9 := (hD6.trans hA7).at_ b9 (by simp)
                have hD7 := (hD5.trans hD6).trans hA7
                obtain ⟨x0, x1, x2⟩ := prBlk b9
                obtain ⟨y0, y1, y2⟩ := prBlk b11
                clear hA7 hD6 hD5 eW5 k2 k2p
                go_wp2_with fail
                refine (alive8 _).mono ?_
                rintro e W8 ⟨rfl, hD8⟩
                go_wp2_with fail
                go_ret
                exact ⟨rfl, (hC3.trans hD7).trans hD8⟩
              | true =>
                obtain ⟨a1, a2, a3, a4, a5⟩ := hyes rfl
                have k2x := fun W hW => k2 W hW x.p
                simp only [← a3] at k2x
                have z0 : decide (x.p < lo) = false := decide_eq_false (by omega)
                have z1 : decide (x.p > hi) = false := decide_eq_false (by omega)
                have z2 : decide (qq.v > x.v) = false := decide_eq_false (by omega)
                have e2 : ∀ n : Int, (n == n) = true := fun n => by simp
                have e3 : ∀ n : Int, (n != n) = false := fun n => by simp
                have o1 := fun W => own10 W x
                have A5 := Lib.hid a5
                clear a1 a2 a3 a4 a5 hno hyes k2
                unfold chV prV bdV at *
                obtain ⟨c0, c1⟩ := blk2 b5
                go_wp2_with fail
                refine k1.mono ?_
                rintro e W4 ⟨rfl, hD4⟩
                have hA5 := Chg.alloc [] W4 (.cells #[.int .i64 x.p, .int .i64 x.v, .int .i64 x.o] 27)
                have b9 := heap_alloc_new W4 (.cells #[.int .i64 x.p, .int .i64 x.v, .int .i64 x.o] 27)
                obtain ⟨W5, eW5⟩ : ∃ W5, W4.alloc (.cells #[.int .i64 x.p, .int .i64 x.v, .int .i64 x.o] 27) = W5 := ⟨_, rfl⟩
                rw [eW5] at hA5 b9
                have hD5 := hD4.trans hA5
                clear c0 c1 hA5 hD4 k1
                go_wp2_with fail
                refine (k2p W5 hD5).mono ?_
                rintro e W6 ⟨rfl, hD6⟩
                have hA7 := Chg.alloc [] W6 (.cells #[.int .i64 qq.p, .int .i64 qq.v, .int .i64 qq.o] 23)
                have b11 := heap_alloc_new W6 (.cells #[.int .i64 qq.p, .int .i64 qq.v, .int .i64 qq.o] 23)
                obtain ⟨W7, eW7⟩ : ∃ W7, W6.alloc (.cells #[.int .i64 qq.p, .int .i64 qq.v, .int .i64 qq.o] 23) = W7 := ⟨_, rfl⟩
                rw [eW7] at hA7 b11
                have b9 := (hD6.trans hA7).at_ b9 (by simp)
                have hD7 := (hD5.trans hD6).trans hA7
                have b5 := hD7.at_ b5 (by simp)
                clear hA7 hD6 hD5 eW5 k2p
                go_wp2_with fail
                clear eW7
                obtain ⟨c0, c1⟩ := blk2 b5
                obtain ⟨x0, x1, x2⟩ := prBlk b9
                obtain ⟨y0, y1, y2⟩ := prBlk b11
                refine wp_cutR (Chg [] W7) 27 (by kernel_rfl) (by kernel_rfl) (fun _ h => Chg.nil h) (fun W hW hS => ?_)
                simp only [List.take_succ_cons, List.take_zero, List.drop_succ_cons, List.drop_zero]
                refine takeH 0 (v := ?vv240) rfl (by kernel_rfl) (by kernel_rfl) (by kernel_rfl) (fun _ _ _ h => h) (by kernel_rfl) (fun Wx hSx => ?hy240) (by assumption) ?hrest240
                case hy240 => have q0 := hSx.cell x0 (by simp); have q1 := hSx.cell x1 (by simp); have q2 := hSx.cell x2 (by simp); go_simp; (try with_reducible rfl)
                simp only [Act.put, List.getElem_toArray, List.getElem_cons_zero, List.setIfInBounds_toArray, List.set_cons_zero, List.set_cons_succ]
                refine takeH 1 (v := ?vv243) rfl (by kernel_rfl) (by kernel_rfl) (by kernel_rfl) (fun _ _ _ h => h) (by kernel_rfl) (fun Wx hSx => ?hy243) (by assumption) ?hrest243
                case hy243 => have q0 := hSx.cell x0 (by simp); have q1 := hSx.cell x1 (by simp); have q2 := hSx.cell x2 (by simp); go_simp; (try with_reducible rfl)
                simp only [Act.put, List.getElem_toArray, List.getElem_cons_succ, List.getElem_cons_zero, List.setIfInBounds_toArray, List.set_cons_zero, List.set_cons_succ]
                refine takeH 2 (v := ?vv246) rfl (by kernel_rfl) (by kernel_rfl) (by kernel_rfl) (fun _ _ _ h => h) (by kernel_rfl) (fun Wx hSx => ?hy246) (by assumption) ?hrest246
                case hy246 => have q0 := hSx.cell c0 (by simp); have q1 := hSx.cell c1 (by simp); go_simp; (try with_reducible rfl)
                simp only [Act.put, List.getElem_toArray, List.getElem_cons_succ, List.getElem_cons_zero, List.setIfInBounds_toArray, List.set_cons_zero, List.set_cons_succ]
                refine takeH 3 (v := ?vv249) rfl (by kernel_rfl) (by kernel_rfl) (by kernel_rfl) (fun _ _ _ h => h) (by kernel_rfl) (fun Wx hSx => ?hy249) (by assumption) ?hrest249
                case hy249 => have q0 := hSx.cell c0 (by simp); have q1 := hSx.cell c1 (by simp); go_simp; (try with_reducible rfl)
                simp only [Act.put, List.getElem_toArray, List.getElem_cons_succ, List.getElem_cons_zero, List.setIfInBounds_toArray, List.set_cons_zero, List.set_cons_succ]
                refine takeH 4 (v := ?vv252) rfl (by kernel_rfl) (by kernel_rfl) (by kernel_rfl) (fun _ _ _ h => h) (by kernel_rfl) (fun Wx hSx => ?hy252) (by assumption) ?hrest252
                case hy252 => go_simp; (try with_reducible rfl)
                simp only [Act.put, List.getElem_toArray, List.getElem_cons_succ, List.getElem_cons_zero, List.setIfInBounds_toArray, List.set_cons_zero, List.set_cons_succ]
                refine takeH 5 (v := ?vv255) rfl (by kernel_rfl) (by kernel_rfl) (by kernel_rfl) (fun _ _ _ h => h) (by kernel_rfl) (fun Wx hSx => ?hy255) (by assumption) ?hrest255
                case hy255 => go_simp; (try with_reducible rfl)
                simp only [Act.put, List.getElem_toArray, List.getElem_cons_succ, List.getElem_cons_zero, List.setIfInBounds_toArray, List.set_cons_zero, List.set_cons_succ]
                refine takeH 6 (v := ?vv258) rfl (by kernel_rfl) (by kernel_rfl) (by kernel_rfl) (fun _ _ _ h => h) (by kernel_rfl) (fun Wx hSx => ?hy258) (by assumption) ?hrest258
                case hy258 => go_simp; (try with_reducible rfl)
                simp only [Act.put, List.getElem_toArray, List.getElem_cons_succ, List.getElem_cons_zero, List.setIfInBounds_toArray, List.set_cons_zero, List.set_cons_succ]
                refine takeH 7 (v := ?vv261) rfl (by kernel_rfl) (by kernel_rfl) (by kernel_rfl) (fun _ _ _ h => h) (by kernel_rfl) (fun Wx hSx => ?hy261) (by assumption) ?hrest261
                case hy261 => have q0 := hSx.cell x0 (by simp); have q1 := hSx.cell x1 (by simp); have q2 := hSx.cell x2 (by simp); go_simp; (try with_reducible rfl)
                simp only [Act.put, List.getElem_toArray, List.getElem_cons_succ, List.getElem_cons_zero, List.setIfInBounds_toArray, List.set_cons_zero, List.set_cons_succ]
                refine takeH 8 (v := ?vv264) rfl (by kernel_rfl) (by kernel_rfl) (by kernel_rfl) (fun _ _ _ h => h) (by kernel_rfl) (fun Wx hSx => ?hy264) (by assumption) ?hrest264
                case hy264 => have q0 := hSx.cell c0 (by simp); have q1 := hSx.cell c1 (by simp); go_simp; (try with_reducible rfl)
                simp only [Act.put, List.getElem_toArray, List.getElem_cons_succ, List.getElem_cons_zero, List.setIfInBounds_toArray, List.set_cons_zero, List.set_cons_succ]
                refine takeH 9 (v := ?vv267) rfl (by kernel_rfl) (by kernel_rfl) (by kernel_rfl) (fun _ _ _ h => h) (by kernel_rfl) (fun Wx hSx => ?hy267) (by assumption) ?hrest267
                case hy267 => have q0 := hSx.cell c0 (by simp); have q1 := hSx.cell c1 (by simp); go_simp; (try with_reducible rfl)
                simp only [Act.put, List.getElem_toArray, List.getElem_cons_succ, List.getElem_cons_zero, List.setIfInBounds_toArray, List.set_cons_zero, List.set_cons_succ]
                refine takeH 10 (v := ?vv270) rfl (by kernel_rfl) (by kernel_rfl) (by kernel_rfl) (fun _ _ _ h => h) (by kernel_rfl) (fun Wx hSx => ?hy270) (by assumption) ?hrest270
                case hy270 => go_simp; (try with_reducible rfl)
                simp only [Act.put, List.getElem_toArray, List.getElem_cons_succ, List.getElem_cons_zero, List.setIfInBounds_toArray, List.set_cons_zero, List.set_cons_succ]
                refine takeH 11 (v := ?vv273) rfl (by kernel_rfl) (by kernel_rfl) (by kernel_rfl) (fun _ _ _ h => h) (by kernel_rfl) (fun Wx hSx => ?hy273) (by assumption) ?hrest273
                case hy273 => go_simp; (try with_reducible rfl)
                simp only [Act.put, List.getElem_toArray, List.getElem_cons_succ, List.getElem_cons_zero, List.setIfInBounds_toArray, List.set_cons_zero, List.set_cons_succ]
                refine takeH 12 (v := ?vv276) rfl (by kernel_rfl) (by kernel_rfl) (by kernel_rfl) (fun _ _ _ h => h) (by kernel_rfl) (fun Wx hSx => ?hy276) (by assumption) ?hrest276
                case hy276 => go_simp; (try with_reducible rfl)
                simp only [Act.put, List.getElem_toArray, List.getElem_cons_succ, List.getElem_cons_zero, List.setIfInBounds_toArray, List.set_cons_zero, List.set_cons_succ]
                refine takeH 13 (v := ?vv279) rfl (by kernel_rfl) (by kernel_rfl) (by kernel_rfl) (fun _ _ _ h => h) (by kernel_rfl) (fun Wx hSx => ?hy279) (by assumption) ?hrest279
                case hy279 => have q0 := hSx.cell x0 (by simp); have q1 := hSx.cell x1 (by simp); have q2 := hSx.cell x2 (by simp); go_simp; (try with_reducible rfl)
                simp only [Act.put, List.getElem_toArray, List.getElem_cons_succ, List.getElem_cons_zero, List.setIfInBounds_toArray, List.set_cons_zero, List.set_cons_succ]
                refine takeH 14 (v := ?vv282) rfl (by kernel_rfl) (by kernel_rfl) (by kernel_rfl) (fun _ _ _ h => h) (by kernel_rfl) (fun Wx hSx => ?hy282) (by assumption) ?hrest282
                case hy282 => go_simp; (try with_reducible rfl)
                simp only [Act.put, List.getElem_toArray, List.getElem_cons_succ, List.getElem_cons_zero, List.setIfInBounds_toArray, List.set_cons_zero, List.set_cons_succ]
                refine takeH 15 (v := ?vv285) rfl (by kernel_rfl) (by kernel_rfl) (by kernel_rfl) (fun _ _ _ h => h) (by kernel_rfl) (fun Wx hSx => ?hy285) (by assumption) ?hrest285
                case hy285 => go_simp; (try with_reducible rfl)
                simp only [Act.put, List.getElem_toArray, List.getElem_cons_succ, List.getElem_cons_zero, List.setIfInBounds_toArray, List.set_cons_zero, List.set_cons_succ]
                refine takeH 16 (v := ?vv288) rfl (by kernel_rfl) (by kernel_rfl) (by kernel_rfl) (fun _ _ _ h => h) (by kernel_rfl) (fun Wx hSx => ?hy288) (by assumption) ?hrest288
                case hy288 => have q0 := hSx.cell x0 (by simp); have q1 := hSx.cell x1 (by simp); have q2 := hSx.cell x2 (by simp); go_simp; (try with_reducible rfl)
                simp only [Act.put, List.getElem_toArray, List.getElem_cons_succ, List.getElem_cons_zero, List.setIfInBounds_toArray, List.set_cons_zero, List.set_cons_succ]
                refine wpAnyH_ready (rs := [17]) (by kernel_rfl) (by simp) ?_
                refine (AllReadyH.cons rfl (fun K hK => ?_) AllReadyH.nil)
                all_goals try simp only [List.getElem_toArray, List.getElem_cons_succ, List.getElem_cons_zero]
                go_simp
                refine (k2x W (hD7.trans hS)).mono ?_
                rintro e V1 ⟨rfl, hK1⟩
                go_simp
                refine hK.out _ _ (hS.trans hK1) (fun hHeld => ?_)
                clear hK K
                try simp only [Act.put, List.getElem_toArray, List.getElem_cons_succ, List.getElem_cons_zero, List.setIfInBounds_toArray, List.set_cons_zero, List.set_cons_succ]
                refine wpAnyH_ready (rs := [18]) (by kernel_rfl) (by simp) ?_
                refine (AllReadyH.cons rfl (fun K hK => ?_) AllReadyH.nil)
                all_goals try simp only [List.getElem_toArray, List.getElem_cons_succ, List.getElem_cons_zero]
                go_simp
                refine (o1 V1).mono ?_
                rintro e V2 ⟨rfl, hK2⟩
                go_simp
                refine hK.out _ _ (hHeld.trans hK2) (fun hHeld => ?_)
                clear hK K
                try simp only [Act.put, List.getElem_toArray, List.getElem_cons_succ, List.getElem_cons_zero, List.setIfInBounds_toArray, List.set_cons_zero, List.set_cons_succ]
                refine takeH 19 (v := ?vv311) rfl (by kernel_rfl) (by kernel_rfl) (by kernel_rfl) (fun _ _ _ h => h) (by kernel_rfl) (fun Wx hSx => ?hy311) (by assumption) ?hrest311
                case hy311 => go_simp; (try with_reducible rfl)
                simp only [Act.put, List.getElem_toArray, List.getElem_cons_succ, List.getElem_cons_zero, List.setIfInBounds_toArray, List.set_cons_zero, List.set_cons_succ]
                refine takeH 20 (v := ?vv314) rfl (by kernel_rfl) (by kernel_rfl) (by kernel_rfl) (fun _ _ _ h => h) (by kernel_rfl) (fun Wx hSx => ?hy314) (by assumption) ?hrest314
                case hy314 => go_simp; (try with_reducible rfl)
                simp only [Act.put, List.getElem_toArray, List.getElem_cons_succ, List.getElem_cons_zero, List.setIfInBounds_toArray, List.set_cons_zero, List.set_cons_succ]
                refine takeH 21 (v := ?vv317) rfl (by kernel_rfl) (by kernel_rfl) (by kernel_rfl) (fun _ _ _ h => h) (by kernel_rfl) (fun Wx hSx => ?hy317) (by assumption) ?hrest317
                case hy317 => go_simp; (try with_reducible rfl)
                simp only [Act.put, List.getElem_toArray, List.getElem_cons_succ, List.getElem_cons_zero, List.setIfInBounds_toArray, List.set_cons_zero, List.set_cons_succ]
                refine takeH 22 (v := ?vv320) rfl (by kernel_rfl) (by kernel_rfl) (by kernel_rfl) (fun _ _ _ h => h) (by kernel_rfl) (fun Wx hSx => ?hy320) (by assumption) ?hrest320
                case hy320 => go_simp; (try with_reducible rfl)
                simp only [Act.put, List.getElem_toArray, List.getElem_cons_succ, List.getElem_cons_zero, List.setIfInBounds_toArray, List.set_cons_zero, List.set_cons_succ]
                refine takeH 23 (v := ?vv323) rfl (by kernel_rfl) (by kernel_rfl) (by kernel_rfl) (fun _ _ _ h => h) (by kernel_rfl) (fun Wx hSx => ?hy323) (by assumption) ?hrest323
                case hy323 => have q0 := hSx.cell y0 (by simp); have q1 := hSx.cell y1 (by simp); have q2 := hSx.cell y2 (by simp); go_simp; (try with_reducible rfl)
                simp only [Act.put, List.getElem_toArray, List.getElem_cons_succ, List.getElem_cons_zero, List.setIfInBounds_toArray, List.set_cons_zero, List.set_cons_succ]
                refine takeH 24 (v := ?vv326) rfl (by kernel_rfl) (by kernel_rfl) (by kernel_rfl) (fun _ _ _ h => h) (by kernel_rfl) (fun Wx hSx => ?hy326) (by assumption) ?hrest326
                case hy326 => go_simp; (try with_reducible rfl)
                simp only [Act.put, List.getElem_toArray, List.getElem_cons_succ, List.getElem_cons_zero, List.setIfInBounds_toArray, List.set_cons_zero, List.set_cons_succ]
                refine takeH 25 (v := ?vv329) rfl (by kernel_rfl) (by kernel_rfl) (by kernel_rfl) (fun _ _ _ h => h) (by kernel_rfl) (fun Wx hSx => ?hy329) (by assumption) ?hrest329
                case hy329 => have q0 := hSx.cell x0 (by simp); have q1 := hSx.cell x1 (by simp); have q2 := hSx.cell x2 (by simp); go_simp; (try with_reducible rfl)
                simp only [Act.put, List.getElem_toArray, List.getElem_cons_succ, List.getElem_cons_zero, List.setIfInBounds_toArray, List.set_cons_zero, List.set_cons_succ]
                refine takeH 26 (v := ?vv332) rfl (by kernel_rfl) (by kernel_rfl) (by kernel_rfl) (fun _ _ _ h => h) (by kernel_rfl) (fun Wx hSx => ?hy332) (by assumption) ?hrest332
                case hy332 => go_simp; (try with_reducible rfl)
                simp only [Act.put, List.getElem_toArray, List.getElem_cons_succ, List.getElem_cons_zero, List.setIfInBounds_toArray, List.set_cons_zero, List.set_cons_succ]
                refine wpAnyH_done (by kernel_rfl) ?_ _
                simp only [cutQ]
                have b9 := hHeld.at_ b9 (by simp)
                have b11 := hHeld.at_ b11 (by simp)
                have hD8 := hD7.trans hHeld
                have hh := k3 _ hD8
                clear x0 x1 x2 y0 y1 y2 c0 c1 k2x k3 o1
                obtain ⟨x0, x1, x2⟩ := prBlk b9
                obtain ⟨y0, y1, y2⟩ := prBlk b11
                obtain ⟨hb, hhb⟩ : ∃ hb, hasP L pr = hb := ⟨_, rfl⟩
                rw [hhb] at hh
                have HH := Lib.hid hhb
                clear hhb
                have fin := hC3.trans hD8
                cases hb with
                | false =>
                  go_wp2_with fail
                  refine hh.mono ?_
                  rintro e V3 ⟨rfl, rfl⟩
                  clear hh
                  go_wp2_with fail
                  refine (alive8 _).mono ?_
                  rintro e W8 ⟨rfl, hD9⟩
                  go_wp2_with fail
                  go_ret
                  exact ⟨rfl, fin.trans hD9⟩
                | true =>
                  by_cases hve : qq.v = x.v
                  · have z4 : (qq.v == x.v) = true := by simpa using hve
                    have z5 : decide (qq.o < x.o) = false := decide_eq_false (by have := A5.out ((has_ps L pr).1 HH.out) hve; omega)
                    clear hve
                    go_wp2_with fail
                    refine hh.mono ?_
                    rintro e V3 ⟨rfl, rfl⟩
                    clear hh
                    go_wp2_with fail
                    refine (alive8 _).mono ?_
                    rintro e W8 ⟨rfl, hD9⟩
                    go_wp2_with fail
                    go_ret
                    exact ⟨rfl, fin.trans hD9⟩
                  · have z4 : (qq.v == x.v) = false := by simpa using hve
                    clear hve
                    go_wp2_with fail
                    refine hh.mono ?_
                    rintro e V3 ⟨rfl, rfl⟩
                    clear hh
                    go_wp2_with fail
                    refine (alive8 _).mono ?_
                    rintro e W8 ⟨rfl, hD9⟩
                    go_wp2_with fail
                    go_ret
                    exact ⟨rfl, fin.trans hD9⟩
end Go.Proofs.YtdcjfaplgpeonaaGreat
