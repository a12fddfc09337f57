/-
  The price that is chosen of all stays: the law's own walk.
-/
import Derived.Test.YtdcjfaplgpeonaaGreatQn
namespace Go.Proofs.YtdcjfaplgpeonaaGreat
open Go.RowKit Go.Dm
attribute [local go_sem] Oper.semAt_some

set_option maxRecDepth 100000 in
set_option maxHeartbeats 16000000 in
theorem stays6 (w : World) (A : Option Addr) (cap : Nat) (l : List Ord) (h : OrdsAt w A l) (r lo hi : Int) :
    Calls Tryz.prog 6 #[.slice A l.length cap, .int .i64 r, bdV lo hi] w fun e w' => e = .returned (.bool true) ∧ Chg [] w w' := by
  have hA1 := Chg.alloc [] w (.cells #[.int .i64 lo, .int .i64 hi] 32)
  have b5 := heap_alloc_new w (.cells #[.int .i64 lo, .int .i64 hi] 32)
  obtain ⟨W0, eW0⟩ : ∃ W0, w.alloc (.cells #[.int .i64 lo, .int .i64 hi] 32) = W0 := ⟨_, rfl⟩
  rw [eW0] at hA1 b5
  by_cases hbig : l.length > 60
  · have t1 : decide ((l.length : Int) > 60) = true := decide_eq_true (by omega)
    clear hbig h
    unfold bdV
    go_enter Tryz.func6, Tryz.ntmps6
    go_wp2_with fail
    refine (alive8 _).mono ?_
    rintro e w' ⟨rfl, hC⟩
    go_wp2_with fail
    go_ret
    exact ⟨rfl, hA1.trans hC⟩
  · have t1 : decide ((l.length : Int) > 60) = false := decide_eq_false (by omega)
    have hA2 := Chg.alloc [] W0 (.cells #[.int .i64 r] 2)
    have b6 := heap_alloc_new W0 (.cells #[.int .i64 r] 2)
    have hpr := priced_at _ W0.heap.size 1 [r] _ b6 (fun k x hx => by
      match k, hx with
      | 0, hx => simp at hx; subst hx; rfl
      | k + 1, hx => simp at hx) (by simp)
    obtain ⟨W1, eW1⟩ : ∃ W1, W0.alloc (.cells #[.int .i64 r] 2) = W1 := ⟨_, rfl⟩
    rw [eW1] at hpr hA2
    have b5 := hA2.at_ b5 (by simp)
    have hC1 := hA1.trans hA2
    clear b6 hA2 hA1
    obtain ⟨bb, hbb⟩ : ∃ bb, [r].all (fun x => decide (0 ≤ x) && decide (x ≤ 1099511627776)) = bb := ⟨_, rfl⟩
    rw [hbb] at hpr
    have HB := Lib.hid hbb
    clear hbb
    simp only [List.length_cons, List.length_nil, Nat.zero_add] at hpr
    obtain ⟨c0, c1⟩ := blk2 b5
    cases bb with
    | false =>
      clear hbig h
      unfold bdV
      go_enter Tryz.func6, Tryz.ntmps6
      go_wp2_with fail
      refine hpr.mono ?_
      rintro e w' ⟨rfl, rfl⟩
      clear hpr
      go_wp2_with fail
      refine (alive8 _).mono ?_
      rintro e w' ⟨rfl, hC⟩
      go_wp2_with fail
      go_ret
      exact ⟨rfl, hC1.trans hC⟩
    | true =>
      by_cases g1 : lo < 1
      · have qg1 : decide (lo < 1) = true := decide_eq_true g1
        clear g1 hbig h
        unfold bdV
        go_enter Tryz.func6, Tryz.ntmps6
        go_wp2_with fail
        refine hpr.mono ?_
        rintro e w' ⟨rfl, rfl⟩
        clear hpr
        go_wp2_with fail
        refine (alive8 _).mono ?_
        rintro e w' ⟨rfl, hC⟩
        go_wp2_with fail
        go_ret
        exact ⟨rfl, hC1.trans hC⟩
      · have qg1 : decide (lo < 1) = false := decide_eq_false g1
        by_cases g2 : hi > 1099511627776
        · have qg2 : decide (hi > 1099511627776) = true := decide_eq_true g2
          clear g2 hbig h
          unfold bdV
          go_enter Tryz.func6, Tryz.ntmps6
          go_wp2_with fail
          refine hpr.mono ?_
          rintro e w' ⟨rfl, rfl⟩
          clear hpr
          go_wp2_with fail
          refine (alive8 _).mono ?_
          rintro e w' ⟨rfl, hC⟩
          go_wp2_with fail
          go_ret
          exact ⟨rfl, hC1.trans hC⟩
        · have qg2 : decide (hi > 1099511627776) = false := decide_eq_false g2
          by_cases g3 : r < lo
          · have qg3 : decide (r < lo) = true := decide_eq_true g3
            clear g3 hbig h
            unfold bdV
            go_enter Tryz.func6, Tryz.ntmps6
            go_wp2_with fail
            refine hpr.mono ?_
            rintro e w' ⟨rfl, rfl⟩
            clear hpr
            go_wp2_with fail
            refine (alive8 _).mono ?_
            rintro e w' ⟨rfl, hC⟩
            go_wp2_with fail
            go_ret
            exact ⟨rfl, hC1.trans hC⟩
          · have qg3 : decide (r < lo) = false := decide_eq_false g3
            by_cases g4 : r > hi
            · have qg4 : decide (r > hi) = true := decide_eq_true g4
              clear g4 hbig h
              unfold bdV
              go_enter Tryz.func6, Tryz.ntmps6
              go_wp2_with fail
              refine hpr.mono ?_
              rintro e w' ⟨rfl, rfl⟩
              clear hpr
              go_wp2_with fail
              refine (alive8 _).mono ?_
              rintro e w' ⟨rfl, hC⟩
              go_wp2_with fail
              go_ret
              exact ⟨rfl, hC1.trans hC⟩
            · have qg4 : decide (r > hi) = false := decide_eq_false g4
              have hr : InP r := priced_in HB.out _ (by simp)
              have hlen : l.length ≤ 60 := by omega
              have hOk := book_ok hlen
              have hO1 : OrdsAt W1 A l := by
                rcases h with h | ⟨b, off, e, hb, hc⟩
                · exact .inl h
                · exact .inr ⟨b, off, e, Nat.lt_of_lt_of_le hb hC1.size, fun i o ho j hj => hC1.cell (hc i o ho j hj) (by simp)⟩
              have hbk := books42 W1 A cap l hO1 hlen
              clear hbig h hO1
              unfold bdV
              go_enter Tryz.func6, Tryz.ntmps6
              go_wp2_with fail
              refine hpr.mono ?_
              rintro e w' ⟨rfl, rfl⟩
              clear hpr
              go_wp2_with fail
              refine hbk.mono ?_
              rintro e W2 ⟨B, rb, rfl, ⟨lv0, lv1, v0, v1, hP⟩, hR, hC2, _⟩
              obtain ⟨L, hL⟩ : ∃ L, bookL l = L := ⟨_, rfl⟩
              rw [hL] at hP hR hOk
              have b5 := hC2.at_ b5 (by simp)
              have hC3 := hC1.trans hC2
              have hds := ds_ok hOk.qty
              clear c0 c1 hbk hL hC1 hC2
              have k1 := free_pb W2 hP hOk r hr
              have k2 := fun W (hW : Chg [] W2 W) => choose13 W (hP.apart hW) hOk r lo hi hr
              have hst := stays_eq (ps := psO L) (D := dO L) (S := sO L) (r := r) (lo := lo) (hi := hi) (by omega) (by omega) (by omega) (by omega)
              obtain ⟨⟨y, by_⟩, hy⟩ : ∃ y, chooseL (psO L) (dO L) (sO L) r 1 1099511627776 = y := ⟨_, rfl⟩
              rw [hy] at k1 hst
              have HS := Lib.hid hst
              clear hy hst hP hR hds
              unfold chV prV bdV at *
              go_wp2_with fail
              refine k1.mono ?_
              rintro e W4 ⟨rfl, hD4⟩
              have hA5 := Chg.alloc [] W4 (.cells #[.int .i64 y.p, .int .i64 y.v, .int .i64 y.o] 27)
              have b9 := heap_alloc_new W4 (.cells #[.int .i64 y.p, .int .i64 y.v, .int .i64 y.o] 27)
              obtain ⟨W5, eW5⟩ : ∃ W5, W4.alloc (.cells #[.int .i64 y.p, .int .i64 y.v, .int .i64 y.o] 27) = W5 := ⟨_, rfl⟩
              rw [eW5] at hA5 b9
              have hD5 := hD4.trans hA5
              have b5 := hD5.at_ b5 (by simp)
              have fin := hC3.trans hD5
              obtain ⟨c0, c1⟩ := blk2 b5
              obtain ⟨x0, x1, x2⟩ := prBlk b9
              clear hA5 hD4 k1
              cases by_ with
              | false =>
                go_wp2_with fail
                refine (alive8 _).mono ?_
                rintro e W8 ⟨rfl, hD9⟩
                go_wp2_with fail
                go_ret
                exact ⟨rfl, fin.trans hD9⟩
              | true =>
                by_cases g5 : y.p < lo
                · have q5 : decide (y.p < lo) = true := decide_eq_true g5
                  clear g5
                  go_wp2_with fail
                  refine (alive8 _).mono ?_
                  rintro e W8 ⟨rfl, hD9⟩
                  go_wp2_with fail
                  go_ret
                  exact ⟨rfl, fin.trans hD9⟩
                · have q5 : decide (y.p < lo) = false := decide_eq_false g5
                  by_cases g6 : y.p > hi
                  · have q6 : decide (y.p > hi) = true := decide_eq_true g6
                    clear g5 g6
                    go_wp2_with fail
                    refine (alive8 _).mono ?_
                    rintro e W8 ⟨rfl, hD9⟩
                    go_wp2_with fail
                    go_ret
                    exact ⟨rfl, fin.trans hD9⟩
                  · have q6 : decide (y.p > hi) = false := decide_eq_false g6
                    have k3 := k2 W5 hD5
                    rw [HS.out rfl (by show lo ≤ y.p; omega) (by show y.p ≤ hi; omega)] at k3
                    simp only at k3
                    have e2 : ∀ n : Int, (n == n) = true := fun n => by simp
                    clear g5 g6 k2
                    go_wp2_with fail
                    refine k3.mono ?_
                    rintro e W6 ⟨rfl, hD6⟩
                    have hA7 := Chg.alloc [] W6 (.cells #[.int .i64 y.p, .int .i64 y.v, .int .i64 y.o] 27)
                    have b11 := heap_alloc_new W6 (.cells #[.int .i64 y.p, .int .i64 y.v, .int .i64 y.o] 27)
                    obtain ⟨W7, eW7⟩ : ∃ W7, W6.alloc (.cells #[.int .i64 y.p, .int .i64 y.v, .int .i64 y.o] 27) = W7 := ⟨_, rfl⟩
                    rw [eW7] at hA7 b11
                    have b9 := (hD6.trans hA7).at_ b9 (by simp)
                    have fin := (fin.trans hD6).trans hA7
                    clear x0 x1 x2 c0 c1 k3
                    obtain ⟨x0, x1, x2⟩ := prBlk b9
                    obtain ⟨y0, y1, y2⟩ := prBlk b11
                    go_wp2_with fail
                    refine (alive8 _).mono ?_
                    rintro e W8 ⟨rfl, hD9⟩
                    go_wp2_with fail
                    go_ret
                    exact ⟨rfl, fin.trans hD9⟩
end Go.Proofs.YtdcjfaplgpeonaaGreat
