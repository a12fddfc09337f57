/-
  Which prices are allowed and which one is chosen: the law's own walk.
-/
import Derived.Test.YtdcjfaplgpeonaaGreatQm
import Derived.Test.YtdcjfaplgpeonaaGreatQk
namespace Go.Proofs.YtdcjfaplgpeonaaGreat
open Go.RowKit Go.Dm
attribute [local go_sem] Oper.semAt_some

/-- How demand and supply of some orders go. -/
theorem ds_ok {L : List Ord} (hq : QtyOk L) : DSok (psO L) (dO L) (sO L) := by
  have nn : ∀ f : Ord → Bool, ∀ sd, 0 ≤ sumO ((sdO L sd).filter f) := fun f sd => (sumO_le (hq.sub (fun o ho => sdO_sub o (List.mem_filter.1 ho).1))).1
  have mem : ∀ {sd : Int} {o : Ord}, o ∈ sdO L sd → o 3 ∈ psO L := fun ho => List.mem_map.2 ⟨_, sdO_sub _ ho, rfl⟩
  refine ⟨fun p => nn _ 0, fun p => nn _ 1, fun p q h => ?_, fun p q h => ?_, fun p q h hno => ?_, fun p q h hno => ?_⟩
  · have h1 := sumO_split (sdO L 0) (fun o => decide (p ≤ o 3)) (fun o => decide (q ≤ o 3)) (fun o => decide (p ≤ o 3 ∧ o 3 < q)) (fun o _ => by rw [Bool.eq_iff_iff]; simp only [decide_eq_true_eq, Bool.or_eq_true]; omega) (fun o _ => by simp only [decide_eq_true_eq]; omega)
    have h2 := nn (fun o => decide (p ≤ o 3 ∧ o 3 < q)) 0
    unfold dO demO
    omega
  · have h1 := sumO_split (sdO L 1) (fun o => decide (o 3 ≤ q)) (fun o => decide (o 3 ≤ p)) (fun o => decide (p < o 3 ∧ o 3 ≤ q)) (fun o _ => by rw [Bool.eq_iff_iff]; simp only [decide_eq_true_eq, Bool.or_eq_true]; omega) (fun o _ => by simp only [decide_eq_true_eq]; omega)
    have h2 := nn (fun o => decide (p < o 3 ∧ o 3 ≤ q)) 1
    unfold sO supO
    omega
  · unfold dO demO
    congr 1
    refine List.filter_congr fun o ho => ?_
    rw [decide_eq_decide]
    have := hno _ (mem ho)
    omega
  · unfold sO supO
    congr 1
    refine List.filter_congr fun o ho => ?_
    rw [decide_eq_decide]
    have := hno _ (mem ho)
    omega

set_option maxRecDepth 100000 in
set_option maxHeartbeats 16000000 in
theorem chooses4 (w : World) (A : Option Addr) (cap : Nat) (l : List Ord) (h : OrdsAt w A l) (r lo hi : Int) :
    Calls Tryz.prog 4 #[.slice A l.length cap, .int .i64 r, bdV lo hi] w fun e w' => e = .returned (.bool true) ∧ Chg [] w w' := by
  have hA1 := Chg.alloc [] w (.cells #[.int .i64 lo, .int .i64 hi] 32)
  have b5 := heap_alloc_new w (.cells #[.int .i64 lo, .int .i64 hi] 32)
  obtain ⟨W0, eW0⟩ : ∃ W0, w.alloc (.cells #[.int .i64 lo, .int .i64 hi] 32) = W0 := ⟨_, rfl⟩
  rw [eW0] at hA1 b5
  by_cases hbig : l.length > 60
  · have t1 : decide ((l.length : Int) > 60) = true := decide_eq_true (by omega)
    clear hbig h
    unfold bdV
    go_enter Tryz.func4, Tryz.ntmps4
    go_wp2_with fail
    refine (alive8 _).mono ?_
    rintro e w' ⟨rfl, hC⟩
    go_wp2_with fail
    go_ret
    exact ⟨rfl, hA1.trans hC⟩
  · have t1 : decide ((l.length : Int) > 60) = false := decide_eq_false (by omega)
    have hA2 := Chg.alloc [] W0 (.cells #[.int .i64 r] 2)
    have b6 := heap_alloc_new W0 (.cells #[.int .i64 r] 2)
    have hpr := priced_at _ W0.heap.size 1 [r] _ b6 (fun k x hx => by
      match k, hx with
      | 0, hx => simp at hx; subst hx; rfl
      | k + 1, hx => simp at hx) (by simp)
    obtain ⟨W1, eW1⟩ : ∃ W1, W0.alloc (.cells #[.int .i64 r] 2) = W1 := ⟨_, rfl⟩
    rw [eW1] at hpr hA2
    have b5 := hA2.at_ b5 (by simp)
    have hC1 := hA1.trans hA2
    clear b6 hA2 hA1
    obtain ⟨bb, hbb⟩ : ∃ bb, [r].all (fun x => decide (0 ≤ x) && decide (x ≤ 1099511627776)) = bb := ⟨_, rfl⟩
    rw [hbb] at hpr
    have HB := Lib.hid hbb
    clear hbb
    simp only [List.length_cons, List.length_nil, Nat.zero_add] at hpr
    cases bb with
    | false =>
      clear hbig h
      unfold bdV
      go_enter Tryz.func4, Tryz.ntmps4
      go_wp2_with fail
      refine hpr.mono ?_
      rintro e w' ⟨rfl, rfl⟩
      clear hpr
      go_wp2_with fail
      refine (alive8 _).mono ?_
      rintro e w' ⟨rfl, hC⟩
      go_wp2_with fail
      go_ret
      exact ⟨rfl, hC1.trans hC⟩
    | true =>
      have hr : InP r := priced_in HB.out _ (by simp)
      have hlen : l.length ≤ 60 := by omega
      have hOk := book_ok hlen
      have hO1 : OrdsAt W1 A l := by
        rcases h with h | ⟨b, off, e, hb, hc⟩
        · exact .inl h
        · exact .inr ⟨b, off, e, Nat.lt_of_lt_of_le hb hC1.size, fun i o ho j hj => hC1.cell (hc i o ho j hj) (by simp)⟩
      have hbk := books42 W1 A cap l hO1 hlen
      clear hbig h hO1
      unfold bdV
      go_enter Tryz.func4, Tryz.ntmps4
      go_wp2_with fail
      refine hpr.mono ?_
      rintro e w' ⟨rfl, rfl⟩
      clear hpr
      go_wp2_with fail
      refine hbk.mono ?_
      rintro e W2 ⟨B, rb, rfl, ⟨lv0, lv1, v0, v1, hP⟩, hR, hC2, _⟩
      obtain ⟨L, hL⟩ : ∃ L, bookL l = L := ⟨_, rfl⟩
      rw [hL] at hP hR hOk
      have b5 := hC2.at_ b5 (by simp)
      have hC3 := hC1.trans hC2
      have k1 := fun W (hW : Chg [] W2 W) => choose13 W (hP.apart hW) hOk r lo hi hr
      have k2 := fun W (hW : Chg [] W2 W) => rchoose14 W rb L (hR.chg hW (by simp) (by simp)) hOk r lo hi hr
      have k3 := fun W (hW : Chg [] W2 W) => free_pb W (hP.apart hW) hOk r hr
      have k4 := fun W (hW : Chg [] W2 W) => rfree16 W rb L (hR.chg hW (by simp) (by simp)) hOk r hr
      have k5 := fun W => free_nil W r
      obtain ⟨zp, hzp⟩ : ∃ zp : Pr, (⟨0, 0, 0⟩ : Pr) = zp := ⟨_, rfl⟩
      simp only [hzp] at k5
      clear hzp
      have k6 := fun W (hW : Chg [] W2 W) => allowed18 W (hP.apart hW) hOk r lo hi
      have k7 := fun W (hW : Chg [] W2 W) => rallowed19 W rb L (hR.chg hW (by simp) (by simp)) hOk.len r lo hi
      have k8 := fun W => allowed18_nil W r lo hi
      have hal := allowB_len L r lo hi
      have hll := hOk.len
      obtain ⟨al, hal2⟩ : ∃ al, allowB L r lo hi = al := ⟨_, rfl⟩
      rw [hal2] at k6 k7 hal
      obtain ⟨⟨x, bx⟩, hx⟩ : ∃ x, chooseL (psO L) (dO L) (sO L) r lo hi = x := ⟨_, rfl⟩
      obtain ⟨⟨y, by_⟩, hy⟩ : ∃ y, chooseL (psO L) (dO L) (sO L) r 1 1099511627776 = y := ⟨_, rfl⟩
      simp only [hx] at k1 k2
      simp only [hy] at k3 k4
      clear hx hy hal2 hbk hP hR hOk hL hC1 hC2
      unfold chV prV bdV at *
      obtain ⟨c0, c1⟩ := blk2 b5
      go_wp2_with fail
      refine (k1 W2 (Chg.refl _ _)).mono ?_
      rintro e W4 ⟨rfl, hD4⟩
      have hA5 := Chg.alloc [] W4 (.cells #[.int .i64 x.p, .int .i64 x.v, .int .i64 x.o] 27)
      have b9 := heap_alloc_new W4 (.cells #[.int .i64 x.p, .int .i64 x.v, .int .i64 x.o] 27)
      obtain ⟨W5, eW5⟩ : ∃ W5, W4.alloc (.cells #[.int .i64 x.p, .int .i64 x.v, .int .i64 x.o] 27) = W5 := ⟨_, rfl⟩
      rw [eW5] at hA5 b9
      have hD5 := hD4.trans hA5
      clear c0 c1 hA5 hD4
      obtain ⟨c0, c1⟩ := blk2 (hD5.at_ b5 (by simp))
      go_wp2_with fail
      refine (k2 W5 hD5).mono ?_
      rintro e W6 ⟨rfl, hD6⟩
      have hA7 := Chg.alloc [] W6 (.cells #[.int .i64 x.p, .int .i64 x.v, .int .i64 x.o] 23)
      have b11 := heap_alloc_new W6 (.cells #[.int .i64 x.p, .int .i64 x.v, .int .i64 x.o] 23)
      obtain ⟨W7, eW7⟩ : ∃ W7, W6.alloc (.cells #[.int .i64 x.p, .int .i64 x.v, .int .i64 x.o] 23) = W7 := ⟨_, rfl⟩
      rw [eW7] at hA7 b11
      have b9 := (hD6.trans hA7).at_ b9 (by simp)
      have hD7 := (hD5.trans hD6).trans hA7
      clear c0 c1 hA7 hD6 hD5 eW5
      go_wp2_with fail
      refine (k3 W7 hD7).mono ?_
      rintro e W8 ⟨rfl, hD8⟩
      have hA9 := Chg.alloc [] W8 (.cells #[.int .i64 y.p, .int .i64 y.v, .int .i64 y.o] 27)
      have b13 := heap_alloc_new W8 (.cells #[.int .i64 y.p, .int .i64 y.v, .int .i64 y.o] 27)
      obtain ⟨W9, eW9⟩ : ∃ W9, W8.alloc (.cells #[.int .i64 y.p, .int .i64 y.v, .int .i64 y.o] 27) = W9 := ⟨_, rfl⟩
      rw [eW9] at hA9 b13
      have b9 := (hD8.trans hA9).at_ b9 (by simp)
      have b11 := (hD8.trans hA9).at_ b11 (by simp)
      have hD9 := (hD7.trans hD8).trans hA9
      clear hA9 hD8 hD7 eW7
      go_wp2_with fail
      refine (k4 W9 hD9).mono ?_
      rintro e W10 ⟨rfl, hD10⟩
      have hA11 := Chg.alloc [] W10 (.cells #[.int .i64 y.p, .int .i64 y.v, .int .i64 y.o] 23)
      have b15 := heap_alloc_new W10 (.cells #[.int .i64 y.p, .int .i64 y.v, .int .i64 y.o] 23)
      obtain ⟨W11, eW11⟩ : ∃ W11, W10.alloc (.cells #[.int .i64 y.p, .int .i64 y.v, .int .i64 y.o] 23) = W11 := ⟨_, rfl⟩
      rw [eW11] at hA11 b15
      have b9 := (hD10.trans hA11).at_ b9 (by simp)
      have b11 := (hD10.trans hA11).at_ b11 (by simp)
      have b13 := (hD10.trans hA11).at_ b13 (by simp)
      have hD11 := (hD9.trans hD10).trans hA11
      clear hA11 hD10 hD9 eW9
      go_wp2_with fail
      refine (k5 W11).mono ?_
      rintro e W12 ⟨rfl, hD12⟩
      have hA13 := Chg.alloc [] W12 (.cells #[.int .i64 zp.p, .int .i64 zp.v, .int .i64 zp.o] 27)
      obtain ⟨W13, eW13⟩ : ∃ W13, W12.alloc (.cells #[.int .i64 zp.p, .int .i64 zp.v, .int .i64 zp.o] 27) = W13 := ⟨_, rfl⟩
      rw [eW13] at hA13
      have b9 := (hD12.trans hA13).at_ b9 (by simp)
      have b11 := (hD12.trans hA13).at_ b11 (by simp)
      have b13 := (hD12.trans hA13).at_ b13 (by simp)
      have b15 := (hD12.trans hA13).at_ b15 (by simp)
      have hD13 := (hD11.trans hD12).trans hA13
      have b5 := hD13.at_ b5 (by simp)
      clear hA13 hD12 hD11 eW11
      go_wp2_with fail
      clear eW13 k1 k2 k3 k4 k5
      obtain ⟨c0, c1⟩ := blk2 b5
      obtain ⟨x0, x1, x2⟩ := prBlk b9
      obtain ⟨y0, y1, y2⟩ := prBlk b11
      obtain ⟨z0, z1, z2⟩ := prBlk b13
      obtain ⟨u0, u1, u2⟩ := prBlk b15
      have hCC := hC3.trans hD13
      have o1 := fun W => own10 W x
      have o2 := fun W => own10 W y
      have e1 : ∀ b : Bool, (b == b) = true := fun b => by simp
      have e2 : ∀ n : Int, (n == n) = true := fun n => by simp
      unfold prV at o1 o2
      clear b5 b9 b11 b13 b15 hC3
      refine wp_cutR (Chg [] W13) 45 (by kernel_rfl) (by kernel_rfl) (fun _ h => Chg.nil h) (fun W hW hS => ?_)
      simp only [List.take_succ_cons, List.take_zero, List.drop_succ_cons, List.drop_zero]
      refine takeH 0 (v := ?vv203) rfl (by kernel_rfl) (by kernel_rfl) (by kernel_rfl) (fun _ _ _ h => h) (by kernel_rfl) (fun Wx hSx => ?hy203) (by assumption) ?hrest203
      case hy203 => have q0 := hSx.cell x0 (by simp); have q1 := hSx.cell x1 (by simp); have q2 := hSx.cell x2 (by simp); go_simp; (try with_reducible rfl)
      simp only [Act.put, List.getElem_toArray, List.getElem_cons_zero, List.setIfInBounds_toArray, List.set_cons_zero, List.set_cons_succ]
      refine takeH 1 (v := ?vv206) rfl (by kernel_rfl) (by kernel_rfl) (by kernel_rfl) (fun _ _ _ h => h) (by kernel_rfl) (fun Wx hSx => ?hy206) (by assumption) ?hrest206
      case hy206 => have q0 := hSx.cell y0 (by simp); have q1 := hSx.cell y1 (by simp); have q2 := hSx.cell y2 (by simp); go_simp; (try with_reducible rfl)
      simp only [Act.put, List.getElem_toArray, List.getElem_cons_succ, List.getElem_cons_zero, List.setIfInBounds_toArray, List.set_cons_zero, List.set_cons_succ]
      refine wpAnyH_ready (rs := [2]) (by kernel_rfl) (by simp) ?_
      refine (AllReadyH.cons rfl (fun K hK => ?_) AllReadyH.nil)
      all_goals try simp only [List.getElem_toArray, List.getElem_cons_succ, List.getElem_cons_zero]
      go_simp
      refine (o1 W).mono ?_
      rintro e V1 ⟨rfl, hK1⟩
      go_simp
      refine hK.out _ _ (hS.trans hK1) (fun hHeld => ?_)
      clear hK K
      try simp only [Act.put, List.getElem_toArray, List.getElem_cons_succ, List.getElem_cons_zero, List.setIfInBounds_toArray, List.set_cons_zero, List.set_cons_succ]
      refine takeH 3 (v := ?vv219) rfl (by kernel_rfl) (by kernel_rfl) (by kernel_rfl) (fun _ _ _ h => h) (by kernel_rfl) (fun Wx hSx => ?hy219) (by assumption) ?hrest219
      case hy219 => go_simp; (try with_reducible rfl)
      simp only [Act.put, List.getElem_toArray, List.getElem_cons_succ, List.getElem_cons_zero, List.setIfInBounds_toArray, List.set_cons_zero, List.set_cons_succ]
      refine takeH 4 (v := ?vv222) rfl (by kernel_rfl) (by kernel_rfl) (by kernel_rfl) (fun _ _ _ h => h) (by kernel_rfl) (fun Wx hSx => ?hy222) (by assumption) ?hrest222
      case hy222 => go_simp; (try with_reducible rfl)
      simp only [Act.put, List.getElem_toArray, List.getElem_cons_succ, List.getElem_cons_zero, List.setIfInBounds_toArray, List.set_cons_zero, List.set_cons_succ]
      refine takeH 5 (v := ?vv225) rfl (by kernel_rfl) (by kernel_rfl) (by kernel_rfl) (fun _ _ _ h => h) (by kernel_rfl) (fun Wx hSx => ?hy225) (by assumption) ?hrest225
      case hy225 => go_simp; (try with_reducible rfl)
      simp only [Act.put, List.getElem_toArray, List.getElem_cons_succ, List.getElem_cons_zero, List.setIfInBounds_toArray, List.set_cons_zero, List.set_cons_succ]
      refine takeH 6 (v := ?vv228) rfl (by kernel_rfl) (by kernel_rfl) (by kernel_rfl) (fun _ _ _ h => h) (by kernel_rfl) (fun Wx hSx => ?hy228) (by assumption) ?hrest228
      case hy228 => go_simp; (try with_reducible rfl)
      simp only [Act.put, List.getElem_toArray, List.getElem_cons_succ, List.getElem_cons_zero, List.setIfInBounds_toArray, List.set_cons_zero, List.set_cons_succ]
      refine takeH 7 (v := ?vv231) rfl (by kernel_rfl) (by kernel_rfl) (by kernel_rfl) (fun _ _ _ h => h) (by kernel_rfl) (fun Wx hSx => ?hy231) (by assumption) ?hrest231
      case hy231 => go_simp; (try with_reducible rfl)
      simp only [Act.put, List.getElem_toArray, List.getElem_cons_succ, List.getElem_cons_zero, List.setIfInBounds_toArray, List.set_cons_zero, List.set_cons_succ]
      refine takeH 8 (v := ?vv234) rfl (by kernel_rfl) (by kernel_rfl) (by kernel_rfl) (fun _ _ _ h => h) (by kernel_rfl) (fun Wx hSx => ?hy234) (by assumption) ?hrest234
      case hy234 => go_simp; (try with_reducible rfl)
      simp only [Act.put, List.getElem_toArray, List.getElem_cons_succ, List.getElem_cons_zero, List.setIfInBounds_toArray, List.set_cons_zero, List.set_cons_succ]
      refine takeH 9 (v := ?vv237) rfl (by kernel_rfl) (by kernel_rfl) (by kernel_rfl) (fun _ _ _ h => h) (by kernel_rfl) (fun Wx hSx => ?hy237) (by assumption) ?hrest237
      case hy237 => go_simp; (try with_reducible rfl)
      simp only [Act.put, List.getElem_toArray, List.getElem_cons_succ, List.getElem_cons_zero, List.setIfInBounds_toArray, List.set_cons_zero, List.set_cons_succ]
      refine takeH 10 (v := ?vv240) rfl (by kernel_rfl) (by kernel_rfl) (by kernel_rfl) (fun _ _ _ h => h) (by kernel_rfl) (fun Wx hSx => ?hy240) (by assumption) ?hrest240
      case hy240 => have q0 := hSx.cell z0 (by simp); have q1 := hSx.cell z1 (by simp); have q2 := hSx.cell z2 (by simp); go_simp; (try with_reducible rfl)
      simp only [Act.put, List.getElem_toArray, List.getElem_cons_succ, List.getElem_cons_zero, List.setIfInBounds_toArray, List.set_cons_zero, List.set_cons_succ]
      refine takeH 11 (v := ?vv243) rfl (by kernel_rfl) (by kernel_rfl) (by kernel_rfl) (fun _ _ _ h => h) (by kernel_rfl) (fun Wx hSx => ?hy243) (by assumption) ?hrest243
      case hy243 => have q0 := hSx.cell u0 (by simp); have q1 := hSx.cell u1 (by simp); have q2 := hSx.cell u2 (by simp); go_simp; (try with_reducible rfl)
      simp only [Act.put, List.getElem_toArray, List.getElem_cons_succ, List.getElem_cons_zero, List.setIfInBounds_toArray, List.set_cons_zero, List.set_cons_succ]
      refine wpAnyH_ready (rs := [12]) (by kernel_rfl) (by simp) ?_
      refine (AllReadyH.cons rfl (fun K hK => ?_) AllReadyH.nil)
      all_goals try simp only [List.getElem_toArray, List.getElem_cons_succ, List.getElem_cons_zero]
      go_simp
      refine (o2 V1).mono ?_
      rintro e V2 ⟨rfl, hK2⟩
      go_simp
      refine hK.out _ _ (hHeld.trans hK2) (fun hHeld => ?_)
      clear hK K
      try simp only [Act.put, List.getElem_toArray, List.getElem_cons_succ, List.getElem_cons_zero, List.setIfInBounds_toArray, List.set_cons_zero, List.set_cons_succ]
      refine takeH 13 (v := ?vv256) rfl (by kernel_rfl) (by kernel_rfl) (by kernel_rfl) (fun _ _ _ h => h) (by kernel_rfl) (fun Wx hSx => ?hy256) (by assumption) ?hrest256
      case hy256 => go_simp; (try with_reducible rfl)
      simp only [Act.put, List.getElem_toArray, List.getElem_cons_succ, List.getElem_cons_zero, List.setIfInBounds_toArray, List.set_cons_zero, List.set_cons_succ]
      refine takeH 14 (v := ?vv259) rfl (by kernel_rfl) (by kernel_rfl) (by kernel_rfl) (fun _ _ _ h => h) (by kernel_rfl) (fun Wx hSx => ?hy259) (by assumption) ?hrest259
      case hy259 => go_simp; (try with_reducible rfl)
      simp only [Act.put, List.getElem_toArray, List.getElem_cons_succ, List.getElem_cons_zero, List.setIfInBounds_toArray, List.set_cons_zero, List.set_cons_succ]
      refine takeH 15 (v := ?vv262) rfl (by kernel_rfl) (by kernel_rfl) (by kernel_rfl) (fun _ _ _ h => h) (by kernel_rfl) (fun Wx hSx => ?hy262) (by assumption) ?hrest262
      case hy262 => go_simp; (try with_reducible rfl)
      simp only [Act.put, List.getElem_toArray, List.getElem_cons_succ, List.getElem_cons_zero, List.setIfInBounds_toArray, List.set_cons_zero, List.set_cons_succ]
      refine takeH 16 (v := ?vv265) rfl (by kernel_rfl) (by kernel_rfl) (by kernel_rfl) (fun _ _ _ h => h) (by kernel_rfl) (fun Wx hSx => ?hy265) (by assumption) ?hrest265
      case hy265 => go_simp; (try with_reducible rfl)
      simp only [Act.put, List.getElem_toArray, List.getElem_cons_succ, List.getElem_cons_zero, List.setIfInBounds_toArray, List.set_cons_zero, List.set_cons_succ]
      refine takeH 17 (v := ?vv268) rfl (by kernel_rfl) (by kernel_rfl) (by kernel_rfl) (fun _ _ _ h => h) (by kernel_rfl) (fun Wx hSx => ?hy268) (by assumption) ?hrest268
      case hy268 => go_simp; (try with_reducible rfl)
      simp only [Act.put, List.getElem_toArray, List.getElem_cons_succ, List.getElem_cons_zero, List.setIfInBounds_toArray, List.set_cons_zero, List.set_cons_succ]
      refine takeH 18 (v := ?vv271) rfl (by kernel_rfl) (by kernel_rfl) (by kernel_rfl) (fun _ _ _ h => h) (by kernel_rfl) (fun Wx hSx => ?hy271) (by assumption) ?hrest271
      case hy271 => go_simp; (try with_reducible rfl)
      simp only [Act.put, List.getElem_toArray, List.getElem_cons_succ, List.getElem_cons_zero, List.setIfInBounds_toArray, List.set_cons_zero, List.set_cons_succ]
      refine takeH 19 (v := ?vv274) rfl (by kernel_rfl) (by kernel_rfl) (by kernel_rfl) (fun _ _ _ h => h) (by kernel_rfl) (fun Wx hSx => ?hy274) (by assumption) ?hrest274
      case hy274 => go_simp; (try with_reducible rfl)
      simp only [Act.put, List.getElem_toArray, List.getElem_cons_succ, List.getElem_cons_zero, List.setIfInBounds_toArray, List.set_cons_zero, List.set_cons_succ]
      refine takeH 20 (v := ?vv277) rfl (by kernel_rfl) (by kernel_rfl) (by kernel_rfl) (fun _ _ _ h => h) (by kernel_rfl) (fun Wx hSx => ?hy277) (by assumption) ?hrest277
      case hy277 => go_simp; (try with_reducible rfl)
      simp only [Act.put, List.getElem_toArray, List.getElem_cons_succ, List.getElem_cons_zero, List.setIfInBounds_toArray, List.set_cons_zero, List.set_cons_succ]
      refine takeH 21 (v := ?vv280) rfl (by kernel_rfl) (by kernel_rfl) (by kernel_rfl) (fun _ _ _ h => h) (by kernel_rfl) (fun Wx hSx => ?hy280) (by assumption) ?hrest280
      case hy280 => go_simp; (try with_reducible rfl)
      simp only [Act.put, List.getElem_toArray, List.getElem_cons_succ, List.getElem_cons_zero, List.setIfInBounds_toArray, List.set_cons_zero, List.set_cons_succ]
      refine takeH 22 (v := ?vv283) rfl (by kernel_rfl) (by kernel_rfl) (by kernel_rfl) (fun _ _ _ h => h) (by kernel_rfl) (fun Wx hSx => ?hy283) (by assumption) ?hrest283
      case hy283 => go_simp; (try with_reducible rfl)
      simp only [Act.put, List.getElem_toArray, List.getElem_cons_succ, List.getElem_cons_zero, List.setIfInBounds_toArray, List.set_cons_zero, List.set_cons_succ]
      refine takeH 23 (v := ?vv286) rfl (by kernel_rfl) (by kernel_rfl) (by kernel_rfl) (fun _ _ _ h => h) (by kernel_rfl) (fun Wx hSx => ?hy286) (by assumption) ?hrest286
      case hy286 => have q0 := hSx.cell c0 (by simp); have q1 := hSx.cell c1 (by simp); go_simp; (try with_reducible rfl)
      simp only [Act.put, List.getElem_toArray, List.getElem_cons_succ, List.getElem_cons_zero, List.setIfInBounds_toArray, List.set_cons_zero, List.set_cons_succ]
      refine takeH 25 (v := ?vv289) rfl (by kernel_rfl) (by kernel_rfl) (by kernel_rfl) (fun _ _ _ h => h) (by kernel_rfl) (fun Wx hSx => ?hy289) (by assumption) ?hrest289
      case hy289 => go_simp; (try with_reducible rfl)
      simp only [Act.put, List.getElem_toArray, List.getElem_cons_succ, List.getElem_cons_zero, List.setIfInBounds_toArray, List.set_cons_zero, List.set_cons_succ]
      refine takeH 26 (v := ?vv292) rfl (by kernel_rfl) (by kernel_rfl) (by kernel_rfl) (fun _ _ _ h => h) (by kernel_rfl) (fun Wx hSx => ?hy292) (by assumption) ?hrest292
      case hy292 => go_simp; (try with_reducible rfl)
      simp only [Act.put, List.getElem_toArray, List.getElem_cons_succ, List.getElem_cons_zero, List.setIfInBounds_toArray, List.set_cons_zero, List.set_cons_succ]
      refine takeH 27 (v := ?vv295) rfl (by kernel_rfl) (by kernel_rfl) (by kernel_rfl) (fun _ _ _ h => h) (by kernel_rfl) (fun Wx hSx => ?hy295) (by assumption) ?hrest295
      case hy295 => have q0 := hSx.cell c0 (by simp); have q1 := hSx.cell c1 (by simp); go_simp; (try with_reducible rfl)
      simp only [Act.put, List.getElem_toArray, List.getElem_cons_succ, List.getElem_cons_zero, List.setIfInBounds_toArray, List.set_cons_zero, List.set_cons_succ]
      refine wpAnyH_ready (rs := [24]) (by kernel_rfl) (by simp) ?_
      refine (AllReadyH.cons rfl (fun K hK => ?_) AllReadyH.nil)
      all_goals try simp only [List.getElem_toArray, List.getElem_cons_succ, List.getElem_cons_zero]
      go_simp
      refine (k6 V2 (hD13.trans hHeld)).mono ?_
      rintro e V3 ⟨va, rfl, hsa, hK3⟩
      go_simp
      refine hK.out _ _ (hHeld.trans hK3) (fun hHeld => ?_)
      clear hK K
      try simp only [Act.put, List.getElem_toArray, List.getElem_cons_succ, List.getElem_cons_zero, List.setIfInBounds_toArray, List.set_cons_zero, List.set_cons_succ]
      refine wpAnyH_ready (rs := [28]) (by kernel_rfl) (by simp) ?_
      refine (AllReadyH.cons rfl (fun K hK => ?_) AllReadyH.nil)
      all_goals try simp only [List.getElem_toArray, List.getElem_cons_succ, List.getElem_cons_zero]
      go_simp
      refine (k7 V3 (hD13.trans hHeld)).mono ?_
      rintro e V4 ⟨vb, rfl, hsb, hK4⟩
      go_simp
      refine hK.out _ _ (hHeld.trans hK4) (fun hHeld => ?_)
      clear hK K
      try simp only [Act.put, List.getElem_toArray, List.getElem_cons_succ, List.getElem_cons_zero, List.setIfInBounds_toArray, List.set_cons_zero, List.set_cons_succ]
      refine wpAnyH_ready (rs := [29]) (by kernel_rfl) (by simp) ?_
      refine (AllReadyH.cons rfl (fun K hK => ?_) AllReadyH.nil)
      all_goals try simp only [List.getElem_toArray, List.getElem_cons_succ, List.getElem_cons_zero]
      go_simp
      refine (same17 V4 va vb al (hsa.chg hK4 (by simp)) hsb (by omega)).mono ?_
      rintro e V5 ⟨rfl, hK5⟩
      go_simp
      refine hK.out _ _ (hHeld.trans hK5) (fun hHeld => ?_)
      clear hK K
      try simp only [Act.put, List.getElem_toArray, List.getElem_cons_succ, List.getElem_cons_zero, List.setIfInBounds_toArray, List.set_cons_zero, List.set_cons_succ]
      refine takeH 30 (v := ?vv328) rfl (by kernel_rfl) (by kernel_rfl) (by kernel_rfl) (fun _ _ _ h => h) (by kernel_rfl) (fun Wx hSx => ?hy328) (by assumption) ?hrest328
      case hy328 => go_simp; (try with_reducible rfl)
      simp only [Act.put, List.getElem_toArray, List.getElem_cons_succ, List.getElem_cons_zero, List.setIfInBounds_toArray, List.set_cons_zero, List.set_cons_succ]
      refine takeH 31 (v := ?vv331) rfl (by kernel_rfl) (by kernel_rfl) (by kernel_rfl) (fun _ _ _ h => h) (by kernel_rfl) (fun Wx hSx => ?hy331) (by assumption) ?hrest331
      case hy331 => go_simp; (try with_reducible rfl)
      simp only [Act.put, List.getElem_toArray, List.getElem_cons_succ, List.getElem_cons_zero, List.setIfInBounds_toArray, List.set_cons_zero, List.set_cons_succ]
      refine takeH 32 (v := ?vv334) rfl (by kernel_rfl) (by kernel_rfl) (by kernel_rfl) (fun _ _ _ h => h) (by kernel_rfl) (fun Wx hSx => ?hy334) (by assumption) ?hrest334
      case hy334 => go_simp; (try with_reducible rfl)
      simp only [Act.put, List.getElem_toArray, List.getElem_cons_succ, List.getElem_cons_zero, List.setIfInBounds_toArray, List.set_cons_zero, List.set_cons_succ]
      refine takeH 33 (v := ?vv337) rfl (by kernel_rfl) (by kernel_rfl) (by kernel_rfl) (fun _ _ _ h => h) (by kernel_rfl) (fun Wx hSx => ?hy337) (by assumption) ?hrest337
      case hy337 => have q0 := hSx.cell c0 (by simp); have q1 := hSx.cell c1 (by simp); go_simp; (try with_reducible rfl)
      simp only [Act.put, List.getElem_toArray, List.getElem_cons_succ, List.getElem_cons_zero, List.setIfInBounds_toArray, List.set_cons_zero, List.set_cons_succ]
      refine wpAnyH_ready (rs := [34]) (by kernel_rfl) (by simp) ?_
      refine (AllReadyH.cons rfl (fun K hK => ?_) AllReadyH.nil)
      all_goals try simp only [List.getElem_toArray, List.getElem_cons_succ, List.getElem_cons_zero]
      go_simp
      refine (k8 V5).mono ?_
      rintro e V6 ⟨rfl, hK6⟩
      go_simp
      refine hK.out _ _ (hHeld.trans hK6) (fun hHeld => ?_)
      clear hK K
      try simp only [Act.put, List.getElem_toArray, List.getElem_cons_succ, List.getElem_cons_zero, List.setIfInBounds_toArray, List.set_cons_zero, List.set_cons_succ]
      refine takeH 35 (v := ?vv350) rfl (by kernel_rfl) (by kernel_rfl) (by kernel_rfl) (fun _ _ _ h => h) (by kernel_rfl) (fun Wx hSx => ?hy350) (by assumption) ?hrest350
      case hy350 => go_simp; (try with_reducible rfl)
      simp only [Act.put, List.getElem_toArray, List.getElem_cons_succ, List.getElem_cons_zero, List.setIfInBounds_toArray, List.set_cons_zero, List.set_cons_succ]
      refine takeH 36 (v := ?vv353) rfl (by kernel_rfl) (by kernel_rfl) (by kernel_rfl) (fun _ _ _ h => h) (by kernel_rfl) (fun Wx hSx => ?hy353) (by assumption) ?hrest353
      case hy353 => go_simp; (try with_reducible rfl)
      simp only [Act.put, List.getElem_toArray, List.getElem_cons_succ, List.getElem_cons_zero, List.setIfInBounds_toArray, List.set_cons_zero, List.set_cons_succ]
      refine takeH 37 (v := ?vv356) rfl (by kernel_rfl) (by kernel_rfl) (by kernel_rfl) (fun _ _ _ h => h) (by kernel_rfl) (fun Wx hSx => ?hy356) (by assumption) ?hrest356
      case hy356 => go_simp; (try with_reducible rfl)
      simp only [Act.put, List.getElem_toArray, List.getElem_cons_succ, List.getElem_cons_zero, List.setIfInBounds_toArray, List.set_cons_zero, List.set_cons_succ]
      refine takeH 38 (v := ?vv359) rfl (by kernel_rfl) (by kernel_rfl) (by kernel_rfl) (fun _ _ _ h => h) (by kernel_rfl) (fun Wx hSx => ?hy359) (by assumption) ?hrest359
      case hy359 => go_simp; (try with_reducible rfl)
      simp only [Act.put, List.getElem_toArray, List.getElem_cons_succ, List.getElem_cons_zero, List.setIfInBounds_toArray, List.set_cons_zero, List.set_cons_succ]
      refine takeH 39 (v := ?vv362) rfl (by kernel_rfl) (by kernel_rfl) (by kernel_rfl) (fun _ _ _ h => h) (by kernel_rfl) (fun Wx hSx => ?hy362) (by assumption) ?hrest362
      case hy362 => go_simp; (try with_reducible rfl)
      simp only [Act.put, List.getElem_toArray, List.getElem_cons_succ, List.getElem_cons_zero, List.setIfInBounds_toArray, List.set_cons_zero, List.set_cons_succ]
      refine takeH 40 (v := ?vv365) rfl (by kernel_rfl) (by kernel_rfl) (by kernel_rfl) (fun _ _ _ h => h) (by kernel_rfl) (fun Wx hSx => ?hy365) (by assumption) ?hrest365
      case hy365 => go_simp; (try with_reducible rfl)
      simp only [Act.put, List.getElem_toArray, List.getElem_cons_succ, List.getElem_cons_zero, List.setIfInBounds_toArray, List.set_cons_zero, List.set_cons_succ]
      refine takeH 41 (v := ?vv368) rfl (by kernel_rfl) (by kernel_rfl) (by kernel_rfl) (fun _ _ _ h => h) (by kernel_rfl) (fun Wx hSx => ?hy368) (by assumption) ?hrest368
      case hy368 => go_simp; (try with_reducible rfl)
      simp only [Act.put, List.getElem_toArray, List.getElem_cons_succ, List.getElem_cons_zero, List.setIfInBounds_toArray, List.set_cons_zero, List.set_cons_succ]
      refine takeH 42 (v := ?vv371) rfl (by kernel_rfl) (by kernel_rfl) (by kernel_rfl) (fun _ _ _ h => h) (by kernel_rfl) (fun Wx hSx => ?hy371) (by assumption) ?hrest371
      case hy371 => go_simp; (try with_reducible rfl)
      simp only [Act.put, List.getElem_toArray, List.getElem_cons_succ, List.getElem_cons_zero, List.setIfInBounds_toArray, List.set_cons_zero, List.set_cons_succ]
      refine wpAnyH_ready (rs := [43]) (by kernel_rfl) (by simp) ?_
      refine (AllReadyH.cons rfl (fun K hK => ?_) AllReadyH.nil)
      all_goals try simp only [List.getElem_toArray, List.getElem_cons_succ, List.getElem_cons_zero]
      go_simp
      refine (alive8 V6).mono ?_
      rintro e V7 ⟨rfl, hK7⟩
      go_simp
      refine hK.out _ _ (hHeld.trans hK7) (fun hHeld => ?_)
      clear hK K
      try simp only [Act.put, List.getElem_toArray, List.getElem_cons_succ, List.getElem_cons_zero, List.setIfInBounds_toArray, List.set_cons_zero, List.set_cons_succ]
      refine takeH 44 (v := ?vv384) rfl (by kernel_rfl) (by kernel_rfl) (by kernel_rfl) (fun _ _ _ h => h) (by kernel_rfl) (fun Wx hSx => ?hy384) (by assumption) ?hrest384
      case hy384 => go_simp; (try with_reducible rfl)
      simp only [Act.put, List.getElem_toArray, List.getElem_cons_succ, List.getElem_cons_zero, List.setIfInBounds_toArray, List.set_cons_zero, List.set_cons_succ]
      refine wpAnyH_done (by kernel_rfl) ?_ _
      simp only [cutQ]
      go_wp2_with fail
      go_ret
      exact ⟨rfl, hCC.trans hHeld⟩
end Go.Proofs.YtdcjfaplgpeonaaGreat
