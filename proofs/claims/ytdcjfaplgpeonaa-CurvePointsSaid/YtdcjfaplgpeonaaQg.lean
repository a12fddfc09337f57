/-
  What nil curves and nil books have.
-/
import Derived.Test.YtdcjfaplgpeonaaQe
import Derived.Test.YtdcjfaplgpeonaaQf
import Derived.Test.YtdcjfaplgpeonaaQ1
namespace Go.Proofs.Ytdcjfaplgpeonaa
open Go.RowKit Go.Dm Go.Shelf
attribute [local go_sem] Oper.semAt_some
attribute [local simp] wide_fn
attribute [local go_sem] wide_fn

theorem ownFrom_chgW {β : Type} (S : List Nat) (W0 : World) : OwnFrom W0.heap.size (fun (_ : β) W => Chg S W0 W) := fun _ _ _ row hs hg hr =>
  ⟨hg.os.trans hs.os, hg.tape.trans hs.tape, hg.output.trans hs.output, Nat.le_trans hs.size hg.size, fun k hk hn =>
    (hg.block k (Nat.lt_of_lt_of_le hk hs.size) (fun e => by have := (hr k e.symm).1; omega)).trans (hs.block k hk hn)⟩

set_option maxHeartbeats 1000000 in
theorem of79_nil (w : World) (s : Int) (h : s = 0 ∨ s = 1) :
    Calls Try.prog 79 #[.pointer none, .int .i64 s] w fun e w' => e = .returned (.pointer none) ∧ w = w' := by
  rcases h with rfl | rfl
  · go_enter Try.func79, Try.ntmps79
    go_wp2
    go_ret
    exact ⟨rfl, rfl⟩
  · go_enter Try.func79, Try.ntmps79
    go_wp2
    go_ret
    exact ⟨rfl, rfl⟩

set_option maxRecDepth 100000 in
set_option maxHeartbeats 2000000 in
theorem each_nil (w : World) : EachIs w none [] (fun _ => []) := by
  intro s W0 bx by_ T m hs hm hC0 hbx hby hT
  intro yl J Jx W hW hTW hJ hJx hY hj0
  refine callsIn_of_wp_marks (n := m) Try.func87 rfl trivial (wpIn_wide.2 ?_) rfl
  simp only [Try.ntmps87, List.size_toArray, List.length_cons, List.length_nil, Nat.reduceAdd, Nat.reduceSub, Array.replicate_succ, Array.replicate_zero, List.push_toArray, List.append_toArray, List.nil_append, List.cons_append]
  have hC : Chg [] W0 W := Chg.of_below hW []
  have hbx := hC.at_ hbx (by simp)
  have hby := hC.at_ hby (by simp)
  have hA1 := Chg.alloc [] W (.cells #[.func (.yield yl) #[] #[]] 162)
  have hA2 := Chg.alloc [] (W.alloc (.cells #[.func (.yield yl) #[] #[]] 162)) (.cells #[.pointer none] 156)
  have hA := hA1.trans hA2
  have cx := blk1 (hA1.at_ hbx (by simp))
  have cy := blk1 (hA1.at_ hby (by simp))
  have bs := heap_alloc_new (W.alloc (.cells #[.func (.yield yl) #[] #[]] 162)) (.cells #[.pointer none] 156)
  have hj1 := hJ _ _ _ none hj0 (grown_of_chgT hA) (fun r e => by cases e)
  have lx := blk_lt hbx
  have ly := blk_lt hby
  have h79 := fun W => of79_nil W (s : Nat) (by omega)
  clear hC hW hC0 hA1 hA2 hA hY
  go_wp2_with fail
  go_step3
  go_wp2_with fail
  refine (h79 _).mono ?_
  rintro e w' ⟨rfl, rfl⟩
  go_wp2_with fail
  exact ⟨_, results_none rfl _ _ _, ⟨_, rfl⟩, .inl ⟨_, rfl, hj1⟩⟩

theorem at47_nil (w : World) (p : Int) : Calls Try.prog 47 #[.pointer none, .int .i64 p] w fun e w' => e = .returned (ptV p 0 0) ∧ Chg [] w w' := by
  have hA1 := Chg.alloc [] w (.cells #[.pointer none] 95)
  have hA2 := Chg.alloc [] (w.alloc (.cells #[.pointer none] 95)) (.cells #[.int .i64 p] 2)
  have hA3 := Chg.alloc [] ((w.alloc (.cells #[.pointer none] 95)).alloc (.cells #[.int .i64 p] 2)) (.cells #[.int .i64 p, .int .i64 0, .int .i64 0] 83)
  have b4 := heap_alloc_new ((w.alloc (.cells #[.pointer none] 95)).alloc (.cells #[.int .i64 p] 2)) (.cells #[.int .i64 p, .int .i64 0, .int .i64 0] 83)
  have hA4 := Chg.alloc [] (((w.alloc (.cells #[.pointer none] 95)).alloc (.cells #[.int .i64 p] 2)).alloc (.cells #[.int .i64 p, .int .i64 0, .int .i64 0] 83)) (.cells #[.int .i64 p, .int .i64 0, .int .i64 0] 83)
  have b4 := hA4.at_ b4 (by simp)
  simp only [World.size_alloc] at b4
  go_enter Try.func47, Try.ntmps47
  go_wp2
  exact bodyPost_ret (results_pt rfl _ _ _ p 0 0 rfl b4) rfl ⟨rfl, ((hA1.trans hA2).trans hA3).trans hA4⟩
theorem of_nil (w : World) : Calls Try.prog 44 #[.pointer none] w fun e w' => ∃ c, e = .returned (.pointer (some ⟨c, 0, none⟩)) ∧ CvAt w' w.heap.size c [] ∧ Chg [] w w' := by
  refine (of44 w none [] (fun _ => []) (each_nil w) (fun o ho => by cases ho) (fun _ => by simp)).mono ?_
  rintro e w' ⟨c, ss, rfl, hP, hc, hC⟩
  have e0 : sideO [] [] = [] := rfl
  simp only [e0] at hP hc
  have hss : ss = [] := by
    cases ss with
    | nil => rfl
    | cons q ss => have := (hP.all q).1 (by simp); simp [hasP] at this
  subst hss
  exact ⟨c, rfl, hc, hC⟩
theorem cv_empty {w : World} {B c : Nat} (hc : CvAt w B c []) (p : Int) : Calls Try.prog 47 #[.pointer (some ⟨c, 0, none⟩), .int .i64 p] w fun e w' => e = .returned (ptV p 0 0) ∧ Chg [] w w' := by
  have := cv_at (w := w) (B := B) (c := c) (ss := []) (l0 := []) (l1 := []) ⟨List.Pairwise.nil, fun q => by simp [hasP]⟩ hc (by simp) (by simp) p
  simpa [demO, supO, sumO] using this

set_option maxRecDepth 100000 in
set_option maxHeartbeats 4000000 in
theorem prices48_nil (w : World) (lo hi : Int) :
    Calls Try.prog 48 #[.pointer none, .int .i64 lo, .int .i64 hi] w fun e w' => e = .returned (.slice none 0 0) ∧ Chg [] w w' := by
  have hA1 := Chg.alloc [] w (.cells #[.int .i64 lo] 2)
  have hA2 := Chg.alloc [] (w.alloc (.cells #[.int .i64 lo] 2)) (.cells #[.int .i64 hi] 2)
  have hA3 := Chg.alloc [] ((w.alloc (.cells #[.int .i64 lo] 2)).alloc (.cells #[.int .i64 hi] 2)) (.cells #[.slice none 0 0] 91)
  have b6 := heap_alloc_new ((w.alloc (.cells #[.int .i64 lo] 2)).alloc (.cells #[.int .i64 hi] 2)) (.cells #[.slice none 0 0] 91)
  simp only [World.size_alloc] at b6
  have hC3 := (hA1.trans hA2).trans hA3
  have hp := points45_nil (((w.alloc (.cells #[.int .i64 lo] 2)).alloc (.cells #[.int .i64 hi] 2)).alloc (.cells #[.slice none 0 0] 91))
  have hz : (((w.alloc (.cells #[.int .i64 lo] 2)).alloc (.cells #[.int .i64 hi] 2)).alloc (.cells #[.slice none 0 0] 91)).heap.size = w.heap.size + 3 := by simp
  clear hA1 hA2 hA3
  refine callsIn_wide.1 (callsIn_of_wp_marks (n := 5) Try.func48 rfl trivial (wpIn_wide.2 ?_) rfl)
  simp only [Try.ntmps48, List.size_toArray, List.length_cons, List.length_nil, Nat.reduceAdd, Nat.reduceSub, Array.replicate_succ, Array.replicate_zero, List.push_toArray, List.append_toArray, List.nil_append, List.cons_append]
  go_wp2_with fail
  refine hp.mono ?_
  rintro e w' ⟨rfl, rfl⟩
  clear hp
  simp only
  obtain ⟨W0, eW0⟩ : ∃ W0, (((w.alloc (.cells #[.int .i64 lo] 2)).alloc (.cells #[.int .i64 hi] 2)).alloc (.cells #[.slice none 0 0] 91)) = W0 := ⟨_, rfl⟩
  rw [eW0] at b6 hC3 hz ⊢
  clear eW0
  go_wp2_with fail
  refine (wpIn_wide (n := 5)).1 ?_
  refine wpIn_rangeFunc_ownH rfl (by omega) (gf := 71) (lb := #[]) rfl trivial (enters_of Try.func71 (by kernel_rfl) rfl)
    (iter71 4 (Below 0) W0) belowK_t (belowK_b (Nat.zero_le _)) (Below.refl _ _) (fun _ => rfl)
    (fun _ W => Chg [] W0 W) (fun _ _ _ => False) (ownFrom_chgW _ _) (fun _ _ _ _ _ hs _ _ => hs) (Chg.refl _ _)
    (fun _ _ _ => True) (fun _ _ _ _ _ _ hs _ _ => hs) ?assign ?body ?done ?stop
  case assign =>
    intro l pre x W K hi0 hK
    simp only [encPt, ptV]
    gi_wp2
    have hA := Chg.alloc [] W (.cells #[.int .i64 x.p, .int .i64 x.d, .int .i64 x.s] 83)
    exact hK _ _ (KeepsFrom.of_chgT hA (by simp)) (hA.below (Nat.zero_le _) (by simp)) (hi0.trans hA) trivial
  case body =>
    intro l pre x a' W _ _ _ _ hlt
    exact absurd hlt (Nat.not_lt_zero _)
  case done =>
    rintro D xs W hD rfl hC hK
    have b6 := hC.at_ b6 (by simp)
    have hCw := hC3.trans hC
    have c6 := blk1 b6
    have f6 := blkfreeU b6 0
    have hS := Chg.setCell (S := [w.heap.size + 1 + 1]) W ⟨w.heap.size + 1 + 1, 0, none⟩ (.slice none 0 0) (by simp)
    have hne : D ≠ w.heap.size + 1 + 1 := by omega
    have hK' := hS.at_ hK (by simpa using hne)
    have hc5 := cell_kept (World.cell?_setCell_same' W ⟨w.heap.size + 1 + 1, 0, none⟩ (.slice none 0 0) (by rw [c6]; rfl)) (grownBy_putObj' _ D (.deferred none)) (fun r e => by cases e; exact ⟨_, hK', rfl⟩)
    have hC9 : Chg [] w (W.setCell ⟨w.heap.size + 1 + 1, 0, none⟩ (.slice none 0 0)) := hCw.putNew (by omega)
    have hDw : w.heap.size ≤ D := by omega
    clear hS b6 hC hCw
    go_wp2
    refine ⟨by simp, .inl ⟨_, _, rfl, run_takeDeferred hK', ?_⟩⟩
    have hP := Chg.putObj (S := [D]) (W.setCell ⟨w.heap.size + 1 + 1, 0, none⟩ (.slice none 0 0)) D (.deferred none) (by simp)
    refine ⟨_, ?_, rfl, hC9.trans' hP (by simp) (by simpa using hDw)⟩
    simp [results, Try.f48, go_sem, hc5]
  case stop =>
    rintro D c' pre W hD hp h hK
    exact h.elim
end Go.Proofs.Ytdcjfaplgpeonaa

/-
  How demand and supply go with the price, and what nil curves and books have: the law's own walk.
-/
namespace Go.Proofs.Ytdcjfaplgpeonaa
open Go.RowKit Go.Dm Go.Shelf
attribute [local go_sem] Oper.semAt_some
attribute [local simp] wide_fn
attribute [local go_sem] wide_fn

theorem dem_down {L : List Ord} (hq : QtyOk L) {p q : Int} (h : p ≤ q) : demO (sdO L 0) q ≤ demO (sdO L 0) p := by
  have h1 := sumO_split (sdO L 0) (fun o => decide (p ≤ o 3)) (fun o => decide (q ≤ o 3)) (fun o => decide (p ≤ o 3 ∧ o 3 < q)) (fun o _ => by rw [Bool.eq_iff_iff]; simp only [decide_eq_true_eq, Bool.or_eq_true]; omega) (fun o _ => by simp only [decide_eq_true_eq]; omega)
  have h2 := (sumO_le (l := (sdO L 0).filter (fun o => decide (p ≤ o 3 ∧ o 3 < q))) (hq.sub (fun o ho => sdO_sub o (List.mem_filter.1 ho).1))).1
  unfold demO
  omega
theorem sup_up {L : List Ord} (hq : QtyOk L) {p q : Int} (h : p ≤ q) : supO (sdO L 1) p ≤ supO (sdO L 1) q := by
  have h1 := sumO_split (sdO L 1) (fun o => decide (o 3 ≤ q)) (fun o => decide (o 3 ≤ p)) (fun o => decide (p < o 3 ∧ o 3 ≤ q)) (fun o _ => by rw [Bool.eq_iff_iff]; simp only [decide_eq_true_eq, Bool.or_eq_true]; omega) (fun o _ => by simp only [decide_eq_true_eq]; omega)
  have h2 := (sumO_le (l := (sdO L 1).filter (fun o => decide (p < o 3 ∧ o 3 ≤ q))) (hq.sub (fun o ho => sdO_sub o (List.mem_filter.1 ho).1))).1
  unfold supO
  omega
theorem results_b {fn : Func} {q : Tmp} (h : fn.results = #[.cell q 4]) (tmps : Array Value) (w : World) (g : Nat) (b : Bool)
    (hp : tmps.getD q undef = .pointer (some ⟨g, 0, none⟩)) (hb : w.heap[g]? = some (.cells #[.bool b] 4 (0, 0))) :
    (results fn tmps).run Try.prog w = .ok (.bool b) w := by
  have hp' : tmps[q]?.getD undef = .pointer (some ⟨g, 0, none⟩) := by simpa using hp
  have hc := blk1 hb
  simp [results, h, hp', asAddr, go_sem, hc]

set_option maxRecDepth 100000 in
set_option maxHeartbeats 16000000 in
theorem turns12 (w : World) (A : Option Addr) (cap : Nat) (l : List Ord) (h : OrdsAt w A l) (a b : Int) :
    Calls Try.prog 12 #[.slice A l.length cap, .int .i64 a, .int .i64 b] w fun e w' => e = .returned (.bool true) ∧ Chg [] w w' := by
  have hA0 := Chg.alloc [] w (.cells #[.bool false] 4)
  have b6 := heap_alloc_new w (.cells #[.bool false] 4)
  obtain ⟨W0, eW0⟩ : ∃ W0, w.alloc (.cells #[.bool false] 4) = W0 := ⟨_, rfl⟩
  rw [eW0] at hA0 b6
  by_cases hbig : l.length > 60
  · have t1 : decide ((l.length : Int) > 60) = true := decide_eq_true (by omega)
    clear hbig h
    go_enter Try.func12, Try.ntmps12
    go_wp2_with fail
    refine (alive36 _).mono ?_
    rintro e w' ⟨rfl, hC⟩
    have b6 := hC.at_ b6 (by simp)
    have c6 := blk1 b6
    have f6 := blkfreeU b6 0
    have b62 := blk_set b6 0 (.bool true)
    go_wp2_with fail
    exact bodyPost_ret (results_b rfl _ _ w.heap.size true rfl b62) rfl ⟨rfl, (hA0.trans hC).putNew (Nat.le_refl _)⟩
  · have t1 : decide ((l.length : Int) > 60) = false := decide_eq_false (by omega)
    by_cases hab : a > b
    · have t2 : decide (a > b) = true := decide_eq_true hab
      clear hbig h hab
      go_enter Try.func12, Try.ntmps12
      go_wp2_with fail
      refine (alive36 _).mono ?_
      rintro e w' ⟨rfl, hC⟩
      have b6 := hC.at_ b6 (by simp)
      have c6 := blk1 b6
      have f6 := blkfreeU b6 0
      have b62 := blk_set b6 0 (.bool true)
      go_wp2_with fail
      exact bodyPost_ret (results_b rfl _ _ w.heap.size true rfl b62) rfl ⟨rfl, (hA0.trans hC).putNew (Nat.le_refl _)⟩
    · have t2 : decide (a > b) = false := decide_eq_false hab
      have hlen : l.length ≤ 60 := by omega
      have hlb : (bookL l).length ≤ 60 := Nat.le_trans (bookL_len l) hlen
      have hq := book_qty l
      have hd1 := dem_down hq (p := a) (q := b) (by omega)
      have hs1 := sup_up hq (p := a) (q := b) (by omega)
      have hl0 : (sdO (bookL l) 0).length ≤ 60 := Nat.le_trans (List.length_filter_le _ _) hlb
      have hl1 : (sdO (bookL l) 1).length ≤ 60 := Nat.le_trans (List.length_filter_le _ _) hlb
      have hb42 := fun W (hC : Chg [] w W) => books42 W A cap l (by
        rcases h with h | ⟨b, off, e, hb, hc⟩
        · exact .inl h
        · exact .inr ⟨b, off, e, Nat.lt_of_lt_of_le hb hC.size, fun i o ho j hj => hC.cell (hc i o ho j hj) (by simp)⟩) hlen
      clear hbig h hab hlen
      refine callsIn_wide.1 (callsIn_of_wp_marks (n := 5) Try.func12 rfl trivial (wpIn_wide.2 ?_) rfl)
      simp only [Try.ntmps12, List.size_toArray, List.length_cons, List.length_nil, Nat.reduceAdd, Nat.reduceSub, Array.replicate_succ, Array.replicate_zero, List.push_toArray, List.append_toArray, List.nil_append, List.cons_append]
      go_wp2_with fail
      refine (alive36 _).mono ?_
      rintro e W1 ⟨rfl, hC1⟩
      go_wp2_with fail
      refine (hb42 _ (hA0.trans hC1)).mono ?_
      rintro e W2 ⟨B, rb, rfl, ⟨lv0, lv1, v0, v1, hP⟩, hR, hC2, _⟩
      have hof := of_pb hP hlb hq
      clear hP hR hb42
      go_wp2_with fail
      refine hof.mono ?_
      rintro e W3 ⟨c, ss, rfl, hPr, hcv, hC3⟩
      have hxa := fun W (hW : Chg [] W3 W) => cv_at hPr (hcv.chg hW (by simp)) hl0 hl1 a
      have hxb := fun W (hW : Chg [] W3 W) => cv_at hPr (hcv.chg hW (by simp)) hl0 hl1 b
      clear hof hcv hPr hl0 hl1
      obtain ⟨da, hda⟩ : ∃ x, demO (sdO (bookL l) 0) a = x := ⟨_, rfl⟩
      obtain ⟨db, hdb⟩ : ∃ x, demO (sdO (bookL l) 0) b = x := ⟨_, rfl⟩
      obtain ⟨sa, hsa⟩ : ∃ x, supO (sdO (bookL l) 1) a = x := ⟨_, rfl⟩
      obtain ⟨sb, hsb⟩ : ∃ x, supO (sdO (bookL l) 1) b = x := ⟨_, rfl⟩
      simp only [hda, hsa] at hxa
      simp only [hdb, hsb] at hxb
      rw [hda, hdb] at hd1
      rw [hsa, hsb] at hs1
      have tD : decide (da ≥ db) = true := decide_eq_true (by omega)
      have tS : decide (sa ≤ sb) = true := decide_eq_true (by omega)
      clear hda hdb hsa hsb hd1 hs1 hq hlb
      go_wp2_with fail
      refine (hxa W3 (Chg.refl _ _)).mono ?_
      rintro e W4 ⟨rfl, hC4⟩
      go_wp2_with fail
      refine (hxb W4 hC4).mono ?_
      rintro e W5 ⟨rfl, hC5a⟩
      have hC5 := ((((hA0.trans hC1).trans hC2).trans hC3).trans hC4).trans hC5a
      have b6 := (((((hC1.trans hC2).trans hC3).trans hC4).trans hC5a)).at_ b6 (by simp)
      have b60 := b6
      clear hC1 hC2 hC3 hC4 hxa hxb hA0 eW0
      have hA6 := Chg.alloc [] W5 (.cells #[.int .i64 a, .int .i64 da, .int .i64 sa] 83)
      have hA7 := Chg.alloc [] (W5.alloc (.cells #[.int .i64 a, .int .i64 da, .int .i64 sa] 83)) (.cells #[.int .i64 b, .int .i64 db, .int .i64 sb] 83)
      have bx := hA7.at_ (heap_alloc_new W5 (.cells #[.int .i64 a, .int .i64 da, .int .i64 sa] 83)) (by simp)
      have by_ := heap_alloc_new (W5.alloc (.cells #[.int .i64 a, .int .i64 da, .int .i64 sa] 83)) (.cells #[.int .i64 b, .int .i64 db, .int .i64 sb] 83)
      simp only [World.size_alloc] at by_
      have b6 := (hA6.trans hA7).at_ b6 (by simp)
      have hC7 := (hC5.trans hA6).trans hA7
      simp only [ptV]
      go_wp2_with fail
      refine (points45_nil _).mono ?_
      rintro e W7 ⟨rfl, rfl⟩
      obtain ⟨W6, eW6⟩ : ∃ W6, ((W5.alloc (.cells #[.int .i64 a, .int .i64 da, .int .i64 sa] 83)).alloc (.cells #[.int .i64 b, .int .i64 db, .int .i64 sb] 83)) = W6 := ⟨_, rfl⟩
      rw [eW6] at bx by_ b6 hC7 ⊢
      clear hA6 hA7 hC5 eW6
      obtain ⟨kx, hkx⟩ : ∃ k, W5.heap.size = k := ⟨_, rfl⟩
      simp only [hkx] at bx by_ ⊢
      have lkx : w.heap.size < kx := by have := blk_lt b60; omega
      clear hkx
      go_wp2_with fail
      refine (wpIn_wide (n := 5)).1 ?_
      refine wpIn_rangeFunc_ownH rfl (by omega) (gf := 71) (lb := #[]) rfl trivial (enters_of Try.func71 (by kernel_rfl) rfl)
        (iter71 4 (Below 0) W6) belowK_t (belowK_b (Nat.zero_le _)) (Below.refl _ _) (fun _ => rfl)
        (fun _ W => Chg [] W6 W) (fun _ _ _ => False) (ownFrom_chgW _ _) (fun _ _ _ _ _ hs _ _ => hs) (Chg.refl _ _)
        (fun _ _ _ => True) (fun _ _ _ _ _ _ hs _ _ => hs) ?assign ?body ?done ?stop
      case assign =>
        intro l pre x W K hi0 hK
        simp only [encPt, ptV]
        gi_wp2
        exact hK _ _ (KeepsFrom.refl _ _) (Below.refl _ _) hi0 trivial
      case body =>
        intro l pre x a' W _ _ _ _ hlt
        exact absurd hlt (Nat.not_lt_zero _)
      case stop =>
        rintro D c' pre W hD hp h hK
        exact h.elim
      case done =>
        rintro D xs W8 hD rfl hC8 hK
        have bx := hC8.at_ bx (by simp)
        have by_ := hC8.at_ by_ (by simp)
        have lb6 := blk_lt b6
        have b6 := hC8.at_ b6 (by simp)
        have hC8 := hC7.trans hC8
        have hDw : w.heap.size < D := by omega
        clear hC7
        go_wp2_with fail
        refine (of_nil _).mono ?_
        rintro e W9 ⟨c2, rfl, ⟨v2, hv2, hs2, hf2, hB2⟩, hC9⟩
        obtain ⟨A2, cap2, rfl, _, _⟩ := hs2.form
        have hA := Chg.alloc [] W9 (.cells #[.slice A2 0 cap2] 133)
        have bb := heap_alloc_new W9 (.cells #[.slice A2 0 cap2] 133)
        have hs3 := hs2.chg hA (by simp)
        have hp2 := points45 W9 c2 A2 0 cap2 hv2
        have hC9 := hC9.trans hA
        have bx := hC9.at_ bx (by simp)
        have by_ := hC9.at_ by_ (by simp)
        have b6 := hC9.at_ b6 (by simp)
        have hK := hC9.at_ hK (by simp)
        have hC9 := hC8.trans hC9
        clear hA hs2 hv2 hf2 hC8
        go_wp2_with fail
        refine hp2.mono ?_
        rintro e W10 ⟨rfl, rfl⟩
        clear hp2
        obtain ⟨W10, eW10⟩ : ∃ W10, W9.alloc (.cells #[.slice A2 0 cap2] 133) = W10 := ⟨_, rfl⟩
        rw [eW10] at bx by_ b6 hK hC9 bb hs3 ⊢
        have lb2 : ∀ k ∈ ownL (.slice A2 0 cap2), k < W10.heap.size := fun k hk => by
          simp only [ownL, Option.mem_toList] at hk
          exact hs3.lt hk
        clear eW10
        go_wp2_with fail
        refine (wpIn_wide (n := 5)).1 ?_
        refine wpIn_rangeFunc_ownH rfl (by omega) (gf := 92) (lb := #[.pointer (some ⟨W9.heap.size, 0, none⟩)]) rfl trivial (enters_of Try.func92 (by kernel_rfl) rfl)
          (iter92 4 (by omega) W9.heap.size [] (.slice A2 0 cap2) W10 bb hs3 (by simp)) (fun h k => KeepL.t h k) (KeepL.put lb2) (Below.refl _ _) (fun _ => rfl)
          (fun _ W => Chg [] W10 W) (fun _ _ _ => False) (ownFrom_chgW _ _) (fun _ _ _ _ _ hs _ _ => hs) (Chg.refl _ _)
          (fun _ _ _ => True) (fun _ _ _ _ _ _ hs _ _ => hs) ?assign ?body ?done ?stop
        case assign =>
          intro l pre x W K hi0 hK
          simp only [encPt, ptV]
          gi_wp2
          exact hK _ _ (KeepsFrom.refl _ _) (fun _ _ _ ho => ho) hi0 trivial
        case body =>
          intro l pre x a' W _ _ _ _ hlt
          exact absurd hlt (Nat.not_lt_zero _)
        case stop =>
          rintro D c' pre W hD hp h hK
          exact h.elim
        case done =>
          rintro D2 xs W11 hD2 rfl hC11 hK2
          have lD : D < W10.heap.size := (Array.getElem?_eq_some_iff.1 hK).1
          have hne : D2 ≠ D := by omega
          have bx := hC11.at_ bx (by simp)
          have by_ := hC11.at_ by_ (by simp)
          have b6 := hC11.at_ b6 (by simp)
          have hK := hC11.at_ hK (by simp)
          have hC11 := hC9.trans hC11
          obtain ⟨x0, x1, x2⟩ := blk3V bx
          obtain ⟨y0, y1, y2⟩ := blk3V by_
          have e2 : ∀ n : Int, (n == n) = true := fun n => by simp
          clear hC9 bb hs3 lb2
          go_wp2_with fail
          refine (at47_nil W11 a).mono ?_
          rintro e W12 ⟨rfl, hC12⟩
          simp only [ptV]
          go_wp2_with fail
          refine (prices48_nil W12 a b).mono ?_
          rintro e W13 ⟨rfl, hC13⟩
          go_wp2_with fail
          refine (of_nil W13).mono ?_
          rintro e W14 ⟨c3, rfl, hcv, hC14⟩
          go_wp2_with fail
          refine (cv_empty hcv b).mono ?_
          rintro e W15 ⟨rfl, hC15⟩
          have hC15 := ((hC12.trans hC13).trans hC14).trans hC15
          have b6 := hC15.at_ b6 (by simp)
          have hK := hC15.at_ hK (by simp)
          have hK2 := hC15.at_ hK2 (by simp)
          have hC15 := hC11.trans hC15
          have c6 := blk1 b6
          have f6 := blkfreeU b6 0
          clear x0 x1 x2 y0 y1 y2 hC12 hC13 hC14 hC11 hcv
          simp only [ptV]
          go_wp2_with fail
          have hS := Chg.setCell (S := [w.heap.size]) W15 ⟨w.heap.size, 0, none⟩ (.bool true) (by simp)
          have b62 := blk_set b6 0 (.bool true)
          have hK := hS.at_ hK (by simp; omega)
          have hK2 := hS.at_ hK2 (by simp; omega)
          have hCS := hC15.putNew (g := w.heap.size) (j := 0) (u := .bool true) (Nat.le_refl _)
          refine leaves_marks [D2, D] _ ⟨by simp [hne], fun E hE => ?_⟩ (fun w' hC => ?_)
          · simp at hE
            rcases hE with rfl | rfl
            · exact hK2
            · exact hK
          · have b63 := hC.at_ b62 (by simp; omega)
            exact ⟨_, results_b rfl _ _ w.heap.size true rfl b63, rfl, hCS.trans' hC (U := []) (by simp) (fun k hk => .inr (by
              simp at hk; omega))⟩
end Go.Proofs.Ytdcjfaplgpeonaa
