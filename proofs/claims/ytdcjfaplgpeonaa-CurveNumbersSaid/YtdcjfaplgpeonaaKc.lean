/-
  The reference's book: Add.
-/
import Derived.Test.YtdcjfaplgpeonaaKb
import Derived.Test.YtdcjfaplgpeonaaCt
namespace Go.Proofs.Ytdcjfaplgpeonaa
open Go.RowKit Go.Dm

/-- What the book takes. -/
def okO (o : Ord) : Bool := decide (o 2 = 0 ∨ o 2 = 1) && (decide (1 ≤ o 3) && decide (o 3 ≤ 1099511627776) && decide (1 ≤ o 4) && decide (o 4 ≤ 4294967296))
def takes (l : List Ord) (o : Ord) : Bool := okO o && !hasId l (o 0)
def addL (l : List Ord) (o : Ord) : List Ord := if takes l o then l ++ [o] else l

theorem rb_end {w wb W : World} {r : Nat} {v0 v : Value} {l : List Ord} (hr : r < w.heap.size) (hCb : Chg [] w wb) (hC : Chg [] wb W) (hb : W.heap[r]? = some (.cells #[.int .i64 60, .int .i64 60, v0] 127 (0, 0))) (hs : SlAt 52 7 oE W v l) (hF : Fresh wb.heap.size v) :
    (∃ n : Int, Ending.returned (.int .i64 0) = .returned (.int .i64 n)) ∧ BkR (W.setCell ⟨r, 2, none⟩ v) r l ∧ Chg [r] w (W.setCell ⟨r, 2, none⟩ v) := by
  have hC2 : Chg [r] W (W.setCell ⟨r, 2, none⟩ v) := Chg.setCell W _ _ (by simp)
  refine ⟨⟨_, rfl⟩, ⟨v, by rw [blk_set hb]; simp, hs.chg hC2 fun g hg hm => ?_⟩, (hCb.nil.trans hC.nil).trans hC2⟩
  have := hF g hg
  have := hCb.size
  simp at hm
  omega

set_option maxRecDepth 100000 in
set_option maxHeartbeats 4000000 in
theorem rbadd (w : World) (r : Nat) (l : List Ord) (h : BkR w r l) (o : Ord) (hlen : l.length < 60) :
    Calls Try.prog 67 #[.pointer (some ⟨r, 0, none⟩), oV o] w fun e w' => (∃ n : Int, e = .returned (.int .i64 n)) ∧ BkR w' r (addL l o) ∧ Chg [r] w w' := by
  have hr := h.lt
  have hA0 := Chg.alloc [] w (.cells (oCs o) 52)
  have bx0 : (w.alloc (.cells (oCs o) 52)).heap[w.heap.size]? = some (.cells (oCs o) 52 (0, 0)) := heap_alloc_new w _
  have h0 := h.chg hA0 (by simp) (by simp)
  unfold oV
  unfold oCs at hA0 bx0 h0
  obtain ⟨x0, x1, x2, x3, x4, x5, x6⟩ := blk7 (o := o) bx0
  obtain ⟨w0, hw0⟩ : ∃ w0, w0 = w.alloc (.cells #[.int .i64 (o 0), .int .i64 (o 1), .int .i64 (o 2), .int .i64 (o 3), .int .i64 (o 4), .int .i64 (o 5), .int .i64 (o 6)] 52) := ⟨_, rfl⟩
  have hs := sided_any w0 (o 2)
  have hf := rbfind w0 r l (hw0 ▸ h0) (o 0) (by omega)
  have hR := rbroom w0 r l (hw0 ▸ h0) (o 2) (o 3) hlen
  by_cases hsd : o 2 = 0 ∨ o 2 = 1
  · have t1 : decide (o 2 = 0 ∨ o 2 = 1) = true := decide_eq_true hsd
    rw [t1] at hs
    by_cases hrg : (o 3 < 1 ∨ o 3 > 1099511627776) ∨ (o 4 < 1 ∨ o 4 > 4294967296)
    · have hn : addL l o = l := by
        have : takes l o = false := by simp [takes, okO]; omega
        simp [addL, this]
      rw [hn]
      clear hn hsd t1 hR hf
      have fin : ∃ p1 p2 p3 p4 : Bool, decide (o 3 < 1) = p1 ∧ decide (o 3 > 1099511627776) = p2 ∧ decide (o 4 < 1) = p3 ∧ decide (o 4 > 4294967296) = p4 ∧ (p1 || p2 || p3 || p4) = true := ⟨_, _, _, _, rfl, rfl, rfl, rfl, by simp; omega⟩
      obtain ⟨p1, p2, p3, p4, h1, h2, h3, h4, hp⟩ := fin
      clear hrg
      cases p1 <;> cases p2 <;> cases p3 <;> cases p4 <;> first | (exact absurd hp (by decide)) | skip
      all_goals
        clear hp
        go_enter Try.func67, Try.ntmps67
        go_wp2_with fail
        rw [← hw0]
        refine hs.mono ?_
        rintro e w' ⟨rfl, rfl⟩
        subst hw0
        go_wp2
        go_ret
        exact ⟨⟨_, rfl⟩, h0, hA0.nil⟩
    · have hok : okO o = true := by simp [okO]; omega
      have h1 : decide (o 3 < 1) = false := by simp; omega
      have h2 : decide (o 3 > 1099511627776) = false := by simp; omega
      have h3 : decide (o 4 < 1) = false := by simp; omega
      have h4 : decide (o 4 > 4294967296) = false := by simp; omega
      clear hrg hsd t1
      cases hI : hasId l (o 0) with
      | true =>
        have hn : addL l o = l := by simp [addL, takes, hI]
        rw [hn]
        rw [hI] at hf
        clear hn hok hI
        go_enter Try.func67, Try.ntmps67
        go_wp2_with fail
        rw [← hw0]
        refine hs.mono ?_
        rintro e w' ⟨rfl, rfl⟩
        subst hw0
        go_wp2_with fail
        refine hf.mono ?_
        rintro e w' ⟨⟨n, rfl, hn⟩, rfl⟩
        go_wp2
        go_ret
        exact ⟨⟨_, rfl⟩, h0, hA0.nil⟩
      | false =>
        have hn : addL l o = [] ++ l ++ [o] := by simp [addL, takes, hI, hok]
        rw [hn]
        rw [hI] at hf
        clear hn hok hI
        go_enter Try.func67, Try.ntmps67
        go_wp2_with fail
        rw [← hw0]
        refine hs.mono ?_
        rintro e w' ⟨rfl, rfl⟩
        subst hw0
        go_wp2_with fail
        refine hf.mono ?_
        rintro e w' ⟨⟨n, rfl, hn⟩, rfl⟩
        go_wp2_with fail
        refine hR.mono ?_
        rintro e wb ⟨rfl, hC⟩
        have hb0 := h0.chg hC (by simp) (by simp)
        obtain ⟨v, hb, hsl⟩ := hb0
        obtain ⟨A, c, rfl, _, hA⟩ := hsl.form
        have f0 := (blk3 hb).2.2
        have hCb : Chg [] w wb := hA0.nil.trans hC
        have y0 := hC.cell x0 (by simp)
        have y1 := hC.cell x1 (by simp)
        have y2 := hC.cell x2 (by simp)
        have y3 := hC.cell x3 (by simp)
        have y4 := hC.cell x4 (by simp)
        have y5 := hC.cell x5 (by simp)
        have y6 := hC.cell x6 (by simp)
        clear hs hf hR h0 bx0 x0 x1 x2 x3 x4 x5 x6 hn h1 h2 h3 h4 hC
        have hwb : w.heap.size < wb.heap.size := World.block_lt_of_cell? wb ⟨w.heap.size, 0, none⟩ y0
        have hrb : r < wb.heap.size := blk_lt hb
        have hU := hsl.src
        have HU := Lib.hid hU
        have hl1 : ([] : List Ord).length + l.length ≤ 1000000 := by simp; omega
        have hl2 : ([] ++ l).length + [o].length ≤ 1000000 := by simp; omega
        clear hU hA
        have hne : r ≠ w.heap.size := by omega
        go_wp2_with fail
        refine wp_cutR (Chg [] wb) 10 (by kernel_rfl) (by kernel_rfl) (fun _ h => h) (fun W hW hS => ?_)
        simp only [List.take_succ_cons, List.take_zero, List.drop_succ_cons, List.drop_zero]
        have hA := Lib.hid hW
        clear hW
        refine takeH 0 (v := ?vv128) rfl (by kernel_rfl) (by kernel_rfl) (by kernel_rfl) (fun _ _ _ h => h) (by rfl) (fun Wx hSx => ?hy128) (by assumption) ?hrest128
        case hy128 => go_simp; (try with_reducible rfl)
        simp only [Act.put, List.setIfInBounds_toArray]
        refine takeH 2 (v := ?vv131) rfl (by kernel_rfl) (by kernel_rfl) (by kernel_rfl) (fun _ _ _ h => h) (by rfl) (fun Wx hSx => ?hy131) (by assumption) ?hrest131
        case hy131 => go_simp; (try with_reducible rfl)
        simp only [Act.put]
        refine takeH 3 (v := ?vv134) rfl (by kernel_rfl) (by kernel_rfl) (by kernel_rfl) (fun _ _ _ h => h) (by rfl) (fun Wx hSx => ?hy134) (by assumption) ?hrest134
        case hy134 => go_simp; (try with_reducible rfl)
        simp only [Act.put]
        refine takeH 4 (v := ?vv137) rfl (by kernel_rfl) (by kernel_rfl) (by kernel_rfl) (fun _ _ _ h => h) (by rfl) (fun Wx hSx => ?hy137) (by assumption) ?hrest137
        case hy137 => go_simp; (try with_reducible rfl)
        simp only [Act.put]
        refine takeH 5 (v := ?vv140) rfl (by kernel_rfl) (by kernel_rfl) (by kernel_rfl) (fun _ _ _ h => h) (by rfl) (fun Wx hSx => ?hy140) (by assumption) ?hrest140
        case hy140 => have q := hSx.cell f0 (by simp); go_simp; (try with_reducible rfl)
        simp only [Act.put]
        refine takeH 7 (v := ?vv143) rfl (by kernel_rfl) (by kernel_rfl) (by kernel_rfl) (fun _ _ _ h => h) (by rfl) (fun Wx hSx => ?hy143) (by assumption) ?hrest143
        case hy143 => have q0 := hSx.cell y0 (by simp); have q1 := hSx.cell y1 (by simp); have q2 := hSx.cell y2 (by simp); have q3 := hSx.cell y3 (by simp); have q4 := hSx.cell y4 (by simp); have q5 := hSx.cell y5 (by simp); have q6 := hSx.cell y6 (by simp); go_simp; (try with_reducible rfl)
        simp only [Act.put]
        have hz := hS.size
        have ha1 : (W.alloc (.cells #[] 52)).heap[W.heap.size]? = some (.cells #[] 52 (0, 0)) := heap_alloc_new W _
        have hb1 : (W.alloc (.cells #[.int .i64 (o 0), .int .i64 (o 1), .int .i64 (o 2), .int .i64 (o 3), .int .i64 (o 4), .int .i64 (o 5), .int .i64 (o 6)] 52)).heap[W.heap.size]? = some (.cells #[.int .i64 (o 0), .int .i64 (o 1), .int .i64 (o 2), .int .i64 (o 3), .int .i64 (o 4), .int .i64 (o 5), .int .i64 (o 6)] 52 (0, 0)) := heap_alloc_new W _
        have H1 := Lib.hid (And.intro ha1 hb1)
        clear ha1 hb1
        refine wpAnyH_ready (rs := [1, 8]) (by kernel_rfl) (by simp) ?_
        refine (AllReadyH.cons rfl (fun K hK => ?_) (AllReadyH.cons rfl (fun K hK => ?_) AllReadyH.nil))
        · go_simp
          refine hK.out _ _ (hS.trans (Chg.alloc [] W _)) (fun hHeld => ?_)
          clear hK K
          try simp only [Act.put, List.getElem_toArray, List.getElem_cons_succ, List.getElem_cons_zero, List.setIfInBounds_toArray, List.set_cons_zero, List.set_cons_succ]
          obtain ⟨W1, e1⟩ : ∃ W1, W1 = W.alloc (.cells #[] 52) := ⟨_, rfl⟩
          have ha1 := H1.out.1
          have g1 : W1.heap.size = W.heap.size + 1 := by rw [e1]; simp
          rw [← e1] at hHeld ha1 ⊢
          clear e1
          have HA := Lib.hid ha1
          clear ha1
          have hb2 : (W1.alloc (.cells #[.int .i64 (o 0), .int .i64 (o 1), .int .i64 (o 2), .int .i64 (o 3), .int .i64 (o 4), .int .i64 (o 5), .int .i64 (o 6)] 52)).heap[W1.heap.size]? = some (.cells #[.int .i64 (o 0), .int .i64 (o 1), .int .i64 (o 2), .int .i64 (o 3), .int .i64 (o 4), .int .i64 (o 5), .int .i64 (o 6)] 52 (0, 0)) := heap_alloc_new W1 _
          rw [g1] at hb2
          have H2 := Lib.hid hb2
          clear hb2
          refine wpAnyH_ready (rs := [6, 8]) (by kernel_rfl) (by simp) ?_
          refine (AllReadyH.cons rfl (fun K hK => ?_) (AllReadyH.cons rfl (fun K hK => ?_) AllReadyH.nil))
          · refine step_append' rfl _ _ 43 rfl oR elem43 hHeld (SlAt.empty HA.out rfl) (Fresh.of (by omega)) (HU.out.chg hHeld (by simp)) rfl rfl hl1 (by omega) ?_
            intro v1 W2 hs1 hC1 hF1 hg1
            refine hK.out _ _ (hC1) (fun hHeld => ?_)
            clear hK K
            try simp only [Act.put, List.getElem_toArray, List.getElem_cons_succ, List.getElem_cons_zero, List.setIfInBounds_toArray, List.set_cons_zero, List.set_cons_succ]
            have hb3 : (W2.alloc (.cells #[.int .i64 (o 0), .int .i64 (o 1), .int .i64 (o 2), .int .i64 (o 3), .int .i64 (o 4), .int .i64 (o 5), .int .i64 (o 6)] 52)).heap[W2.heap.size]? = some (.cells #[.int .i64 (o 0), .int .i64 (o 1), .int .i64 (o 2), .int .i64 (o 3), .int .i64 (o 4), .int .i64 (o 5), .int .i64 (o 6)] 52 (0, 0)) := heap_alloc_new W2 _
            have H3 := Lib.hid hb3
            clear hb3
            refine wpAnyH_ready (rs := [8]) (by kernel_rfl) (by simp) ?_
            refine (AllReadyH.cons rfl (fun K hK => ?_) AllReadyH.nil)
            go_simp
            refine hK.out _ _ (hC1.trans (Chg.alloc [] W2 _)) (fun hHeld => ?_)
            clear hK K
            try simp only [Act.put, List.getElem_toArray, List.getElem_cons_succ, List.getElem_cons_zero, List.setIfInBounds_toArray, List.set_cons_zero, List.set_cons_succ]
            refine wpAnyH_ready (rs := [9]) (by kernel_rfl) (by simp) ?_
            refine (AllReadyH.cons rfl (fun K hK => ?_) AllReadyH.nil)
            refine step_append' rfl _ _ 43 rfl oR elem43 (hC1.trans (Chg.alloc [] W2 _)) (hs1.chg (Chg.alloc [] W2 _) (by simp)) hF1 (SrcAt.one (renc := oE) (a := o) (t := 52) (fr := (0, 0)) H3.out 1) rfl rfl hl2 (by omega) ?_
            intro v2 W3 hs2 hC2 hF2 _
            refine hK.out _ _ (hC2) (fun hHeld => ?_)
            clear hK K
            try simp only [Act.put, List.getElem_toArray, List.getElem_cons_succ, List.getElem_cons_zero, List.setIfInBounds_toArray, List.set_cons_zero, List.set_cons_succ]
            refine wpAnyH_done (by kernel_rfl) ?_ _
            simp only [cutQ]
            have hb3 := hC2.at_ hb (by simp)
            have c3 := (blk3 hb3).2.2
            have z3 : W3.frozen? ⟨r, 2, none⟩ = false := by simp [World.frozen?, hb3]
            have lz := blk_lt hb3
            obtain ⟨A2, cp2, rfl, _, _⟩ := hs2.form
            have H := Lib.hid (And.intro hs2 (And.intro hC2 hF2))
            clear hs2 hC2 hF2 hs1 hC1 hF1 hg1 HA H2 H3 H1
            go_wp2
            go_ret
            exact rb_end hr hCb H.out.2.1 hb3 (by simpa using H.out.1) (by simpa using H.out.2.2)
          · go_simp
            have hC0 := hHeld.trans (Chg.alloc [] W1 (.cells #[.int .i64 (o 0), .int .i64 (o 1), .int .i64 (o 2), .int .i64 (o 3), .int .i64 (o 4), .int .i64 (o 5), .int .i64 (o 6)] 52))
            have hE := Lib.hid ((Chg.alloc [] W1 (.cells #[.int .i64 (o 0), .int .i64 (o 1), .int .i64 (o 2), .int .i64 (o 3), .int .i64 (o 4), .int .i64 (o 5), .int .i64 (o 6)] 52)).at_ HA.out (by simp))
            refine hK.out _ _ (hC0) (fun hHeld => ?_)
            clear hK K
            try simp only [Act.put, List.getElem_toArray, List.getElem_cons_succ, List.getElem_cons_zero, List.setIfInBounds_toArray, List.set_cons_zero, List.set_cons_succ]
            obtain ⟨W2, e2⟩ : ∃ W2, W2 = W1.alloc (.cells #[.int .i64 (o 0), .int .i64 (o 1), .int .i64 (o 2), .int .i64 (o 3), .int .i64 (o 4), .int .i64 (o 5), .int .i64 (o 6)] 52) := ⟨_, rfl⟩
            have hO := H2
            rw [← e2] at hC0 hHeld hE hO ⊢
            clear e2 H2 HA
            refine wpAnyH_ready (rs := [6]) (by kernel_rfl) (by simp) ?_
            refine (AllReadyH.cons rfl (fun K hK => ?_) AllReadyH.nil)
            refine step_append' rfl _ _ 43 rfl oR elem43 hC0 (SlAt.empty hE.out rfl) (Fresh.of (by omega)) (HU.out.chg hC0 (by simp)) rfl rfl hl1 (by omega) ?_
            intro v1 W3 hs1 hC1 hF1 hg1
            refine hK.out _ _ (hC1) (fun hHeld => ?_)
            clear hK K
            try simp only [Act.put, List.getElem_toArray, List.getElem_cons_succ, List.getElem_cons_zero, List.setIfInBounds_toArray, List.set_cons_zero, List.set_cons_succ]
            have hO2 := (hg1.block _ (blk_lt hO.out) (by simp [Value.ownBlock])).trans hO.out
            refine wpAnyH_ready (rs := [9]) (by kernel_rfl) (by simp) ?_
            refine (AllReadyH.cons rfl (fun K hK => ?_) AllReadyH.nil)
            refine step_append' rfl _ _ 43 rfl oR elem43 hC1 hs1 hF1 (SrcAt.one (renc := oE) (a := o) (t := 52) (fr := (0, 0)) hO2 1) rfl rfl hl2 (by omega) ?_
            intro v2 W4 hs2 hC2 hF2 _
            refine hK.out _ _ (hC2) (fun hHeld => ?_)
            clear hK K
            try simp only [Act.put, List.getElem_toArray, List.getElem_cons_succ, List.getElem_cons_zero, List.setIfInBounds_toArray, List.set_cons_zero, List.set_cons_succ]
            refine wpAnyH_done (by kernel_rfl) ?_ _
            simp only [cutQ]
            have hb3 := hC2.at_ hb (by simp)
            have c3 := (blk3 hb3).2.2
            have z3 : W4.frozen? ⟨r, 2, none⟩ = false := by simp [World.frozen?, hb3]
            have lz := blk_lt hb3
            obtain ⟨A2, cp2, rfl, _, _⟩ := hs2.form
            have H := Lib.hid (And.intro hs2 (And.intro hC2 hF2))
            clear hs2 hC2 hF2 hs1 hC1 hF1 hg1 hE hO H1 hO2 hC0
            go_wp2
            go_ret
            exact rb_end hr hCb H.out.2.1 hb3 (by simpa using H.out.1) (by simpa using H.out.2.2)
        · go_simp
          have hC1 := hS.trans (Chg.alloc [] W (.cells #[.int .i64 (o 0), .int .i64 (o 1), .int .i64 (o 2), .int .i64 (o 3), .int .i64 (o 4), .int .i64 (o 5), .int .i64 (o 6)] 52))
          refine hK.out _ _ (hC1) (fun hHeld => ?_)
          clear hK K
          try simp only [Act.put, List.getElem_toArray, List.getElem_cons_succ, List.getElem_cons_zero, List.setIfInBounds_toArray, List.set_cons_zero, List.set_cons_succ]
          obtain ⟨W1, e1⟩ : ∃ W1, W1 = W.alloc (.cells #[.int .i64 (o 0), .int .i64 (o 1), .int .i64 (o 2), .int .i64 (o 3), .int .i64 (o 4), .int .i64 (o 5), .int .i64 (o 6)] 52) := ⟨_, rfl⟩
          have ho1 := H1.out.2
          have g1 : W1.heap.size = W.heap.size + 1 := by rw [e1]; simp
          rw [← e1] at hHeld ho1 ⊢
          clear e1 hC1
          refine wpAnyH_ready (rs := [1]) (by kernel_rfl) (by simp) ?_
          refine (AllReadyH.cons rfl (fun K hK => ?_) AllReadyH.nil)
          go_simp
          have hC0 := hHeld.trans (Chg.alloc [] W1 (.cells #[] 52))
          have hO := Lib.hid ((Chg.alloc [] W1 (.cells #[] 52)).at_ ho1 (by simp))
          have hE := heap_alloc_new W1 (.cells #[] 52)
          rw [g1] at hE
          have hE := Lib.hid hE
          refine hK.out _ _ (hC0) (fun hHeld => ?_)
          clear hK K
          try simp only [Act.put, List.getElem_toArray, List.getElem_cons_succ, List.getElem_cons_zero, List.setIfInBounds_toArray, List.set_cons_zero, List.set_cons_succ]
          obtain ⟨W2, e2⟩ : ∃ W2, W2 = W1.alloc (.cells #[] 52) := ⟨_, rfl⟩
          rw [← e2] at hC0 hHeld hE hO ⊢
          clear e2 ho1
          refine wpAnyH_ready (rs := [6]) (by kernel_rfl) (by simp) ?_
          refine (AllReadyH.cons rfl (fun K hK => ?_) AllReadyH.nil)
          refine step_append' rfl _ _ 43 rfl oR elem43 hC0 (SlAt.empty hE.out rfl) (Fresh.of (by omega)) (HU.out.chg hC0 (by simp)) rfl rfl hl1 (by omega) ?_
          intro v1 W3 hs1 hC1 hF1 hg1
          refine hK.out _ _ (hC1) (fun hHeld => ?_)
          clear hK K
          try simp only [Act.put, List.getElem_toArray, List.getElem_cons_succ, List.getElem_cons_zero, List.setIfInBounds_toArray, List.set_cons_zero, List.set_cons_succ]
          have hO2 := (hg1.block _ (blk_lt hO.out) (by simp [Value.ownBlock])).trans hO.out
          refine wpAnyH_ready (rs := [9]) (by kernel_rfl) (by simp) ?_
          refine (AllReadyH.cons rfl (fun K hK => ?_) AllReadyH.nil)
          refine step_append' rfl _ _ 43 rfl oR elem43 hC1 hs1 hF1 (SrcAt.one (renc := oE) (a := o) (t := 52) (fr := (0, 0)) hO2 1) rfl rfl hl2 (by omega) ?_
          intro v2 W4 hs2 hC2 hF2 _
          refine hK.out _ _ (hC2) (fun hHeld => ?_)
          clear hK K
          try simp only [Act.put, List.getElem_toArray, List.getElem_cons_succ, List.getElem_cons_zero, List.setIfInBounds_toArray, List.set_cons_zero, List.set_cons_succ]
          refine wpAnyH_done (by kernel_rfl) ?_ _
          simp only [cutQ]
          have hb3 := hC2.at_ hb (by simp)
          have c3 := (blk3 hb3).2.2
          have z3 : W4.frozen? ⟨r, 2, none⟩ = false := by simp [World.frozen?, hb3]
          have lz := blk_lt hb3
          obtain ⟨A2, cp2, rfl, _, _⟩ := hs2.form
          have H := Lib.hid (And.intro hs2 (And.intro hC2 hF2))
          clear hs2 hC2 hF2 hs1 hC1 hF1 hg1 hE hO H1 hO2 hC0
          go_wp2
          go_ret
          exact rb_end hr hCb H.out.2.1 hb3 (by simpa using H.out.1) (by simpa using H.out.2.2)
  · have t1 : decide (o 2 = 0 ∨ o 2 = 1) = false := decide_eq_false hsd
    rw [t1] at hs
    have hn : addL l o = l := by
      have : takes l o = false := by simp [takes, okO]; omega
      simp [addL, this]
    rw [hn]
    clear hn hsd t1 hR hf
    go_enter Try.func67, Try.ntmps67
    go_wp2_with fail
    rw [← hw0]
    refine hs.mono ?_
    rintro e w' ⟨rfl, rfl⟩
    subst hw0
    go_wp2
    go_ret
    exact ⟨⟨_, rfl⟩, h0, hA0.nil⟩
end Go.Proofs.Ytdcjfaplgpeonaa
