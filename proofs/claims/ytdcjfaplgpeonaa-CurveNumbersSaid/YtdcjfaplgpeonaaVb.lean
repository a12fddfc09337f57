/-
  A curve's point at a price.
-/
import Derived.Test.YtdcjfaplgpeonaaVa
namespace Go.Proofs.Ytdcjfaplgpeonaa
open Go.RowKit Go.Dm
attribute [local go_sem] Oper.semAt_some

theorem blk3V {w : World} {b : Nat} {u0 u1 u2 : Value} {t : TypeId} {fr : Nat × Nat} (h : w.heap[b]? = some (.cells #[u0, u1, u2] t fr)) :
    w.cell? ⟨b, 0, none⟩ = some u0 ∧ w.cell? ⟨b, 1, none⟩ = some u1 ∧ w.cell? ⟨b, 2, none⟩ = some u2 := by simp [World.cell?, h]
def ptV (p d s : Int) : Value := .agg #[.int .i64 p, .int .i64 d, .int .i64 s]
/-- What a search that ended at i reads. -/
def rdD (pts : List Pt) (i : Nat) : Int := match pts[i]? with | some x => x.d | none => 0
def prevS (pts : List Pt) : Nat → Int
  | 0 => 0
  | k + 1 => match pts[k]? with | some y => y.s | none => 0
def rdS (pts : List Pt) (p : Int) (i : Nat) : Int := match pts[i]? with
  | some x => if x.p = p then x.s else prevS pts i
  | none => prevS pts i
theorem chain_sum0 {l : List Ord} (f : Ord → Bool) (h : ∀ o ∈ l, f o = false) : sumO (l.filter f) = 0 := by
  have : l.filter f = [] := List.filter_eq_nil_iff.2 (fun o ho => by simp [h o ho])
  rw [this]; rfl
theorem pts_c {ss : List Int} {l0 l1 : List Ord} {i : Nat} {x : Pt} (h : (ptsC ss l0 l1)[i]? = some x) : ∃ q, ss[i]? = some q ∧ x = ⟨q, demO l0 q, supO l1 q⟩ := by
  simp only [ptsC, List.getElem?_map, Option.map_eq_some_iff] at h
  obtain ⟨q, hq, rfl⟩ := h
  exact ⟨q, hq, rfl⟩
theorem pts_c' {ss : List Int} {l0 l1 : List Ord} {i : Nat} {q : Int} (h : ss[i]? = some q) : (ptsC ss l0 l1)[i]? = some ⟨q, demO l0 q, supO l1 q⟩ := by simp [ptsC, h]
/-- Sums agree where no order's price lies between. -/
theorem rd_dem {ss : List Int} {l0 l1 : List Ord} (h : Prices ss l0 l1) {p : Int} {i : Nat} (hi : PtPos (ptsC ss l0 l1) p i) : rdD (ptsC ss l0 l1) i = demO l0 p := by
  obtain ⟨h0, h1, h2⟩ := hi
  have hm : ∀ o ∈ l0, ∃ j : Nat, ss[j]? = some (o 3) := fun o ho => h.idx ((h.all _).2 (by rw [hasP_mem ho, Bool.true_or]))
  unfold rdD
  cases hx : (ptsC ss l0 l1)[i]? with
  | none =>
    symm
    refine chain_sum0 _ (fun o ho => ?_)
    obtain ⟨j, hj⟩ := hm o ho
    have hjl := (List.getElem?_eq_some_iff.1 hj).1
    have hil : (ptsC ss l0 l1).length ≤ i := List.getElem?_eq_none_iff.1 hx
    have hl : (ptsC ss l0 l1).length = ss.length := by simp [ptsC]
    have := h1 j _ (pts_c' hj) (by omega)
    simp only [decide_eq_false_iff_not]
    simp only at this
    omega
  | some x =>
    obtain ⟨q, hq, rfl⟩ := pts_c hx
    have hqp := h2 i _ hx (Nat.le_refl _)
    simp only at hqp ⊢
    unfold demO
    congr 1
    refine List.filter_congr fun o ho => ?_
    obtain ⟨j, hj⟩ := hm o ho
    rw [decide_eq_decide]
    constructor
    · intro h3; omega
    · intro h3
      by_cases hji : j < i
      · have := h1 j _ (pts_c' hj) hji
        simp only at this
        omega
      · rcases Nat.lt_or_eq_of_le (show i ≤ j by omega) with h4 | rfl
        · exact Int.le_of_lt (rise_le h.rise hq hj h4)
        · rw [hq] at hj; cases hj; exact Int.le_refl _
theorem rd_sup {ss : List Int} {l0 l1 : List Ord} (h : Prices ss l0 l1) {p : Int} {i : Nat} (hi : PtPos (ptsC ss l0 l1) p i) : rdS (ptsC ss l0 l1) p i = supO l1 p := by
  obtain ⟨h0, h1, h2⟩ := hi
  have hm : ∀ o ∈ l1, ∃ j : Nat, ss[j]? = some (o 3) := fun o ho => h.idx ((h.all _).2 (by rw [hasP_mem ho, Bool.or_true]))
  have hl : (ptsC ss l0 l1).length = ss.length := by simp [ptsC]
  -- where the point itself is not p
  have key : (∀ x, (ptsC ss l0 l1)[i]? = some x → x.p ≠ p) → prevS (ptsC ss l0 l1) i = supO l1 p := fun hne => by
    have hlt : ∀ (j : Nat) (q : Int), ss[j]? = some q → (q ≤ p ↔ j < i) := fun j q hj => by
      constructor
      · intro hle
        by_cases hji : j < i
        · exact hji
        · have h3 := h2 j _ (pts_c' hj) (by omega)
          simp only at h3
          exfalso
          have hqe : q = p := by omega
          have hjl := (List.getElem?_eq_some_iff.1 hj).1
          obtain ⟨q2, hq2⟩ : ∃ q2, ss[i]? = some q2 := ⟨ss[i]'(by omega), List.getElem?_eq_getElem _⟩
          have h4 := h2 i _ (pts_c' hq2) (Nat.le_refl _)
          have h5 := hne _ (pts_c' hq2)
          simp only at h4 h5
          rcases Nat.lt_or_eq_of_le (show i ≤ j by omega) with h6 | rfl
          · have := rise_le h.rise hq2 hj h6; omega
          · rw [hj] at hq2; cases hq2; omega
      · intro hji
        have := h1 j _ (pts_c' hj) hji
        simp only at this
        omega
    cases i with
    | zero =>
      symm
      refine chain_sum0 _ (fun o ho => ?_)
      obtain ⟨j, hj⟩ := hm o ho
      have := hlt j _ hj
      simp only [decide_eq_false_iff_not]
      omega
    | succ k =>
      obtain ⟨q, hq⟩ : ∃ q, ss[k]? = some q := ⟨ss[k]'(by omega), List.getElem?_eq_getElem _⟩
      simp only [prevS, pts_c' hq]
      unfold supO
      congr 1
      refine List.filter_congr fun o ho => ?_
      obtain ⟨j, hj⟩ := hm o ho
      rw [decide_eq_decide, hlt j _ hj]
      constructor
      · intro h3
        by_cases hjk : j ≤ k
        · omega
        · have := rise_le h.rise hq hj (by omega); omega
      · intro h3
        rcases Nat.lt_or_eq_of_le (show j ≤ k by omega) with h6 | rfl
        · exact Int.le_of_lt (rise_le h.rise hj hq h6)
        · rw [hq] at hj; cases hj; exact Int.le_refl _
  unfold rdS
  cases hx : (ptsC ss l0 l1)[i]? with
  | none => exact key (fun x h3 => by rw [hx] at h3; cases h3)
  | some x =>
    by_cases e : x.p = p
    · obtain ⟨q, hq, rfl⟩ := pts_c hx
      simp only at e ⊢
      rw [if_pos e, e]
    · simp only [e, if_false]
      exact key (fun y h3 => by rw [hx] at h3; cases h3; exact e)

theorem results_pt {fn : Func} {q : Tmp} (h : fn.results = #[.cell q 83]) (tmps : Array Value) (w : World) (g : Nat) (p d s : Int)
    (hp : tmps.getD q undef = .pointer (some ⟨g, 0, none⟩)) (hb : w.heap[g]? = some (.cells #[.int .i64 p, .int .i64 d, .int .i64 s] 83 (0, 0))) :
    (results fn tmps).run Try.prog w = .ok (ptV p d s) w := by
  have hp' : tmps[q]?.getD undef = .pointer (some ⟨g, 0, none⟩) := by simpa using hp
  simp [results, h, hp', asAddr, run_loadVar_row w g 83 83 _ (0, 0) _ hb Try.underlying83 rfl (by kernel_rfl)]
  rfl

set_option maxRecDepth 100000 in
set_option maxHeartbeats 2000000 in
theorem at47 (w : World) (B c : Nat) (p : Int) (pts : List Pt) (hc : CvAt w B c pts) (hr : pts.Pairwise (fun a b => a.p < b.p)) (hlen : pts.length ≤ 1000) :
    Calls Try.prog 47 #[.pointer (some ⟨c, 0, none⟩), .int .i64 p] w fun e w' => (∃ i, e = .returned (ptV p (rdD pts i) (rdS pts p i)) ∧ PtPos pts p i) ∧ Chg [] w w' := by
  obtain ⟨W, hCW, b2, b3, b4, b5, hz, eW⟩ : ∃ W, Chg [] w W ∧ W.heap[w.heap.size]? = some (.cells #[.pointer (some ⟨c, 0, none⟩)] 95 (0, 0)) ∧ W.heap[w.heap.size + 1]? = some (.cells #[.int .i64 p] 2 (0, 0)) ∧
      W.heap[w.heap.size + 1 + 1]? = some (.cells #[.int .i64 0, .int .i64 0, .int .i64 0] 83 (0, 0)) ∧ W.heap[w.heap.size + 1 + 1 + 1]? = some (.cells #[.int .i64 p, .int .i64 0, .int .i64 0] 83 (0, 0)) ∧ W.heap.size = w.heap.size + 4 ∧
      W = (((w.alloc (.cells #[.pointer (some ⟨c, 0, none⟩)] 95)).alloc (.cells #[.int .i64 p] 2)).alloc (.cells #[.int .i64 0, .int .i64 0, .int .i64 0] 83)).alloc (.cells #[.int .i64 p, .int .i64 0, .int .i64 0] 83) := by
    have hA1 := Chg.alloc [] w (.cells #[.pointer (some ⟨c, 0, none⟩)] 95)
    have b2 := heap_alloc_new w (.cells #[.pointer (some ⟨c, 0, none⟩)] 95)
    have hA2 := Chg.alloc [] (w.alloc (.cells #[.pointer (some ⟨c, 0, none⟩)] 95)) (.cells #[.int .i64 p] 2)
    have b3 := heap_alloc_new (w.alloc (.cells #[.pointer (some ⟨c, 0, none⟩)] 95)) (.cells #[.int .i64 p] 2)
    have hA3 := Chg.alloc [] ((w.alloc (.cells #[.pointer (some ⟨c, 0, none⟩)] 95)).alloc (.cells #[.int .i64 p] 2)) (.cells #[.int .i64 0, .int .i64 0, .int .i64 0] 83)
    have b4 := heap_alloc_new ((w.alloc (.cells #[.pointer (some ⟨c, 0, none⟩)] 95)).alloc (.cells #[.int .i64 p] 2)) (.cells #[.int .i64 0, .int .i64 0, .int .i64 0] 83)
    have hA4 := Chg.alloc [] (((w.alloc (.cells #[.pointer (some ⟨c, 0, none⟩)] 95)).alloc (.cells #[.int .i64 p] 2)).alloc (.cells #[.int .i64 0, .int .i64 0, .int .i64 0] 83)) (.cells #[.int .i64 p, .int .i64 0, .int .i64 0] 83)
    have b5 := heap_alloc_new (((w.alloc (.cells #[.pointer (some ⟨c, 0, none⟩)] 95)).alloc (.cells #[.int .i64 p] 2)).alloc (.cells #[.int .i64 0, .int .i64 0, .int .i64 0] 83)) (.cells #[.int .i64 p, .int .i64 0, .int .i64 0] 83)
    simp only [World.size_alloc] at b3 b4 b5
    exact ⟨_, ((hA1.trans hA2).trans hA3).trans hA4, hA4.at_ (hA3.at_ (hA2.at_ b2 (by simp)) (by simp)) (by simp), hA4.at_ (hA3.at_ b3 (by simp)) (by simp), hA4.at_ b4 (by simp), b5, by simp, rfl⟩
  obtain ⟨v, hb0, hs0, hf, hBc⟩ := hc
  have hcw := blk_lt hb0
  have hb := hCW.at_ hb0 (by simp)
  have hs := hs0.chg hCW (by simp)
  have hcW : CvAt W B c pts := ⟨v, hb, hs, hf, hBc⟩
  have hse := search73 W w.heap.size (w.heap.size + 1) B c p pts b2 b3 hcW hr hlen
  have hgw : ∀ g, v.ownBlock = some g → g < w.heap.size := fun g hg => hs0.lt hg
  clear hb0 hs0 hcW
  obtain ⟨A, cap, rfl, _, hA0⟩ := hs.form
  have c2 := blk1 b2
  have c3 := blk1 hb
  have HB := Lib.hid (And.intro b2 (And.intro b3 (And.intro b4 (And.intro b5 (And.intro hb (And.intro hs (And.intro hf hBc)))))))
  have HR := Lib.hid hr
  clear b2 b3 b4 b5 hb hs hf hBc hr
  rw [eW] at c2 c3
  go_enter Try.func47, Try.ntmps47
  go_wp2_with fail
  rw [← eW]
  refine hse.mono ?_
  rintro e W2 ⟨⟨i, rfl, hpos⟩, hC2⟩
  clear hse c2 c3 eW
  have h2 := hC2.at_ HB.out.1 (by simp)
  have h3 := hC2.at_ HB.out.2.1 (by simp)
  have h4 := hC2.at_ HB.out.2.2.1 (by simp)
  have h5 := hC2.at_ HB.out.2.2.2.1 (by simp)
  have hb := hC2.at_ HB.out.2.2.2.2.1 (by simp)
  have hs := HB.out.2.2.2.2.2.1.chg hC2 (by simp)
  have d2 := blk1 h2
  have d3 := blk1 h3
  have db := blk1 hb
  obtain ⟨a0, a1, a2⟩ := blk3V h5
  have f5 := blkfreeU h5
  have i0 : (0 : Int) ≤ (i : Int) := Int.natCast_nonneg _
  by_cases hin : i < pts.length
  · obtain ⟨g, rfl⟩ := hA0 (by omega)
    have i1 : (i : Int) < (pts.length : Int) := by omega
    obtain ⟨x, hx⟩ : ∃ x, pts[i]? = some x := ⟨pts[i], by simp [hin]⟩
    obtain ⟨e0, e1, e2⟩ := pts_at hs hx
    have hg := hs.lt (g := g) rfl
    obtain ⟨k4, hk4⟩ : ∃ k4, w.heap.size + 1 + 1 = k4 := ⟨_, rfl⟩
    obtain ⟨k5, hk5⟩ : ∃ k5, k4 + 1 = k5 := ⟨_, rfl⟩
    rw [hk4, hk5] at h5 a0 a1 a2 f5
    rw [hk4] at h4
    simp only [hk4, hk5]
    have hgw := hgw g rfl
    have hS3 := Chg.setCell (S := [k5]) W2 ⟨k5, 1, none⟩ (.int .i64 x.d) (by simp)
    have h53 := blk_set h5 1 (.int .i64 x.d)
    simp only [List.setIfInBounds_toArray, List.set_cons_zero, List.set_cons_succ] at h53
    go_wp2_with fail
    refine wp_tail 9 (by kernel_rfl) (by kernel_rfl) ?_
    intro W4 hW4
    have hT := hS3.trans hW4.nil
    have d2' := hT.cell d2 (by simp; omega)
    have d3' := hT.cell d3 (by simp; omega)
    have db' := hT.cell db (by simp; omega)
    have e0' := hT.cell e0 (by simp; omega)
    have e1' := hT.cell e1 (by simp; omega)
    have e2' := hT.cell e2 (by simp; omega)
    have h54 := hW4.at_ h53 (by simp)
    have h44 := hT.at_ h4 (by simp; omega)
    have f54 := blkfreeU h54
    clear d2 d3 db e0 e1 e2 h53 h4 h5 a0 a1 a2 f5
    simp only [List.take_succ_cons, List.take_zero, List.drop_succ_cons, List.drop_zero]
    repeat still_step
    refine wpStill_nil ?_
    by_cases e : x.p = p
    · have t1 : (x.p == p) = true := by simpa using e
      have h55 := blk_set h54 2 (.int .i64 x.s)
      simp only [List.setIfInBounds_toArray, List.set_cons_zero, List.set_cons_succ] at h55
      obtain ⟨q0, q1, q2⟩ := blk3V h55
      have hS5 := Chg.setCell (S := [k5]) W4 ⟨k5, 2, none⟩ (.int .i64 x.s) (by simp)
      have h45 := hS5.at_ h44 (by simp; omega)
      have f45 := blkfreeU h45
      obtain ⟨z0, z1, z2⟩ := blk3V h45
      obtain ⟨y0, y1, y2⟩ := blk3V h54
      have HF := Lib.hid (And.intro h45 (hT.trans hS5))
      clear h44 h54 h55 h45 hS5 hT
      have HXX := Lib.hid hx
      go_wp2_with fail
      refine bodyPost_ret (results_pt rfl _ _ k4 p x.d x.s rfl ?_) rfl ?_
      · have hz3 := blk_set (blk_set (blk_set HF.out.1 0 (.int .i64 p)) 1 (.int .i64 x.d)) 2 (.int .i64 x.s)
        simp only [List.setIfInBounds_toArray, List.set_cons_zero, List.set_cons_succ] at hz3
        exact hz3
      · exact ⟨⟨i, by simp [rdD, rdS, HXX.out, e], hpos⟩, ((((hCW.trans hC2).trans' HF.out.2 (U := []) (by simp) (by simp; omega)).putNew (by omega)).putNew (by omega)).putNew (by omega)⟩
    · have t1 : (x.p == p) = false := by simpa using e
      by_cases hi0 : i = 0
      · subst hi0
        have HXX := Lib.hid hx
        simp only [Int.natCast_zero] at *
        obtain ⟨z0, z1, z2⟩ := blk3V h44
        obtain ⟨y0, y1, y2⟩ := blk3V h54
        have f45 := blkfreeU h44
        have HF := Lib.hid (And.intro h44 hT)
        clear h44 h54
        go_wp2_with fail
        refine bodyPost_ret (results_pt rfl _ _ k4 p x.d 0 rfl ?_) rfl ?_
        · have hz3 := blk_set (blk_set (blk_set HF.out.1 0 (.int .i64 p)) 1 (.int .i64 x.d)) 2 (.int .i64 0)
          simp only [List.setIfInBounds_toArray, List.set_cons_zero, List.set_cons_succ] at hz3
          exact hz3
        · exact ⟨⟨0, by simp [rdD, rdS, prevS, HXX.out, e], hpos⟩, ((((hCW.trans hC2).trans' HF.out.2 (U := []) (by simp) (by simp; omega)).putNew (by omega)).putNew (by omega)).putNew (by omega)⟩
      · obtain ⟨j, rfl⟩ : ∃ j, i = j + 1 := ⟨i - 1, by omega⟩
        obtain ⟨y, hy⟩ : ∃ y, pts[j]? = some y := ⟨pts[j]'(by omega), List.getElem?_eq_getElem _⟩
        have HXX := Lib.hid (And.intro hx hy)
        obtain ⟨_, _, u2⟩ := pts_at hs hy
        have u2 := hT.cell u2 (by simp; omega)
        have j0 : (0 : Int) ≤ (j : Int) := Int.natCast_nonneg _
        have j1 : (j : Int) < (pts.length : Int) := by omega
        have j2 : (0 : Int) < (j : Int) + 1 := by omega
        have j4 : IntKind.i64.wrap (j : Int) = (j : Int) := wrapOk (by omega) (by omega)
        have h55 := blk_set h54 2 (.int .i64 y.s)
        simp only [List.setIfInBounds_toArray, List.set_cons_zero, List.set_cons_succ] at h55
        obtain ⟨q0, q1, q2⟩ := blk3V h55
        have hS5 := Chg.setCell (S := [k5]) W4 ⟨k5, 2, none⟩ (.int .i64 y.s) (by simp)
        have h45 := hS5.at_ h44 (by simp; omega)
        have f45 := blkfreeU h45
        obtain ⟨z0, z1, z2⟩ := blk3V h45
        obtain ⟨y0, y1, y2⟩ := blk3V h54
        have HF := Lib.hid (And.intro h45 (hT.trans hS5))
        clear h44 h54 h55 h45 hS5
        go_wp2_with fail
        refine bodyPost_ret (results_pt rfl _ _ k4 p x.d y.s rfl ?_) rfl ?_
        · have hz3 := blk_set (blk_set (blk_set HF.out.1 0 (.int .i64 p)) 1 (.int .i64 x.d)) 2 (.int .i64 y.s)
          simp only [List.setIfInBounds_toArray, List.set_cons_zero, List.set_cons_succ] at hz3
          exact hz3
        · exact ⟨⟨j + 1, by simp [rdD, rdS, prevS, HXX.out.1, HXX.out.2, e], hpos⟩, ((((hCW.trans hC2).trans' HF.out.2 (U := []) (by simp) (by simp; omega)).putNew (by omega)).putNew (by omega)).putNew (by omega)⟩
  · obtain rfl : i = pts.length := by have := hpos.1; omega
    obtain ⟨k4, hk4⟩ : ∃ k4, w.heap.size + 1 + 1 = k4 := ⟨_, rfl⟩
    obtain ⟨k5, hk5⟩ : ∃ k5, k4 + 1 = k5 := ⟨_, rfl⟩
    rw [hk4, hk5] at h5 a0 a1 a2 f5
    rw [hk4] at h4
    simp only [hk4, hk5]
    have HXX := Lib.hid hpos
    have hc5 : k5 ≠ k4 := by omega
    by_cases hi0 : pts.length = 0
    · have hnil : pts = [] := List.eq_nil_of_length_eq_zero hi0
      subst hnil
      obtain ⟨z0, z1, z2⟩ := blk3V h4
      have f45 := blkfreeU h4
      have HF := Lib.hid (And.intro h4 (Chg.refl [k5] W2))
      clear h4 h5 hpos hin
      simp only [List.length_nil, Int.natCast_zero] at *
      go_wp2_with fail
      refine bodyPost_ret (results_pt rfl _ _ k4 p 0 0 rfl ?_) rfl ?_
      · have hz3 := blk_set (blk_set (blk_set HF.out.1 0 (.int .i64 p)) 1 (.int .i64 0)) 2 (.int .i64 0)
        simp only [List.setIfInBounds_toArray, List.set_cons_zero, List.set_cons_succ] at hz3
        exact hz3
      · exact ⟨⟨0, by simp [rdD, rdS, prevS], HXX.out⟩, ((((hCW.trans hC2).trans' HF.out.2 (U := []) (by simp) (by simp; omega)).putNew (by omega)).putNew (by omega)).putNew (by omega)⟩
    · obtain ⟨g, rfl⟩ := hA0 (by omega)
      have hgw := hgw g rfl
      obtain ⟨j, hj⟩ : ∃ j, pts.length = j + 1 := ⟨pts.length - 1, by omega⟩
      obtain ⟨y, hy⟩ : ∃ y, pts[j]? = some y := ⟨pts[j]'(by omega), List.getElem?_eq_getElem _⟩
      obtain ⟨_, _, u2⟩ := pts_at hs hy
      have hg := hs.lt (g := g) rfl
      rw [hj] at db
      rw [hj]
      have j0 : (0 : Int) ≤ (j : Int) := Int.natCast_nonneg _
      have j1 : (j : Int) < (j : Int) + 1 := by omega
      have j2 : (0 : Int) < (j : Int) + 1 := by omega
      have j4 : IntKind.i64.wrap (j : Int) = (j : Int) := wrapOk (by omega) (by omega)
      have h55 := blk_set h5 2 (.int .i64 y.s)
      simp only [List.setIfInBounds_toArray, List.set_cons_zero, List.set_cons_succ] at h55
      obtain ⟨q0, q1, q2⟩ := blk3V h55
      have hS5 := Chg.setCell (S := [k5]) W2 ⟨k5, 2, none⟩ (.int .i64 y.s) (by simp)
      have h45 := hS5.at_ h4 (by simp; omega)
      have f45 := blkfreeU h45
      obtain ⟨z0, z1, z2⟩ := blk3V h45
      have HF := Lib.hid (And.intro h45 hS5)
      clear h4 h5 h55 h45 hS5
      go_wp2_with fail
      have hn : pts[j + 1]? = none := List.getElem?_eq_none (by omega)
      have hps : PtPos pts p (j + 1) := hj ▸ HXX.out
      refine bodyPost_ret (results_pt rfl _ _ k4 p 0 y.s rfl ?_) rfl ?_
      · have hz3 := blk_set (blk_set (blk_set HF.out.1 0 (.int .i64 p)) 1 (.int .i64 0)) 2 (.int .i64 y.s)
        simp only [List.setIfInBounds_toArray, List.set_cons_zero, List.set_cons_succ] at hz3
        exact hz3
      · exact ⟨⟨j + 1, by simp [rdD, rdS, prevS, hn, hy], hps⟩, ((((hCW.trans hC2).trans' HF.out.2 (U := []) (by simp) (by simp; omega)).putNew (by omega)).putNew (by omega)).putNew (by omega)⟩
end Go.Proofs.Ytdcjfaplgpeonaa
