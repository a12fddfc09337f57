/-
  The search among a curve's points.
-/
import Derived.Test.YtdcjfaplgpeonaaQd
namespace Go.Proofs.Ytdcjfaplgpeonaa
open Go.RowKit Go.Dm
attribute [local go_sem] Oper.semAt_some

set_option maxRecDepth 100000 in
set_option maxHeartbeats 2000000 in
theorem at74 (w : World) (bc bp B c : Nat) (p : Int) (pts : List Pt) (h0 : w.heap[bc]? = some (.cells #[.pointer (some ⟨c, 0, none⟩)] 95 (0, 0))) (h1 : w.heap[bp]? = some (.cells #[.int .i64 p] 2 (0, 0)))
    (hc : CvAt w B c pts) (i : Nat) (x : Pt) (hx : pts[i]? = some x) (hlen : pts.length ≤ 1000) :
    Calls Try.prog 74 #[.int .i64 i, .pointer (some ⟨bc, 0, none⟩), .pointer (some ⟨bp, 0, none⟩)] w fun e w' => e = .returned (.bool (decide (x.p ≥ p))) ∧ Chg [] w w' := by
  obtain ⟨v, hb, hs, hf, _⟩ := hc
  have hi : i < pts.length := (List.getElem?_eq_some_iff.1 hx).1
  obtain ⟨A, cap, rfl, _, hA⟩ := hs.form
  obtain ⟨g, rfl⟩ := hA (by omega)
  obtain ⟨e0, _, _⟩ := pts_at hs hx
  have c0 := blk1 h0
  have c1 := blk1 h1
  have c2 := blk1 hb
  have hg := hs.lt (g := g) rfl
  have i0 : (0 : Int) ≤ (i : Int) := Int.natCast_nonneg _
  have i1 : (i : Int) < (pts.length : Int) := by omega
  clear hx hs hf hA h0 h1 hb
  go_enter Try.func74, Try.ntmps74
  go_wp2_with fail
  refine wp_tail 10 (by kernel_rfl) (by kernel_rfl) ?_
  intro W hW
  have d0 := hW.cell c0 (by simp)
  have d1 := hW.cell c1 (by simp)
  have d2 := hW.cell c2 (by simp)
  have d3 := hW.cell e0 (by simp)
  simp only [List.take_succ_cons, List.take_zero, List.drop_succ_cons, List.drop_zero]
  repeat still_step
  refine wpStill_nil ?_
  go_wp2_with fail
  go_ret
  exact ⟨rfl, hW⟩

/-- Where a price stands: the points ahead lie below it, the others do not. -/
def PtPos (pts : List Pt) (p : Int) (i : Nat) : Prop := i ≤ pts.length ∧ (∀ (j : Nat) x, pts[j]? = some x → j < i → x.p < p) ∧ (∀ (j : Nat) x, pts[j]? = some x → i ≤ j → p ≤ x.p)
def SeRel (pts : List Pt) (p : Int) (w : World) (m : Nat) (a b : Value) (wr : World) : Prop :=
  ∃ i j : Nat, i ≤ j ∧ j ≤ pts.length ∧ m = j - i + 1 ∧ a = .int .i64 i ∧ b = .int .i64 j ∧ (∀ (t : Nat) x, pts[t]? = some x → t < i → x.p < p) ∧ (∀ (t : Nat) x, pts[t]? = some x → j ≤ t → p ≤ x.p) ∧ Chg [] w wr

set_option maxRecDepth 100000 in
set_option maxHeartbeats 2000000 in
theorem search73 (w : World) (bc bp B c : Nat) (p : Int) (pts : List Pt) (h0 : w.heap[bc]? = some (.cells #[.pointer (some ⟨c, 0, none⟩)] 95 (0, 0))) (h1 : w.heap[bp]? = some (.cells #[.int .i64 p] 2 (0, 0)))
    (hc : CvAt w B c pts) (hr : pts.Pairwise (fun a b => a.p < b.p)) (hlen : pts.length ≤ 1000) :
    Calls Try.prog 73 #[.int .i64 pts.length, .func (.func 74) #[] #[.pointer (some ⟨bc, 0, none⟩), .pointer (some ⟨bp, 0, none⟩)]] w fun e w' => (∃ i, e = .returned (.int .i64 (i : Nat)) ∧ PtPos pts p i) ∧ Chg [] w w' := by
  go_enter Try.func73, Try.ntmps73
  go_wp2_with fail
  go_loopg [5, 6] (pts.length + 1) (fun m a b wr => SeRel pts p w m a b wr)
  case atStart => exact ⟨0, pts.length, Nat.zero_le _, Nat.le_refl _, rfl, rfl, rfl, fun t x hx ht => by omega, fun t x hx ht => by have := (List.getElem?_eq_some_iff.1 hx).1; omega, Chg.refl _ _⟩
  case round =>
    obtain ⟨i, j, hij, hj, hm, rfl, rfl, hlo, hhi, hC⟩ := hrel
    have Hm := Lib.hid hm
    have HL := Lib.hid (And.intro hlo hhi)
    have HS := Lib.hid hr
    clear hm hlo hhi hr
    by_cases hlt : i < j
    · have i0 : (0 : Int) ≤ (i : Int) := Int.natCast_nonneg _
      have j0 : (0 : Int) ≤ (j : Int) := Int.natCast_nonneg _
      have j1 : (j : Int) ≤ 1000 := by omega
      have ij : (i : Int) < (j : Int) := by omega
      have t0 : (0 : Int) ≤ ((i : Int) + (j : Int)) / 2 := by omega
      have t1 : ((i : Int) + (j : Int)) / 2 < (pts.length : Int) := by omega
      have tn : (i + j) / 2 < pts.length := by omega
      obtain ⟨x, hx⟩ : ∃ x, pts[(i + j) / 2]? = some x := ⟨pts[(i + j) / 2], by simp [tn]⟩
      have hat := at74 wr bc bp B c p pts (hC.at_ h0 (by simp)) (hC.at_ h1 (by simp)) (hc.chg hC (by simp)) _ x hx hlen
      have HX := Lib.hid hx
      clear hx
      by_cases hlow : x.p < p
      · have d1 : decide (x.p ≥ p) = false := decide_eq_false (by omega)
        rw [d1] at hat
        have HW := Lib.hid hlow
        clear hlow d1
        go_wp2_with fail
        refine hat.mono ?_
        rintro e w' ⟨rfl, hC2⟩
        clear hat
        go_wp2_with fail
        go_roundg (j - ((i + j) / 2 + 1) + 1)
        case measure => rw [Hm.out]; omega
        case rel =>
          refine ⟨(i + j) / 2 + 1, j, by omega, by omega, rfl, by go_num, rfl, fun t y hy ht => ?_, HL.out.2, hC.trans hC2⟩
          by_cases e : t = (i + j) / 2
          · subst e; rw [HX.out] at hy; cases hy; exact HW.out
          · have hp := List.pairwise_iff_getElem.1 HS.out t ((i + j) / 2) (List.getElem?_eq_some_iff.1 hy).1 tn (by omega)
            rw [(List.getElem?_eq_some_iff.1 hy).2, (List.getElem?_eq_some_iff.1 HX.out).2] at hp
            exact Int.lt_trans hp HW.out
      · have d1 : decide (x.p ≥ p) = true := decide_eq_true (by omega)
        rw [d1] at hat
        have HW := Lib.hid hlow
        clear hlow d1
        go_wp2_with fail
        refine hat.mono ?_
        rintro e w' ⟨rfl, hC2⟩
        clear hat
        go_wp2_with fail
        go_roundg ((i + j) / 2 - i + 1)
        case measure => rw [Hm.out]; omega
        case rel =>
          refine ⟨i, (i + j) / 2, by omega, by omega, rfl, rfl, by go_num, HL.out.1, fun t y hy ht => ?_, hC.trans hC2⟩
          by_cases e : t = (i + j) / 2
          · subst e; rw [HX.out] at hy; cases hy; have := HW.out; omega
          · have hp := List.pairwise_iff_getElem.1 HS.out ((i + j) / 2) t tn (List.getElem?_eq_some_iff.1 hy).1 (by omega)
            rw [(List.getElem?_eq_some_iff.1 hy).2, (List.getElem?_eq_some_iff.1 HX.out).2] at hp
            have := HW.out
            omega
    · have hij2 : i = j := by omega
      subst hij2
      clear hlt hij
      have hpos : PtPos pts p i := ⟨hj, HL.out.1, HL.out.2⟩
      go_wp2_with fail
      go_ret
      exact ⟨⟨i, rfl, hpos⟩, hC⟩
end Go.Proofs.Ytdcjfaplgpeonaa

/-
  A curve's point at a price.
-/
namespace Go.Proofs.Ytdcjfaplgpeonaa
open Go.RowKit Go.Dm
attribute [local go_sem] Oper.semAt_some

theorem blk3V {w : World} {b : Nat} {u0 u1 u2 : Value} {t : TypeId} {fr : Nat × Nat} (h : w.heap[b]? = some (.cells #[u0, u1, u2] t fr)) :
    w.cell? ⟨b, 0, none⟩ = some u0 ∧ w.cell? ⟨b, 1, none⟩ = some u1 ∧ w.cell? ⟨b, 2, none⟩ = some u2 := by simp [World.cell?, h]
def ptV (p d s : Int) : Value := .agg #[.int .i64 p, .int .i64 d, .int .i64 s]
/-- What a search that ended at i reads. -/
def rdD (pts : List Pt) (i : Nat) : Int := match pts[i]? with | some x => x.d | none => 0
def prevS (pts : List Pt) : Nat → Int
  | 0 => 0
  | k + 1 => match pts[k]? with | some y => y.s | none => 0
def rdS (pts : List Pt) (p : Int) (i : Nat) : Int := match pts[i]? with
  | some x => if x.p = p then x.s else prevS pts i
  | none => prevS pts i
theorem chain_sum0 {l : List Ord} (f : Ord → Bool) (h : ∀ o ∈ l, f o = false) : sumO (l.filter f) = 0 := by
  have : l.filter f = [] := List.filter_eq_nil_iff.2 (fun o ho => by simp [h o ho])
  rw [this]; rfl
theorem pts_c {ss : List Int} {l0 l1 : List Ord} {i : Nat} {x : Pt} (h : (ptsC ss l0 l1)[i]? = some x) : ∃ q, ss[i]? = some q ∧ x = ⟨q, demO l0 q, supO l1 q⟩ := by
  simp only [ptsC, List.getElem?_map, Option.map_eq_some_iff] at h
  obtain ⟨q, hq, rfl⟩ := h
  exact ⟨q, hq, rfl⟩
theorem pts_c' {ss : List Int} {l0 l1 : List Ord} {i : Nat} {q : Int} (h : ss[i]? = some q) : (ptsC ss l0 l1)[i]? = some ⟨q, demO l0 q, supO l1 q⟩ := by simp [ptsC, h]
/-- Sums agree where no order's price lies between. -/
theorem rd_dem {ss : List Int} {l0 l1 : List Ord} (h : Prices ss l0 l1) {p : Int} {i : Nat} (hi : PtPos (ptsC ss l0 l1) p i) : rdD (ptsC ss l0 l1) i = demO l0 p := by
  obtain ⟨h0, h1, h2⟩ := hi
  have hm : ∀ o ∈ l0, ∃ j : Nat, ss[j]? = some (o 3) := fun o ho => h.idx ((h.all _).2 (by rw [hasP_mem ho, Bool.true_or]))
  unfold rdD
  cases hx : (ptsC ss l0 l1)[i]? with
  | none =>
    symm
    refine chain_sum0 _ (fun o ho => ?_)
    obtain ⟨j, hj⟩ := hm o ho
    have hjl := (List.getElem?_eq_some_iff.1 hj).1
    have hil : (ptsC ss l0 l1).length ≤ i := List.getElem?_eq_none_iff.1 hx
    have hl : (ptsC ss l0 l1).length = ss.length := by simp [ptsC]
    have := h1 j _ (pts_c' hj) (by omega)
    simp only [decide_eq_false_iff_not]
    simp only at this
    omega
  | some x =>
    obtain ⟨q, hq, rfl⟩ := pts_c hx
    have hqp := h2 i _ hx (Nat.le_refl _)
    simp only at hqp ⊢
    unfold demO
    congr 1
    refine List.filter_congr fun o ho => ?_
    obtain ⟨j, hj⟩ := hm o ho
    rw [decide_eq_decide]
    constructor
    · intro h3; omega
    · intro h3
      by_cases hji : j < i
      · have := h1 j _ (pts_c' hj) hji
        simp only at this
        omega
      · rcases Nat.lt_or_eq_of_le (show i ≤ j by omega) with h4 | rfl
        · exact Int.le_of_lt (rise_le h.rise hq hj h4)
        · rw [hq] at hj; cases hj; exact Int.le_refl _
theorem rd_sup {ss : List Int} {l0 l1 : List Ord} (h : Prices ss l0 l1) {p : Int} {i : Nat} (hi : PtPos (ptsC ss l0 l1) p i) : rdS (ptsC ss l0 l1) p i = supO l1 p := by
  obtain ⟨h0, h1, h2⟩ := hi
  have hm : ∀ o ∈ l1, ∃ j : Nat, ss[j]? = some (o 3) := fun o ho => h.idx ((h.all _).2 (by rw [hasP_mem ho, Bool.or_true]))
  have hl : (ptsC ss l0 l1).length = ss.length := by simp [ptsC]
  -- where the point itself is not p
  have key : (∀ x, (ptsC ss l0 l1)[i]? = some x → x.p ≠ p) → prevS (ptsC ss l0 l1) i = supO l1 p := fun hne => by
    have hlt : ∀ (j : Nat) (q : Int), ss[j]? = some q → (q ≤ p ↔ j < i) := fun j q hj => by
      constructor
      · intro hle
        by_cases hji : j < i
        · exact hji
        · have h3 := h2 j _ (pts_c' hj) (by omega)
          simp only at h3
          exfalso
          have hqe : q = p := by omega
          have hjl := (List.getElem?_eq_some_iff.1 hj).1
          obtain ⟨q2, hq2⟩ : ∃ q2, ss[i]? = some q2 := ⟨ss[i]'(by omega), List.getElem?_eq_getElem _⟩
          have h4 := h2 i _ (pts_c' hq2) (Nat.le_refl _)
          have h5 := hne _ (pts_c' hq2)
          simp only at h4 h5
          rcases Nat.lt_or_eq_of_le (show i ≤ j by omega) with h6 | rfl
          · have := rise_le h.rise hq2 hj h6; omega
          · rw [hj] at hq2; cases hq2; omega
      · intro hji
        have := h1 j _ (pts_c' hj) hji
        simp only at this
        omega
    cases i with
    | zero =>
      symm
      refine chain_sum0 _ (fun o ho => ?_)
      obtain ⟨j, hj⟩ := hm o ho
      have := hlt j _ hj
      simp only [decide_eq_false_iff_not]
      omega
    | succ k =>
      obtain ⟨q, hq⟩ : ∃ q, ss[k]? = some q := ⟨ss[k]'(by omega), List.getElem?_eq_getElem _⟩
      simp only [prevS, pts_c' hq]
      unfold supO
      congr 1
      refine List.filter_congr fun o ho => ?_
      obtain ⟨j, hj⟩ := hm o ho
      rw [decide_eq_decide, hlt j _ hj]
      constructor
      · intro h3
        by_cases hjk : j ≤ k
        · omega
        · have := rise_le h.rise hq hj (by omega); omega
      · intro h3
        rcases Nat.lt_or_eq_of_le (show j ≤ k by omega) with h6 | rfl
        · exact Int.le_of_lt (rise_le h.rise hj hq h6)
        · rw [hq] at hj; cases hj; exact Int.le_refl _
  unfold rdS
  cases hx : (ptsC ss l0 l1)[i]? with
  | none => exact key (fun x h3 => by rw [hx] at h3; cases h3)
  | some x =>
    by_cases e : x.p = p
    · obtain ⟨q, hq, rfl⟩ := pts_c hx
      simp only at e ⊢
      rw [if_pos e, e]
    · simp only [e, if_false]
      exact key (fun y h3 => by rw [hx] at h3; cases h3; exact e)

theorem results_pt {fn : Func} {q : Tmp} (h : fn.results = #[.cell q 83]) (tmps : Array Value) (w : World) (g : Nat) (p d s : Int)
    (hp : tmps.getD q undef = .pointer (some ⟨g, 0, none⟩)) (hb : w.heap[g]? = some (.cells #[.int .i64 p, .int .i64 d, .int .i64 s] 83 (0, 0))) :
    (results fn tmps).run Try.prog w = .ok (ptV p d s) w := by
  have hp' : tmps[q]?.getD undef = .pointer (some ⟨g, 0, none⟩) := by simpa using hp
  simp [results, h, hp', asAddr, run_loadVar_row w g 83 83 _ (0, 0) _ hb Try.underlying83 rfl (by kernel_rfl)]
  rfl

set_option maxRecDepth 100000 in
set_option maxHeartbeats 2000000 in
theorem at47 (w : World) (B c : Nat) (p : Int) (pts : List Pt) (hc : CvAt w B c pts) (hr : pts.Pairwise (fun a b => a.p < b.p)) (hlen : pts.length ≤ 1000) :
    Calls Try.prog 47 #[.pointer (some ⟨c, 0, none⟩), .int .i64 p] w fun e w' => (∃ i, e = .returned (ptV p (rdD pts i) (rdS pts p i)) ∧ PtPos pts p i) ∧ Chg [] w w' := by
  obtain ⟨W, hCW, b2, b3, b4, b5, hz, eW⟩ : ∃ W, Chg [] w W ∧ W.heap[w.heap.size]? = some (.cells #[.pointer (some ⟨c, 0, none⟩)] 95 (0, 0)) ∧ W.heap[w.heap.size + 1]? = some (.cells #[.int .i64 p] 2 (0, 0)) ∧
      W.heap[w.heap.size + 1 + 1]? = some (.cells #[.int .i64 0, .int .i64 0, .int .i64 0] 83 (0, 0)) ∧ W.heap[w.heap.size + 1 + 1 + 1]? = some (.cells #[.int .i64 p, .int .i64 0, .int .i64 0] 83 (0, 0)) ∧ W.heap.size = w.heap.size + 4 ∧
      W = (((w.alloc (.cells #[.pointer (some ⟨c, 0, none⟩)] 95)).alloc (.cells #[.int .i64 p] 2)).alloc (.cells #[.int .i64 0, .int .i64 0, .int .i64 0] 83)).alloc (.cells #[.int .i64 p, .int .i64 0, .int .i64 0] 83) := by
    have hA1 := Chg.alloc [] w (.cells #[.pointer (some ⟨c, 0, none⟩)] 95)
    have b2 := heap_alloc_new w (.cells #[.pointer (some ⟨c, 0, none⟩)] 95)
    have hA2 := Chg.alloc [] (w.alloc (.cells #[.pointer (some ⟨c, 0, none⟩)] 95)) (.cells #[.int .i64 p] 2)
    have b3 := heap_alloc_new (w.alloc (.cells #[.pointer (some ⟨c, 0, none⟩)] 95)) (.cells #[.int .i64 p] 2)
    have hA3 := Chg.alloc [] ((w.alloc (.cells #[.pointer (some ⟨c, 0, none⟩)] 95)).alloc (.cells #[.int .i64 p] 2)) (.cells #[.int .i64 0, .int .i64 0, .int .i64 0] 83)
    have b4 := heap_alloc_new ((w.alloc (.cells #[.pointer (some ⟨c, 0, none⟩)] 95)).alloc (.cells #[.int .i64 p] 2)) (.cells #[.int .i64 0, .int .i64 0, .int .i64 0] 83)
    have hA4 := Chg.alloc [] (((w.alloc (.cells #[.pointer (some ⟨c, 0, none⟩)] 95)).alloc (.cells #[.int .i64 p] 2)).alloc (.cells #[.int .i64 0, .int .i64 0, .int .i64 0] 83)) (.cells #[.int .i64 p, .int .i64 0, .int .i64 0] 83)
    have b5 := heap_alloc_new (((w.alloc (.cells #[.pointer (some ⟨c, 0, none⟩)] 95)).alloc (.cells #[.int .i64 p] 2)).alloc (.cells #[.int .i64 0, .int .i64 0, .int .i64 0] 83)) (.cells #[.int .i64 p, .int .i64 0, .int .i64 0] 83)
    simp only [World.size_alloc] at b3 b4 b5
    exact ⟨_, ((hA1.trans hA2).trans hA3).trans hA4, hA4.at_ (hA3.at_ (hA2.at_ b2 (by simp)) (by simp)) (by simp), hA4.at_ (hA3.at_ b3 (by simp)) (by simp), hA4.at_ b4 (by simp), b5, by simp, rfl⟩
  obtain ⟨v, hb0, hs0, hf, hBc⟩ := hc
  have hcw := blk_lt hb0
  have hb := hCW.at_ hb0 (by simp)
  have hs := hs0.chg hCW (by simp)
  have hcW : CvAt W B c pts := ⟨v, hb, hs, hf, hBc⟩
  have hse := search73 W w.heap.size (w.heap.size + 1) B c p pts b2 b3 hcW hr hlen
  have hgw : ∀ g, v.ownBlock = some g → g < w.heap.size := fun g hg => hs0.lt hg
  clear hb0 hs0 hcW
  obtain ⟨A, cap, rfl, _, hA0⟩ := hs.form
  have c2 := blk1 b2
  have c3 := blk1 hb
  have HB := Lib.hid (And.intro b2 (And.intro b3 (And.intro b4 (And.intro b5 (And.intro hb (And.intro hs (And.intro hf hBc)))))))
  have HR := Lib.hid hr
  clear b2 b3 b4 b5 hb hs hf hBc hr
  rw [eW] at c2 c3
  go_enter Try.func47, Try.ntmps47
  go_wp2_with fail
  rw [← eW]
  refine hse.mono ?_
  rintro e W2 ⟨⟨i, rfl, hpos⟩, hC2⟩
  clear hse c2 c3 eW
  have h2 := hC2.at_ HB.out.1 (by simp)
  have h3 := hC2.at_ HB.out.2.1 (by simp)
  have h4 := hC2.at_ HB.out.2.2.1 (by simp)
  have h5 := hC2.at_ HB.out.2.2.2.1 (by simp)
  have hb := hC2.at_ HB.out.2.2.2.2.1 (by simp)
  have hs := HB.out.2.2.2.2.2.1.chg hC2 (by simp)
  have d2 := blk1 h2
  have d3 := blk1 h3
  have db := blk1 hb
  obtain ⟨a0, a1, a2⟩ := blk3V h5
  have f5 := blkfreeU h5
  have i0 : (0 : Int) ≤ (i : Int) := Int.natCast_nonneg _
  by_cases hin : i < pts.length
  · obtain ⟨g, rfl⟩ := hA0 (by omega)
    have i1 : (i : Int) < (pts.length : Int) := by omega
    obtain ⟨x, hx⟩ : ∃ x, pts[i]? = some x := ⟨pts[i], by simp [hin]⟩
    obtain ⟨e0, e1, e2⟩ := pts_at hs hx
    have hg := hs.lt (g := g) rfl
    obtain ⟨k4, hk4⟩ : ∃ k4, w.heap.size + 1 + 1 = k4 := ⟨_, rfl⟩
    obtain ⟨k5, hk5⟩ : ∃ k5, k4 + 1 = k5 := ⟨_, rfl⟩
    rw [hk4, hk5] at h5 a0 a1 a2 f5
    rw [hk4] at h4
    simp only [hk4, hk5]
    have hgw := hgw g rfl
    have hS3 := Chg.setCell (S := [k5]) W2 ⟨k5, 1, none⟩ (.int .i64 x.d) (by simp)
    have h53 := blk_set h5 1 (.int .i64 x.d)
    simp only [List.setIfInBounds_toArray, List.set_cons_zero, List.set_cons_succ] at h53
    go_wp2_with fail
    refine wp_tail 9 (by kernel_rfl) (by kernel_rfl) ?_
    intro W4 hW4
    have hT := hS3.trans hW4.nil
    have d2' := hT.cell d2 (by simp; omega)
    have d3' := hT.cell d3 (by simp; omega)
    have db' := hT.cell db (by simp; omega)
    have e0' := hT.cell e0 (by simp; omega)
    have e1' := hT.cell e1 (by simp; omega)
    have e2' := hT.cell e2 (by simp; omega)
    have h54 := hW4.at_ h53 (by simp)
    have h44 := hT.at_ h4 (by simp; omega)
    have f54 := blkfreeU h54
    clear d2 d3 db e0 e1 e2 h53 h4 h5 a0 a1 a2 f5
    simp only [List.take_succ_cons, List.take_zero, List.drop_succ_cons, List.drop_zero]
    repeat still_step
    refine wpStill_nil ?_
    by_cases e : x.p = p
    · have t1 : (x.p == p) = true := by simpa using e
      have h55 := blk_set h54 2 (.int .i64 x.s)
      simp only [List.setIfInBounds_toArray, List.set_cons_zero, List.set_cons_succ] at h55
      obtain ⟨q0, q1, q2⟩ := blk3V h55
      have hS5 := Chg.setCell (S := [k5]) W4 ⟨k5, 2, none⟩ (.int .i64 x.s) (by simp)
      have h45 := hS5.at_ h44 (by simp; omega)
      have f45 := blkfreeU h45
      obtain ⟨z0, z1, z2⟩ := blk3V h45
      obtain ⟨y0, y1, y2⟩ := blk3V h54
      have HF := Lib.hid (And.intro h45 (hT.trans hS5))
      clear h44 h54 h55 h45 hS5 hT
      have HXX := Lib.hid hx
      go_wp2_with fail
      refine bodyPost_ret (results_pt rfl _ _ k4 p x.d x.s rfl ?_) rfl ?_
      · have hz3 := blk_set (blk_set (blk_set HF.out.1 0 (.int .i64 p)) 1 (.int .i64 x.d)) 2 (.int .i64 x.s)
        simp only [List.setIfInBounds_toArray, List.set_cons_zero, List.set_cons_succ] at hz3
        exact hz3
      · exact ⟨⟨i, by simp [rdD, rdS, HXX.out, e], hpos⟩, ((((hCW.trans hC2).trans' HF.out.2 (U := []) (by simp) (by simp; omega)).putNew (by omega)).putNew (by omega)).putNew (by omega)⟩
    · have t1 : (x.p == p) = false := by simpa using e
      by_cases hi0 : i = 0
      · subst hi0
        have HXX := Lib.hid hx
        simp only [Int.natCast_zero] at *
        obtain ⟨z0, z1, z2⟩ := blk3V h44
        obtain ⟨y0, y1, y2⟩ := blk3V h54
        have f45 := blkfreeU h44
        have HF := Lib.hid (And.intro h44 hT)
        clear h44 h54
        go_wp2_with fail
        refine bodyPost_ret (results_pt rfl _ _ k4 p x.d 0 rfl ?_) rfl ?_
        · have hz3 := blk_set (blk_set (blk_set HF.out.1 0 (.int .i64 p)) 1 (.int .i64 x.d)) 2 (.int .i64 0)
          simp only [List.setIfInBounds_toArray, List.set_cons_zero, List.set_cons_succ] at hz3
          exact hz3
        · exact ⟨⟨0, by simp [rdD, rdS, prevS, HXX.out, e], hpos⟩, ((((hCW.trans hC2).trans' HF.out.2 (U := []) (by simp) (by simp; omega)).putNew (by omega)).putNew (by omega)).putNew (by omega)⟩
      · obtain ⟨j, rfl⟩ : ∃ j, i = j + 1 := ⟨i - 1, by omega⟩
        obtain ⟨y, hy⟩ : ∃ y, pts[j]? = some y := ⟨pts[j]'(by omega), List.getElem?_eq_getElem _⟩
        have HXX := Lib.hid (And.intro hx hy)
        obtain ⟨_, _, u2⟩ := pts_at hs hy
        have u2 := hT.cell u2 (by simp; omega)
        have j0 : (0 : Int) ≤ (j : Int) := Int.natCast_nonneg _
        have j1 : (j : Int) < (pts.length : Int) := by omega
        have j2 : (0 : Int) < (j : Int) + 1 := by omega
        have j4 : IntKind.i64.wrap (j : Int) = (j : Int) := wrapOk (by omega) (by omega)
        have h55 := blk_set h54 2 (.int .i64 y.s)
        simp only [List.setIfInBounds_toArray, List.set_cons_zero, List.set_cons_succ] at h55
        obtain ⟨q0, q1, q2⟩ := blk3V h55
        have hS5 := Chg.setCell (S := [k5]) W4 ⟨k5, 2, none⟩ (.int .i64 y.s) (by simp)
        have h45 := hS5.at_ h44 (by simp; omega)
        have f45 := blkfreeU h45
        obtain ⟨z0, z1, z2⟩ := blk3V h45
        obtain ⟨y0, y1, y2⟩ := blk3V h54
        have HF := Lib.hid (And.intro h45 (hT.trans hS5))
        clear h44 h54 h55 h45 hS5
        go_wp2_with fail
        refine bodyPost_ret (results_pt rfl _ _ k4 p x.d y.s rfl ?_) rfl ?_
        · have hz3 := blk_set (blk_set (blk_set HF.out.1 0 (.int .i64 p)) 1 (.int .i64 x.d)) 2 (.int .i64 y.s)
          simp only [List.setIfInBounds_toArray, List.set_cons_zero, List.set_cons_succ] at hz3
          exact hz3
        · exact ⟨⟨j + 1, by simp [rdD, rdS, prevS, HXX.out.1, HXX.out.2, e], hpos⟩, ((((hCW.trans hC2).trans' HF.out.2 (U := []) (by simp) (by simp; omega)).putNew (by omega)).putNew (by omega)).putNew (by omega)⟩
  · obtain rfl : i = pts.length := by have := hpos.1; omega
    obtain ⟨k4, hk4⟩ : ∃ k4, w.heap.size + 1 + 1 = k4 := ⟨_, rfl⟩
    obtain ⟨k5, hk5⟩ : ∃ k5, k4 + 1 = k5 := ⟨_, rfl⟩
    rw [hk4, hk5] at h5 a0 a1 a2 f5
    rw [hk4] at h4
    simp only [hk4, hk5]
    have HXX := Lib.hid hpos
    have hc5 : k5 ≠ k4 := by omega
    by_cases hi0 : pts.length = 0
    · have hnil : pts = [] := List.eq_nil_of_length_eq_zero hi0
      subst hnil
      obtain ⟨z0, z1, z2⟩ := blk3V h4
      have f45 := blkfreeU h4
      have HF := Lib.hid (And.intro h4 (Chg.refl [k5] W2))
      clear h4 h5 hpos hin
      simp only [List.length_nil, Int.natCast_zero] at *
      go_wp2_with fail
      refine bodyPost_ret (results_pt rfl _ _ k4 p 0 0 rfl ?_) rfl ?_
      · have hz3 := blk_set (blk_set (blk_set HF.out.1 0 (.int .i64 p)) 1 (.int .i64 0)) 2 (.int .i64 0)
        simp only [List.setIfInBounds_toArray, List.set_cons_zero, List.set_cons_succ] at hz3
        exact hz3
      · exact ⟨⟨0, by simp [rdD, rdS, prevS], HXX.out⟩, ((((hCW.trans hC2).trans' HF.out.2 (U := []) (by simp) (by simp; omega)).putNew (by omega)).putNew (by omega)).putNew (by omega)⟩
    · obtain ⟨g, rfl⟩ := hA0 (by omega)
      have hgw := hgw g rfl
      obtain ⟨j, hj⟩ : ∃ j, pts.length = j + 1 := ⟨pts.length - 1, by omega⟩
      obtain ⟨y, hy⟩ : ∃ y, pts[j]? = some y := ⟨pts[j]'(by omega), List.getElem?_eq_getElem _⟩
      obtain ⟨_, _, u2⟩ := pts_at hs hy
      have hg := hs.lt (g := g) rfl
      rw [hj] at db
      rw [hj]
      have j0 : (0 : Int) ≤ (j : Int) := Int.natCast_nonneg _
      have j1 : (j : Int) < (j : Int) + 1 := by omega
      have j2 : (0 : Int) < (j : Int) + 1 := by omega
      have j4 : IntKind.i64.wrap (j : Int) = (j : Int) := wrapOk (by omega) (by omega)
      have h55 := blk_set h5 2 (.int .i64 y.s)
      simp only [List.setIfInBounds_toArray, List.set_cons_zero, List.set_cons_succ] at h55
      obtain ⟨q0, q1, q2⟩ := blk3V h55
      have hS5 := Chg.setCell (S := [k5]) W2 ⟨k5, 2, none⟩ (.int .i64 y.s) (by simp)
      have h45 := hS5.at_ h4 (by simp; omega)
      have f45 := blkfreeU h45
      obtain ⟨z0, z1, z2⟩ := blk3V h45
      have HF := Lib.hid (And.intro h45 hS5)
      clear h4 h5 h55 h45 hS5
      go_wp2_with fail
      have hn : pts[j + 1]? = none := List.getElem?_eq_none (by omega)
      have hps : PtPos pts p (j + 1) := hj ▸ HXX.out
      refine bodyPost_ret (results_pt rfl _ _ k4 p 0 y.s rfl ?_) rfl ?_
      · have hz3 := blk_set (blk_set (blk_set HF.out.1 0 (.int .i64 p)) 1 (.int .i64 0)) 2 (.int .i64 y.s)
        simp only [List.setIfInBounds_toArray, List.set_cons_zero, List.set_cons_succ] at hz3
        exact hz3
      · exact ⟨⟨j + 1, by simp [rdD, rdS, prevS, hn, hy], hps⟩, ((((hCW.trans hC2).trans' HF.out.2 (U := []) (by simp) (by simp; omega)).putNew (by omega)).putNew (by omega)).putNew (by omega)⟩
end Go.Proofs.Ytdcjfaplgpeonaa

/-
  What Each hands of the pool's book.
-/
namespace Go.Proofs.Ytdcjfaplgpeonaa
open Go.RowKit Go.Dm
attribute [local go_sem] Oper.semAt_some

/-- The slots of a side, in the order in which Each hands them. -/
def slX (lv0 lv1 : List Lvl) (s : Nat) : List Nat := if s = 0 then lv0.flatMap (·.s) else lv1.flatMap (·.s)
theorem each_pb {w : World} {D : Nat} {B : Bkb} {L : List Ord} {lv0 lv1 : List Lvl} {v0 v1 : Value} (h : PB w D B L lv0 lv1 v0 v1) (hlen : L.length ≤ 60) : EachIs w (some ⟨B.b, 0, none⟩) L (slX lv0 lv1) := by
  intro s W bx by_ T m hs hm hC hbx hby hT
  have hn : ∀ k, k < w.heap.size → k ∉ T := fun k hk hm => by have := hT k hm; omega
  obtain ⟨c, hca, hch⟩ := h.ar
  have lb := h.bc0.kind.lt
  have la := hca.lt
  rcases (by omega : s = 0 ∨ s = 1) with rfl | rfl
  · obtain ⟨nf, ef, ff, _⟩ := h.s0.ff
    have hI : It87 W bx by_ B.b 1 B.ar B.x B.s0 0 D L lv0 v0 c := ⟨hbx, hby, h.bc0.chg hC (by simp), h.s0.chg hC (by simp) (by simp) (by simp) (by simp) (by simp), hca.chg hC (by simp)⟩
    exact iter87 m hm W bx by_ B.b 1 B.ar B.x B.s0 0 D L lv0 v0 c hI (fun w => of79_0 w B.b) hch hlen T (hn _ lb) (hn _ la) (hn _ (blk_lt ff.blk)) (hn _ ff.nds.lt) (hn _ ff.eds.lt) (hn _ (blk_lt h.s0.ld)) (fun g hg => hn _ (h.s0.sl.lt hg))
  · obtain ⟨nf, ef, ff, _⟩ := h.s1.ff
    have hI : It87 W bx by_ B.b 3 B.ar B.x B.s1 1 D L lv1 v1 c := ⟨hbx, hby, h.bc1.chg hC (by simp), h.s1.chg hC (by simp) (by simp) (by simp) (by simp) (by simp), hca.chg hC (by simp)⟩
    exact iter87 m hm W bx by_ B.b 3 B.ar B.x B.s1 1 D L lv1 v1 c hI (fun w => of79_1 w B.b) hch hlen T (hn _ lb) (hn _ la) (hn _ (blk_lt ff.blk)) (hn _ ff.nds.lt) (hn _ ff.eds.lt) (hn _ (blk_lt h.s1.ld)) (fun g hg => hn _ (h.s1.sl.lt hg))
end Go.Proofs.Ytdcjfaplgpeonaa

/-
  The sums over a side are sums over the orders; how much a point trades.
-/
namespace Go.Proofs.Ytdcjfaplgpeonaa
open Go.RowKit Go.Dm
attribute [local go_sem] Oper.semAt_some

theorem range_getD (L : List Ord) : (List.range L.length).map (fun i => L.getD i (fun _ => 0)) = L := by
  refine List.ext_getElem? fun i => ?_
  rw [List.getElem?_map]
  by_cases hi : i < L.length
  · rw [List.getElem?_range hi]; simp [List.getD, hi]
  · rw [List.getElem?_eq_none (by simp; omega), List.getElem?_eq_none (by omega)]; rfl
theorem sideO_map (L : List Ord) (s : List Nat) (h : ∀ i ∈ s, i < L.length) : sideO L s = s.map (fun i => L.getD i (fun _ => 0)) := by
  unfold sideO ordsS
  have := congrArg (List.map (fun i => L.getD i (fun _ => (0 : Int)))) (toS_val L s h)
  rw [List.map_map] at this
  exact this
theorem sideO_perm {sd : Int} {lv : List Lvl} {L : List Ord} (ok : LvOk sd lv L) : (sideO L (lv.flatMap (·.s))).Perm (L.filter (fun o => decide (o 2 = sd))) := by
  have hlt : ∀ i ∈ lv.flatMap (·.s), i < L.length := fun i hi => by
    obtain ⟨x, hx, hi⟩ := List.mem_flatMap.1 hi
    exact ok.lt hx hi
  rw [sideO_map L _ hlt]
  have h1 : (lv.flatMap (·.s)).Perm ((List.range L.length).filter (fun i => decide ((L.getD i (fun _ => 0)) 2 = sd))) := by
    refine (List.perm_ext_iff_of_nodup ok.nodup (List.Nodup.sublist List.filter_sublist List.nodup_range)).2 fun i => ?_
    rw [List.mem_filter, List.mem_range, decide_eq_true_eq]
    constructor
    · intro hi
      obtain ⟨x, hx, hi2⟩ := List.mem_flatMap.1 hi
      obtain ⟨o, ho, h2, _⟩ := ok.slots x hx i hi2
      refine ⟨hlt i hi, ?_⟩
      simp [List.getD, ho, h2]
    · rintro ⟨hi, h2⟩
      have ho : L[i]? = some (L.getD i (fun _ => 0)) := by simp [List.getD, hi]
      obtain ⟨x, hx, hi2⟩ := ok.all i _ ho h2
      exact List.mem_flatMap.2 ⟨x, hx, hi2⟩
  have h2 := h1.map (fun i => L.getD i (fun _ => (0 : Int)))
  refine h2.trans ?_
  have h3 : L.filter (fun o => decide (o 2 = sd)) = ((List.range L.length).map (fun i => L.getD i (fun _ => 0))).filter (fun o => decide (o 2 = sd)) := by rw [range_getD]
  rw [h3, List.filter_map]
  exact List.Perm.refl _
theorem sumO_perm {a b : List Ord} (h : a.Perm b) : sumO a = sumO b := by
  unfold sumO
  induction h with
  | nil => rfl
  | cons x _ ih => simp only [List.map_cons, List.sum_cons, ih]
  | swap x y l => simp only [List.map_cons, List.sum_cons]; omega
  | trans _ _ h1 h2 => exact h1.trans h2
theorem demO_perm {a b : List Ord} (h : a.Perm b) (p : Int) : demO a p = demO b p := sumO_perm (h.filter _)
theorem supO_perm {a b : List Ord} (h : a.Perm b) (p : Int) : supO a p = supO b p := sumO_perm (h.filter _)

theorem vol37 (w : World) (p d s : Int) : Calls Try.prog 37 #[ptV p d s] w fun e w' => e = .returned (.int .i64 (min d s)) ∧ Chg [] w w' := by
  have hA := Chg.alloc [] w (.cells #[.int .i64 p, .int .i64 d, .int .i64 s] 83)
  unfold ptV
  go_enter Try.func37, Try.ntmps37
  go_wp2_with fail
  go_ret
  exact ⟨rfl, hA⟩
theorem odd63 (w : World) (d s : Int) : Calls Try.prog 63 #[.int .i64 d, .int .i64 s] w fun e w' => e = .returned (.int .i64 (wrap64 (max d s - min d s))) ∧ w' = w := by
  go_enter Try.func63, Try.ntmps63
  go_wp2_with fail
  go_ret
  exact ⟨rfl, rfl⟩
theorem odd40 (w : World) (p d s : Int) : Calls Try.prog 40 #[ptV p d s] w fun e w' => e = .returned (.int .i64 (wrap64 (max d s - min d s))) ∧ Chg [] w w' := by
  have hA := Chg.alloc [] w (.cells #[.int .i64 p, .int .i64 d, .int .i64 s] 83)
  unfold ptV
  go_enter Try.func40, Try.ntmps40
  go_wp2_with fail
  refine (odd63 _ _ _).mono ?_
  rintro e w' ⟨rfl, rfl⟩
  go_wp2_with fail
  go_ret
  exact ⟨rfl, hA⟩
theorem rvol39 (w : World) (p d s : Int) : Calls Try.prog 39 #[ptV p d s] w fun e w' => e = .returned (.int .i64 (min d s)) ∧ Chg [] w w' := by
  have hA := Chg.alloc [] w (.cells #[.int .i64 p, .int .i64 d, .int .i64 s] 81)
  unfold ptV
  go_enter Try.func39, Try.ntmps39
  go_wp2_with fail
  go_ret
  exact ⟨rfl, hA⟩
theorem rodd41 (w : World) (p d s : Int) : Calls Try.prog 41 #[ptV p d s] w fun e w' => e = .returned (.int .i64 (wrap64 (max d s - min d s))) ∧ Chg [] w w' := by
  have hA := Chg.alloc [] w (.cells #[.int .i64 p, .int .i64 d, .int .i64 s] 81)
  unfold ptV
  go_enter Try.func41, Try.ntmps41
  go_wp2_with fail
  go_ret
  exact ⟨rfl, hA⟩
theorem own38 (w : World) (p d s : Int) : Calls Try.prog 38 #[ptV p d s] w fun e w' => e = .returned (ptV p d s) ∧ Chg [] w w' := by
  have hA := Chg.alloc [] w (.cells #[.int .i64 p, .int .i64 d, .int .i64 s] 81)
  have hA2 := Chg.alloc [] (w.alloc (.cells #[.int .i64 p, .int .i64 d, .int .i64 s] 81)) (.cells #[.int .i64 p, .int .i64 d, .int .i64 s] 83)
  have b := heap_alloc_new (w.alloc (.cells #[.int .i64 p, .int .i64 d, .int .i64 s] 81)) (.cells #[.int .i64 p, .int .i64 d, .int .i64 s] 83)
  simp only [World.size_alloc] at b
  have hC := hA.trans hA2
  unfold ptV
  go_enter Try.func38, Try.ntmps38
  go_wp2_with fail
  refine bodyPost_ret (results_pt rfl _ _ (w.heap.size + 1) p d s rfl b) rfl ?_
  exact ⟨rfl, hC⟩
end Go.Proofs.Ytdcjfaplgpeonaa

/-
  The chapter's example; what any point trades.
-/
namespace Go.Proofs.Ytdcjfaplgpeonaa
open Go.RowKit Go.Dm
attribute [local go_sem] Oper.semAt_some

def sdO (L : List Ord) (sd : Int) : List Ord := L.filter (fun o => decide (o 2 = sd))
theorem hasP_perm {a b : List Ord} (h : a.Perm b) (p : Int) : hasP a p = hasP b p := by
  rw [Bool.eq_iff_iff]
  unfold hasP
  simp only [List.any_eq_true]
  constructor
  · rintro ⟨o, ho, h2⟩; exact ⟨o, h.mem_iff.1 ho, h2⟩
  · rintro ⟨o, ho, h2⟩; exact ⟨o, h.mem_iff.2 ho, h2⟩
theorem Prices.perm {ss : List Int} {a0 a1 b0 b1 : List Ord} (h : Prices ss a0 a1) (h0 : a0.Perm b0) (h1 : a1.Perm b1) : Prices ss b0 b1 :=
  ⟨h.rise, fun q => by rw [h.all, hasP_perm h0, hasP_perm h1]⟩
theorem ptsC_perm {ss : List Int} {a0 a1 b0 b1 : List Ord} (h0 : a0.Perm b0) (h1 : a1.Perm b1) : ptsC ss a0 a1 = ptsC ss b0 b1 := by
  unfold ptsC
  exact List.map_congr_left fun q _ => by rw [demO_perm h0, supO_perm h1]
theorem Prices.len {ss : List Int} {l0 l1 : List Ord} (h : Prices ss l0 l1) : ss.length ≤ l0.length + l1.length := by
  have hn : ss.Nodup := h.rise.imp (fun h => by omega)
  have hs : ss ⊆ (l0 ++ l1).map (fun o => o 3) := fun q hq => by
    have hc := (h.all q).1 hq
    rw [Bool.or_eq_true] at hc
    unfold hasP at hc
    rw [List.any_eq_true, List.any_eq_true] at hc
    rw [List.mem_map]
    rcases hc with ⟨o, ho, h2⟩ | ⟨o, ho, h2⟩
    · exact ⟨o, List.mem_append_left _ ho, by simpa using h2⟩
    · exact ⟨o, List.mem_append_right _ ho, by simpa using h2⟩
  have := List.Nodup.length_le_of_subset hn hs
  simpa using this
/-- The curve of the pool's book. -/
theorem of_pb {w : World} {D : Nat} {B : Bkb} {L : List Ord} {lv0 lv1 : List Lvl} {v0 v1 : Value} (h : PB w D B L lv0 lv1 v0 v1) (hlen : L.length ≤ 60) (hq : QtyOk L) :
    Calls Try.prog 44 #[.pointer (some ⟨B.b, 0, none⟩)] w fun e w' => ∃ c ss, e = .returned (.pointer (some ⟨c, 0, none⟩)) ∧ Prices ss (sdO L 0) (sdO L 1) ∧ CvAt w' w.heap.size c (ptsC ss (sdO L 0) (sdO L 1)) ∧ Chg [] w w' := by
  have p0 := sideO_perm h.s0.ok
  have p1 := sideO_perm h.s1.ok
  have hX : ∀ s, (slX lv0 lv1 s).length ≤ 60 := fun s => by
    have e0 : (lv0.flatMap (·.s)).length ≤ L.length := by
      have hlt : ∀ i ∈ lv0.flatMap (·.s), i < L.length := fun i hi => by
        obtain ⟨x, hx, hi⟩ := List.mem_flatMap.1 hi
        exact h.s0.ok.lt hx hi
      have := List.Nodup.length_le_of_subset h.s0.ok.nodup (fun i hi => List.mem_range.2 (hlt i hi))
      simpa using this
    have e1 : (lv1.flatMap (·.s)).length ≤ L.length := by
      have hlt : ∀ i ∈ lv1.flatMap (·.s), i < L.length := fun i hi => by
        obtain ⟨x, hx, hi⟩ := List.mem_flatMap.1 hi
        exact h.s1.ok.lt hx hi
      have := List.Nodup.length_le_of_subset h.s1.ok.nodup (fun i hi => List.mem_range.2 (hlt i hi))
      simpa using this
    unfold slX
    split <;> omega
  refine (of44 w _ L (slX lv0 lv1) (each_pb h hlen) hq hX).mono ?_
  rintro e w' ⟨c, ss, rfl, hP, hc, hC⟩
  have q0 : (sideO L (slX lv0 lv1 0)).Perm (sdO L 0) := p0
  have q1 : (sideO L (slX lv0 lv1 1)).Perm (sdO L 1) := p1
  exact ⟨c, ss, rfl, hP.perm q0 q1, by rw [← ptsC_perm q0 q1]; exact hc, hC⟩
/-- A curve's point at a price. -/
theorem cv_at {w : World} {B c : Nat} {ss : List Int} {l0 l1 : List Ord} (hP : Prices ss l0 l1) (hc : CvAt w B c (ptsC ss l0 l1)) (h0 : l0.length ≤ 60) (h1 : l1.length ≤ 60) (p : Int) :
    Calls Try.prog 47 #[.pointer (some ⟨c, 0, none⟩), .int .i64 p] w fun e w' => e = .returned (ptV p (demO l0 p) (supO l1 p)) ∧ Chg [] w w' := by
  have hl := hP.len
  refine (at47 w B c p _ hc ?_ (by simp only [ptsC, List.length_map]; omega)).mono ?_
  · unfold ptsC
    rw [List.pairwise_map]
    exact hP.rise
  · rintro e w' ⟨⟨i, rfl, hi⟩, hC⟩
    rw [rd_dem hP hi, rd_sup hP hi]
    exact ⟨rfl, hC⟩

def exA : Ord := fun q => match q with | 0 => 1 | 3 => 10 | 4 => 3 | _ => 0
def exB : Ord := fun q => match q with | 0 => 2 | 2 => 1 | 3 => 9 | 4 => 2 | _ => 0
theorem ex_book : bookL [exA, exB] = [exA, exB] := by
  simp [bookL, addL, takes, okO, exA, exB, hasId]

set_option maxRecDepth 100000 in
set_option maxHeartbeats 2000000 in
theorem alive36 (w : World) : Calls Try.prog 36 #[] w fun e w' => e = .returned (.bool true) ∧ Chg [] w w' := by
  obtain ⟨W0, eW0⟩ : ∃ W0, w.alloc (.cells #[.int .i64 1, .int .i64 0, .int .i64 0, .int .i64 10, .int .i64 3, .int .i64 0, .int .i64 0, .int .i64 2, .int .i64 0, .int .i64 1, .int .i64 9, .int .i64 2, .int .i64 0, .int .i64 0] 52) = W0 := ⟨_, rfl⟩
  have hC0 : Chg [] w W0 := eW0 ▸ Chg.alloc [] w _
  have hb : W0.heap[w.heap.size]? = some (.cells #[.int .i64 1, .int .i64 0, .int .i64 0, .int .i64 10, .int .i64 3, .int .i64 0, .int .i64 0, .int .i64 2, .int .i64 0, .int .i64 1, .int .i64 9, .int .i64 2, .int .i64 0, .int .i64 0] 52 (0, 0)) := eW0 ▸ heap_alloc_new w _
  have hO : OrdsAt W0 (some ⟨w.heap.size, 0, none⟩) [exA, exB] := by
    refine .inr ⟨w.heap.size, 0, rfl, blk_lt hb, fun i o ho j hj => ?_⟩
    match i, ho with
    | 0, ho =>
      simp only [List.getElem?_cons_zero, Option.some.injEq] at ho
      subst ho
      match j, hj with
      | 0, _ => simp [World.cell?, hb, exA]
      | 1, _ => simp [World.cell?, hb, exA]
      | 2, _ => simp [World.cell?, hb, exA]
      | 3, _ => simp [World.cell?, hb, exA]
      | 4, _ => simp [World.cell?, hb, exA]
      | 5, _ => simp [World.cell?, hb, exA]
      | 6, _ => simp [World.cell?, hb, exA]
    | 1, ho =>
      simp only [List.getElem?_cons_succ, List.getElem?_cons_zero, Option.some.injEq] at ho
      subst ho
      match j, hj with
      | 0, _ => simp [World.cell?, hb, exB]
      | 1, _ => simp [World.cell?, hb, exB]
      | 2, _ => simp [World.cell?, hb, exB]
      | 3, _ => simp [World.cell?, hb, exB]
      | 4, _ => simp [World.cell?, hb, exB]
      | 5, _ => simp [World.cell?, hb, exB]
      | 6, _ => simp [World.cell?, hb, exB]
    | i + 2, ho => simp at ho
  have hB := books42 W0 _ 2 [exA, exB] hO (by simp)
  rw [ex_book] at hB
  simp only [List.length_cons, List.length_nil, Nat.zero_add, Nat.reduceAdd] at hB
  go_enter Try.func36, Try.ntmps36
  go_wp2_with fail
  refine hB.mono ?_
  rintro e W1 ⟨B, r, rfl, ⟨lv0, lv1, v0, v1, hP⟩, hR, hC1, _⟩
  have hof := of_pb hP (by simp) (by intro o ho; simp at ho; rcases ho with rfl | rfl <;> simp [exA, exB])
  clear hB hO hb eW0 hR
  go_wp2_with fail
  refine hof.mono ?_
  rintro e W2 ⟨c, ss, rfl, hPr, hcv, hC2⟩
  have hl0 : (sdO [exA, exB] 0).length ≤ 60 := Nat.le_trans (List.length_filter_le _ _) (by simp)
  have hl1 : (sdO [exA, exB] 1).length ≤ 60 := Nat.le_trans (List.length_filter_le _ _) (by simp)
  have h9 := cv_at hPr hcv hl0 hl1 9
  have d9 : demO (sdO [exA, exB] 0) 9 = 3 := by simp [demO, sdO, exA, exB, sumO]
  have s9 : supO (sdO [exA, exB] 1) 9 = 2 := by simp [supO, sdO, exA, exB, sumO]
  have d10 : demO (sdO [exA, exB] 0) 10 = 3 := by simp [demO, sdO, exA, exB, sumO]
  have s10 : supO (sdO [exA, exB] 1) 10 = 2 := by simp [supO, sdO, exA, exB, sumO]
  rw [d9, s9] at h9
  clear hof
  go_wp2_with fail
  refine h9.mono ?_
  rintro e W3 ⟨rfl, hC3⟩
  have h10 := cv_at hPr (hcv.chg hC3 (by simp)) hl0 hl1 10
  rw [d10, s10] at h10
  unfold ptV
  go_wp2_with fail
  refine h10.mono ?_
  rintro e W4 ⟨rfl, hC4⟩
  unfold ptV
  go_wp2_with fail
  go_ret
  exact ⟨rfl, ((((hC0.trans hC1).trans hC2).trans hC3).trans hC4)⟩
end Go.Proofs.Ytdcjfaplgpeonaa
