/-
  The search among a curve's points.
-/
import Derived.Test.YtdcjfaplgpeonaaUo
namespace Go.Proofs.Ytdcjfaplgpeonaa
open Go.RowKit Go.Dm
attribute [local go_sem] Oper.semAt_some

set_option maxRecDepth 100000 in
set_option maxHeartbeats 2000000 in
theorem at74 (w : World) (bc bp B c : Nat) (p : Int) (pts : List Pt) (h0 : w.heap[bc]? = some (.cells #[.pointer (some ⟨c, 0, none⟩)] 95 (0, 0))) (h1 : w.heap[bp]? = some (.cells #[.int .i64 p] 2 (0, 0)))
    (hc : CvAt w B c pts) (i : Nat) (x : Pt) (hx : pts[i]? = some x) (hlen : pts.length ≤ 1000) :
    Calls Try.prog 74 #[.int .i64 i, .pointer (some ⟨bc, 0, none⟩), .pointer (some ⟨bp, 0, none⟩)] w fun e w' => e = .returned (.bool (decide (x.p ≥ p))) ∧ Chg [] w w' := by
  obtain ⟨v, hb, hs, hf, _⟩ := hc
  have hi : i < pts.length := (List.getElem?_eq_some_iff.1 hx).1
  obtain ⟨A, cap, rfl, _, hA⟩ := hs.form
  obtain ⟨g, rfl⟩ := hA (by omega)
  obtain ⟨e0, _, _⟩ := pts_at hs hx
  have c0 := blk1 h0
  have c1 := blk1 h1
  have c2 := blk1 hb
  have hg := hs.lt (g := g) rfl
  have i0 : (0 : Int) ≤ (i : Int) := Int.natCast_nonneg _
  have i1 : (i : Int) < (pts.length : Int) := by omega
  clear hx hs hf hA h0 h1 hb
  go_enter Try.func74, Try.ntmps74
  go_wp2_with fail
  refine wp_tail 10 (by kernel_rfl) (by kernel_rfl) ?_
  intro W hW
  have d0 := hW.cell c0 (by simp)
  have d1 := hW.cell c1 (by simp)
  have d2 := hW.cell c2 (by simp)
  have d3 := hW.cell e0 (by simp)
  simp only [List.take_succ_cons, List.take_zero, List.drop_succ_cons, List.drop_zero]
  repeat still_step
  refine wpStill_nil ?_
  go_wp2_with fail
  go_ret
  exact ⟨rfl, hW⟩

/-- Where a price stands: the points ahead lie below it, the others do not. -/
def PtPos (pts : List Pt) (p : Int) (i : Nat) : Prop := i ≤ pts.length ∧ (∀ (j : Nat) x, pts[j]? = some x → j < i → x.p < p) ∧ (∀ (j : Nat) x, pts[j]? = some x → i ≤ j → p ≤ x.p)
def SeRel (pts : List Pt) (p : Int) (w : World) (m : Nat) (a b : Value) (wr : World) : Prop :=
  ∃ i j : Nat, i ≤ j ∧ j ≤ pts.length ∧ m = j - i + 1 ∧ a = .int .i64 i ∧ b = .int .i64 j ∧ (∀ (t : Nat) x, pts[t]? = some x → t < i → x.p < p) ∧ (∀ (t : Nat) x, pts[t]? = some x → j ≤ t → p ≤ x.p) ∧ Chg [] w wr

set_option maxRecDepth 100000 in
set_option maxHeartbeats 2000000 in
theorem search73 (w : World) (bc bp B c : Nat) (p : Int) (pts : List Pt) (h0 : w.heap[bc]? = some (.cells #[.pointer (some ⟨c, 0, none⟩)] 95 (0, 0))) (h1 : w.heap[bp]? = some (.cells #[.int .i64 p] 2 (0, 0)))
    (hc : CvAt w B c pts) (hr : pts.Pairwise (fun a b => a.p < b.p)) (hlen : pts.length ≤ 1000) :
    Calls Try.prog 73 #[.int .i64 pts.length, .func (.func 74) #[] #[.pointer (some ⟨bc, 0, none⟩), .pointer (some ⟨bp, 0, none⟩)]] w fun e w' => (∃ i, e = .returned (.int .i64 (i : Nat)) ∧ PtPos pts p i) ∧ Chg [] w w' := by
  go_enter Try.func73, Try.ntmps73
  go_wp2_with fail
  go_loopg [5, 6] (pts.length + 1) (fun m a b wr => SeRel pts p w m a b wr)
  case atStart => exact ⟨0, pts.length, Nat.zero_le _, Nat.le_refl _, rfl, rfl, rfl, fun t x hx ht => by omega, fun t x hx ht => by have := (List.getElem?_eq_some_iff.1 hx).1; omega, Chg.refl _ _⟩
  case round =>
    obtain ⟨i, j, hij, hj, hm, rfl, rfl, hlo, hhi, hC⟩ := hrel
    have Hm := Lib.hid hm
    have HL := Lib.hid (And.intro hlo hhi)
    have HS := Lib.hid hr
    clear hm hlo hhi hr
    by_cases hlt : i < j
    · have i0 : (0 : Int) ≤ (i : Int) := Int.natCast_nonneg _
      have j0 : (0 : Int) ≤ (j : Int) := Int.natCast_nonneg _
      have j1 : (j : Int) ≤ 1000 := by omega
      have ij : (i : Int) < (j : Int) := by omega
      have t0 : (0 : Int) ≤ ((i : Int) + (j : Int)) / 2 := by omega
      have t1 : ((i : Int) + (j : Int)) / 2 < (pts.length : Int) := by omega
      have tn : (i + j) / 2 < pts.length := by omega
      obtain ⟨x, hx⟩ : ∃ x, pts[(i + j) / 2]? = some x := ⟨pts[(i + j) / 2], by simp [tn]⟩
      have hat := at74 wr bc bp B c p pts (hC.at_ h0 (by simp)) (hC.at_ h1 (by simp)) (hc.chg hC (by simp)) _ x hx hlen
      have HX := Lib.hid hx
      clear hx
      by_cases hlow : x.p < p
      · have d1 : decide (x.p ≥ p) = false := decide_eq_false (by omega)
        rw [d1] at hat
        have HW := Lib.hid hlow
        clear hlow d1
        go_wp2_with fail
        refine hat.mono ?_
        rintro e w' ⟨rfl, hC2⟩
        clear hat
        go_wp2_with fail
        go_roundg (j - ((i + j) / 2 + 1) + 1)
        case measure => rw [Hm.out]; omega
        case rel =>
          refine ⟨(i + j) / 2 + 1, j, by omega, by omega, rfl, by go_num, rfl, fun t y hy ht => ?_, HL.out.2, hC.trans hC2⟩
          by_cases e : t = (i + j) / 2
          · subst e; rw [HX.out] at hy; cases hy; exact HW.out
          · have hp := List.pairwise_iff_getElem.1 HS.out t ((i + j) / 2) (List.getElem?_eq_some_iff.1 hy).1 tn (by omega)
            rw [(List.getElem?_eq_some_iff.1 hy).2, (List.getElem?_eq_some_iff.1 HX.out).2] at hp
            exact Int.lt_trans hp HW.out
      · have d1 : decide (x.p ≥ p) = true := decide_eq_true (by omega)
        rw [d1] at hat
        have HW := Lib.hid hlow
        clear hlow d1
        go_wp2_with fail
        refine hat.mono ?_
        rintro e w' ⟨rfl, hC2⟩
        clear hat
        go_wp2_with fail
        go_roundg ((i + j) / 2 - i + 1)
        case measure => rw [Hm.out]; omega
        case rel =>
          refine ⟨i, (i + j) / 2, by omega, by omega, rfl, rfl, by go_num, HL.out.1, fun t y hy ht => ?_, hC.trans hC2⟩
          by_cases e : t = (i + j) / 2
          · subst e; rw [HX.out] at hy; cases hy; have := HW.out; omega
          · have hp := List.pairwise_iff_getElem.1 HS.out ((i + j) / 2) t tn (List.getElem?_eq_some_iff.1 hy).1 (by omega)
            rw [(List.getElem?_eq_some_iff.1 hy).2, (List.getElem?_eq_some_iff.1 HX.out).2] at hp
            have := HW.out
            omega
    · have hij2 : i = j := by omega
      subst hij2
      clear hlt hij
      have hpos : PtPos pts p i := ⟨hj, HL.out.1, HL.out.2⟩
      go_wp2_with fail
      go_ret
      exact ⟨⟨i, rfl, hpos⟩, hC⟩
end Go.Proofs.Ytdcjfaplgpeonaa
