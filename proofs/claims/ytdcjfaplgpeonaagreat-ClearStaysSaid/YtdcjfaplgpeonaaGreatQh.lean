/-
  The library's slices.Compact at int64s, laid at this program (written by the kit's own tool, the names moved).
-/
import Derived.Shelf.SlGeneric
import Derived.Shelf.SlicesG.CompactI
import Derived.Ground.SlgnProg
import Derived.Test.YtdcjfaplgpeonaaGreatRows
import Derived.Test.YtdcjfaplgpeonaaGreatQg
import Derived.Test.YtdcjfaplgpeonaaGreatQd
import Derived.Test.YtdcjfaplgpeonaaGreatQf
import Derived.Test.YtdcjfaplgpeonaaGreatQ1
namespace Go.Proofs.YtdcjfaplgpeonaaGreat
open Go.Shelf
def compactL_ren : Go.Shelf.Ren := ⟨fun | 43 => 66 | n => n, fun | 22 => 44 | 23 => 2 | 3 => 3 | 4 => 4 | 0 => 0 | n => n, fun | n => n⟩
theorem compactL : Go.Proofs.SlLaysN.n43 Tryz.prog compactL_ren := {
  mixed := by kernel_rfl
  f43 := ⟨Tryz.f66.name, by decide, Tryz.func66.trans (congrArg some (by kernel_rfl))⟩
  t0 := Tryz.underlying0
  a0 := Tryz.isAgg0
  z0 := Tryz.sizeOf0
  v0 := Tryz.zeroValue0
  t3 := Tryz.underlying3
  a3 := Tryz.isAgg3
  z3 := Tryz.sizeOf3
  v3 := Tryz.zeroValue3
  t4 := Tryz.underlying4
  a4 := Tryz.isAgg4
  z4 := Tryz.sizeOf4
  v4 := Tryz.zeroValue4
  t22 := Tryz.underlying44
  a22 := Tryz.isAgg44
  z22 := Tryz.sizeOf44
  v22 := Tryz.zeroValue44
  t23 := Tryz.underlying2
  a23 := Tryz.isAgg2
  z23 := Tryz.sizeOf2
  v23 := Tryz.zeroValue2
  i23 := by kernel_rfl }
end Go.Proofs.YtdcjfaplgpeonaaGreat

/-
  The least of some prices.
-/
namespace Go.Proofs.YtdcjfaplgpeonaaGreat
open Go.RowKit Go.Dm
attribute [local go_sem] Oper.semAt_some

def prE (x : Pr) : List Value := [.int .i64 x.p, .int .i64 x.v, .int .i64 x.o]
theorem prR : REnc 3 prE := ⟨fun _ => rfl, fun a u hu => by simp [prE] at hu; rcases hu with rfl | rfl | rfl <;> rfl⟩
theorem elem66 : ElemIs Tryz.prog 66 27 3 24 := ⟨Tryz.underlying66, by
  obtain ⟨i, hi, hz, h1, h2⟩ := info_parts (show (Tryz.prog.info? 27).map (fun i => (i.zero, i.size, i.bytes)) = some (some (.agg #[.int .i64 0, .int .i64 0, .int .i64 0]), 3, 24) by kernel_rfl)
  exact ⟨i, _, hi, hz, h1, h2, rfl⟩, by decide⟩
theorem prs_at {w : World} {g n c : Nat} {l : List Pr} (h : SlAt 27 3 prE w (.slice (some ⟨g, 0, none⟩) n c) l) {k : Nat} {x : Pr} (hp : l[k]? = some x) :
    w.cell? ⟨g, k * 3, none⟩ = some (.int .i64 x.p) ∧ w.cell? ⟨g, k * 3 + 1, none⟩ = some (.int .i64 x.v) ∧ w.cell? ⟨g, k * 3 + 2, none⟩ = some (.int .i64 x.o) :=
  ⟨h.at_ prR hp (j := 0) (by omega), h.at_ prR hp (j := 1) (by omega), h.at_ prR hp (j := 2) (by omega)⟩
theorem pickL_take {r : Int} {l : List Pr} {k : Nat} {x : Pr} (hk : 1 ≤ k) (hx : l[k]? = some x) : pickL r (l.take (k + 1)) = pick1 r (pickL r (l.take k)) x := by
  rw [← take_snocL hx, pickL_app]
  intro e
  have h1 := congrArg List.length e
  have h2 := (List.getElem?_eq_some_iff.1 hx).1
  rw [List.length_take, List.length_nil] at h1
  omega
def MinRel (w : World) (r : Int) (l : List Pr) (m : Nat) (i : Value) (wr : World) : Prop :=
  ∃ (k : Nat) (x : Pr), 1 ≤ k ∧ k ≤ l.length ∧ m = l.length - k + 1 ∧ i = .int .i64 k ∧ x = pickL r (l.take k) ∧ x ∈ l ∧ wr.heap[w.heap.size + 1]? = some (.cells #[.int .i64 x.p, .int .i64 x.v, .int .i64 x.o] 27 (0, 0)) ∧
    wr.heap[w.heap.size]? = some (.cells #[.int .i64 0, .int .i64 0, .int .i64 0] 27 (0, 0)) ∧ Chg [] w wr

set_option maxRecDepth 100000 in
set_option maxHeartbeats 4000000 in
theorem min34 (w : World) (g cap q : Nat) (r : Int) (l : List Pr) (h : SlAt 27 3 prE w (.slice (some ⟨g, 0, none⟩) l.length cap) l) (hne : 0 < l.length) (hq : w.heap[q]? = some (.cells #[.int .i64 r] 2 (0, 0)))
    (hp : ∀ x ∈ l, InP x.p) (hr : InP r) (hlen : l.length ≤ 1000) :
    Calls Tryz.prog 34 #[.slice (some ⟨g, 0, none⟩) l.length cap, .func (.func 35) #[] #[.pointer (some ⟨q, 0, none⟩)]] w fun e w' => e = .returned (prV (pickL r l)) ∧ Chg [] w w' := by
  obtain ⟨x, hx⟩ : ∃ x, l[0]? = some x := ⟨l[0], by simp [hne]⟩
  have hx1 : pickL r (l.take 1) = x := by rw [← take_snocL hx]; rfl
  have hxm := List.mem_of_getElem? hx
  obtain ⟨e0, e1, e2⟩ := prs_at h hx
  simp only [Nat.zero_mul, Nat.zero_add] at e0 e1 e2
  have hg := h.lt (g := g) rfl
  have hA1 := Chg.alloc [] w (.cells #[.int .i64 0, .int .i64 0, .int .i64 0] 27)
  have b4 := heap_alloc_new w (.cells #[.int .i64 0, .int .i64 0, .int .i64 0] 27)
  have hA2 := Chg.alloc [] (w.alloc (.cells #[.int .i64 0, .int .i64 0, .int .i64 0] 27)) (.cells #[.int .i64 x.p, .int .i64 x.v, .int .i64 x.o] 27)
  have b5 := heap_alloc_new (w.alloc (.cells #[.int .i64 0, .int .i64 0, .int .i64 0] 27)) (.cells #[.int .i64 x.p, .int .i64 x.v, .int .i64 x.o] 27)
  rw [World.size_alloc] at b5
  have b4 := hA2.at_ b4 (by simp)
  have hC0 := hA1.trans hA2
  have l0 : (0 : Int) < (l.length : Int) := by omega
  have l1 : decide ((l.length : Int) < 1) = false := decide_eq_false (by omega)
  have HX := Lib.hid hx1
  clear hx1 hx
  go_enter Tryz.func34, Tryz.ntmps34
  go_wp2_with fail
  go_loopg [6] (l.length - 1 + 1) (fun m i wr => MinRel w r l m i wr)
  case atStart => exact ⟨1, x, Nat.le_refl _, by omega, rfl, rfl, HX.out.symm, hxm, b5, b4, hC0⟩
  case round =>
    clear b4 b5 hC0 hA1 hA2 e0 e1 e2 hxm HX
    obtain ⟨k, m0, hk1, hk, hm, rfl, hpk, hmm, h5, h4, hC⟩ := hrel
    have Hm := Lib.hid (And.intro hm hpk)
    clear hm hpk
    have k0 : (0 : Int) ≤ (k : Int) := Int.natCast_nonneg _
    obtain ⟨y0, y1, y2⟩ := prBlk h5
    by_cases hlt : k < l.length
    · obtain ⟨x, hx⟩ : ∃ x, l[k]? = some x := ⟨l[k], by simp [hlt]⟩
      have k1 : (k : Int) < (l.length : Int) := by omega
      have hsr := h.chg hC (by simp)
      obtain ⟨e0, e1, e2⟩ := prs_at hsr hx
      have hgr := hsr.lt (g := g) rfl
      have hxm := List.mem_of_getElem? hx
      have hT := pickL_take (r := r) hk1 hx
      rw [← Hm.out.2] at hT
      have hcl := fun W (hW : Chg [] wr W) => clo35 W x m0 r q (hW.at_ (hC.at_ hq (by simp)) (by simp)) (hp x hxm) (hp m0 hmm) hr
      have hO := ordI_less r x m0
      have HT := Lib.hid hT
      have HQ := Lib.hid (And.intro hq (And.intro hp h))
      clear hT hx hsr h
      unfold prV at hcl
      by_cases hL : LessP r x m0
      · have t : decide (ordI r x m0 < 0) = true := by rw [hO]; exact decide_eq_true hL
        have hpi : pick1 r m0 x = x := by unfold pick1; rw [if_pos hL]
        rw [hpi] at HT
        clear hO hL hpi
        go_wp2_with fail
        refine wp_tail 6 (by kernel_rfl) (by kernel_rfl) ?_
        intro W hW
        have e0' := hW.cell e0 (by simp)
        have e1' := hW.cell e1 (by simp)
        have e2' := hW.cell e2 (by simp)
        have y0' := hW.cell y0 (by simp)
        have y1' := hW.cell y1 (by simp)
        have y2' := hW.cell y2 (by simp)
        have hc := hcl W hW
        clear e0 e1 e2 y0 y1 y2 hcl
        simp only [List.take_succ_cons, List.take_zero, List.drop_succ_cons, List.drop_zero]
        repeat still_step
        refine wpStill_nil ?_
        go_wp2_with fail
        refine hc.mono ?_
        rintro e W2 ⟨rfl, hC2⟩
        have hCC := hW.trans hC2
        have h52 := hCC.at_ h5 (by simp)
        have h42 := hCC.at_ h4 (by simp)
        have e0 := hC2.cell e0' (by simp)
        have e1 := hC2.cell e1' (by simp)
        have e2 := hC2.cell e2' (by simp)
        obtain ⟨y0, y1, y2⟩ := prBlk h52
        have f5 := blkfreeU h52
        have hf := blk_set (blk_set (blk_set h52 0 (.int .i64 x.p)) 1 (.int .i64 x.v)) 2 (.int .i64 x.o)
        simp only [List.setIfInBounds_toArray, List.set_cons_zero, List.set_cons_succ] at hf
        have hC3 : Chg [] w W2 := hC.trans hCC
        have hC4 := ((hC3.putNew (g := w.heap.size + 1) (j := 0) (u := .int .i64 x.p) (by omega)).putNew (g := w.heap.size + 1) (j := 1) (u := .int .i64 x.v) (by omega)).putNew (g := w.heap.size + 1) (j := 2) (u := .int .i64 x.o) (by omega)
        have hS := ((Chg.setCell (S := [w.heap.size + 1]) W2 ⟨w.heap.size + 1, 0, none⟩ (.int .i64 x.p) (by simp)).putIn (g := w.heap.size + 1) (j := 1) (u := .int .i64 x.v) (by simp)).putIn (g := w.heap.size + 1) (j := 2) (u := .int .i64 x.o) (by simp)
        have h43 := hS.at_ h42 (by simp)
        have gne : g ≠ w.heap.size + 1 := by omega
        have HF := Lib.hid (And.intro hf (And.intro h43 hC4))
        clear hf h43 hC4 hS hC3 hc hCC h5 h4 hW hC2 h42 e0' e1' e2' y0' y1' y2' hC
        go_wp2_with fail
        go_roundg (l.length - (k + 1) + 1)
        case measure => rw [Hm.out.1]; omega
        case rel => exact ⟨k + 1, x, by omega, by omega, rfl, by go_num, HT.out.symm, hxm, HF.out.1, HF.out.2.1, HF.out.2.2⟩
      · have t : decide (ordI r x m0 < 0) = false := by rw [hO]; exact decide_eq_false hL
        have hpi : pick1 r m0 x = m0 := by unfold pick1; rw [if_neg hL]
        rw [hpi] at HT
        clear hO hL hpi
        go_wp2_with fail
        refine wp_tail 6 (by kernel_rfl) (by kernel_rfl) ?_
        intro W hW
        have e0' := hW.cell e0 (by simp)
        have e1' := hW.cell e1 (by simp)
        have e2' := hW.cell e2 (by simp)
        have y0' := hW.cell y0 (by simp)
        have y1' := hW.cell y1 (by simp)
        have y2' := hW.cell y2 (by simp)
        have hc := hcl W hW
        clear e0 e1 e2 y0 y1 y2 hcl
        simp only [List.take_succ_cons, List.take_zero, List.drop_succ_cons, List.drop_zero]
        repeat still_step
        refine wpStill_nil ?_
        go_wp2_with fail
        refine hc.mono ?_
        rintro e W2 ⟨rfl, hC2⟩
        have hCC := hW.trans hC2
        have h52 := hCC.at_ h5 (by simp)
        have h42 := hCC.at_ h4 (by simp)
        have hC3 : Chg [] w W2 := hC.trans hCC
        clear hc e0' e1' e2' y0' y1' y2'
        go_wp2_with fail
        go_roundg (l.length - (k + 1) + 1)
        case measure => rw [Hm.out.1]; omega
        case rel => exact ⟨k + 1, m0, by omega, by omega, rfl, by go_num, HT.out.symm, hmm, h52, h42, hC3⟩
    · have hkn : k = l.length := by omega
      subst hkn
      have hT := Hm.out.2
      rw [List.take_length] at hT
      have f4 := blkfreeU h4
      obtain ⟨z0, z1, z2⟩ := prBlk h4
      have hf := blk_set (blk_set (blk_set h4 0 (.int .i64 m0.p)) 1 (.int .i64 m0.v)) 2 (.int .i64 m0.o)
      simp only [List.setIfInBounds_toArray, List.set_cons_zero, List.set_cons_succ] at hf
      have hC4 := ((hC.putNew (g := w.heap.size) (j := 0) (u := .int .i64 m0.p) (by omega)).putNew (g := w.heap.size) (j := 1) (u := .int .i64 m0.v) (by omega)).putNew (g := w.heap.size) (j := 2) (u := .int .i64 m0.o) (by omega)
      have HF := Lib.hid (And.intro hf (And.intro hC4 hT))
      clear hf hC4 hT h4 h5 hC
      go_wp2_with fail
      refine bodyPost_ret (results_pr rfl _ _ w.heap.size m0 rfl HF.out.1) rfl ?_
      exact ⟨by rw [HF.out.2.2], HF.out.2.1⟩
end Go.Proofs.YtdcjfaplgpeonaaGreat

/-
  A curve's prices within a band.
-/
namespace Go.Dm
open Go Go.RowKit
/-- An append within a round, whose run is known. -/
theorem wpLIn_app {l0 n : Nat} {P : Program} {ops : Array Oper} {rest : List Oper} {o : Oper} {a : Act} {w w' : World} {v u v' : Value} {Q : Exit → Act → World → Prop} (hg : o.guard = none) (s x : Operand) (t : TypeId)
    (hop : o.op = Op.call { callee := Callee.builtin Builtin.append, args := #[s, x], argTypes := #[t, t] }) (hrun : (Builtin.append_ #[t, t] o.type #[v, u]).run P w = .ok v' w') (hev : a.eval s = v) (heu : a.eval x = u)
    (hK : wpListIn (Fence.wide.inRound l0) n P ops Q rest (a.put o.dst v') w') : wpListIn (Fence.wide.inRound l0) n P ops Q (o :: rest) a w := by
  unfold wpListIn
  rw [if_pos (by simp [Region.wanted, hg])]
  refine op_round (by simp [noDefer, hop]) (op_wide ?_)
  unfold Oper.wp
  simp [execOp, hop, resolve, invoke, builtin, hev, heu, hrun, Result.andThen]
  exact hK
end Go.Dm
namespace Go.Proofs.YtdcjfaplgpeonaaGreat
open Go.RowKit Go.Dm Go.Shelf
attribute [local go_sem] Oper.semAt_some
attribute [local simp] wide_fn
attribute [local go_sem] wide_fn

def selP (lo hi : Int) (l : List Pt) : List Int := (l.filter (fun x => decide (lo ≤ x.p) && decide (x.p ≤ hi))).map (·.p)
theorem selP_yes (lo hi : Int) (l : List Pt) (x : Pt) (h0 : lo ≤ x.p) (h1 : x.p ≤ hi) : selP lo hi (l ++ [x]) = selP lo hi l ++ [x.p] := by simp [selP, h0, h1]
theorem selP_no (lo hi : Int) (l : List Pt) (x : Pt) (h : ¬ (lo ≤ x.p ∧ x.p ≤ hi)) : selP lo hi (l ++ [x]) = selP lo hi l := by
  unfold selP
  rw [List.filter_append]
  have : (decide (lo ≤ x.p) && decide (x.p ≤ hi)) = false := by
    rw [Bool.eq_false_iff]; simp only [ne_eq, Bool.and_eq_true, decide_eq_true_eq]; exact h
  simp [this]
theorem selP_len (lo hi : Int) (l : List Pt) : (selP lo hi l).length ≤ l.length := by unfold selP; rw [List.length_map]; exact List.length_filter_le _ _

structure PrIs (w : World) (z p4 p5 p6 : Nat) (lo hi : Int) (l : List Int) (W : World) (v : Value) : Prop where
  b4 : W.heap[p4]? = some (.cells #[.int .i64 lo] 2 (0, 0))
  b5 : W.heap[p5]? = some (.cells #[.int .i64 hi] 2 (0, 0))
  b6 : W.heap[p6]? = some (.cells #[v] 44 (0, 0))
  sl : SlAt 2 1 idE W v l
  fr : Fresh z v
  sz : z ≤ W.heap.size
  ch : Chg [] w W
theorem PrIs.own {w W0 : World} {z p4 p5 p6 : Nat} {lo hi : Int} (hz : w.heap.size ≤ W0.heap.size) {β : Type} (f : β → List Int) : OwnFrom W0.heap.size (fun (s : β) W => ∃ v, PrIs w z p4 p5 p6 lo hi (f s) W v) := fun s A C row ⟨v, h⟩ hg hr =>
  ⟨v, ownFrom_cellsT (fun (_ : Unit) => .cells #[.int .i64 lo] 2 (0, 0)) (fun _ => rfl) () A C row h.b4 hg hr,
    ownFrom_cellsT (fun (_ : Unit) => .cells #[.int .i64 hi] 2 (0, 0)) (fun _ => rfl) () A C row h.b5 hg hr,
    ownFrom_cellsT (fun (_ : Unit) => .cells #[v] 44 (0, 0)) (fun _ => rfl) () A C row h.b6 hg hr,
    ownFrom_sl (fun (_ : Unit) => v) (fun _ => f s) () A C row h.sl hg hr, h.fr, Nat.le_trans h.sz hg.size,
    h.ch.trans' (Chg.of_grown hg (S := row.toList) (fun k e => .inl (by simp [e]))) (by simp) (fun i hi => .inr (by
      have he : row = some i := by simpa using hi
      have := (hr i he).1
      omega))⟩

set_option maxRecDepth 100000 in
set_option maxHeartbeats 4000000 in
theorem prices64 (w : World) (B c : Nat) (pts : List Pt) (lo hi : Int) (hc : CvAt w B c pts) (hlen : pts.length ≤ 1000) :
    Calls Tryz.prog 64 #[.pointer (some ⟨c, 0, none⟩), .int .i64 lo, .int .i64 hi] w fun e w' => ∃ v, e = .returned v ∧ SlAt 2 1 idE w' v (selP lo hi pts) ∧ Fresh w.heap.size v ∧ Chg [] w w' := by
  obtain ⟨v, hb, hs, hf, hBc⟩ := hc
  obtain ⟨A, cap, rfl, _, hA0⟩ := hs.form
  have hA1 := Chg.alloc [] w (.cells #[.int .i64 lo] 2)
  have b4 := heap_alloc_new w (.cells #[.int .i64 lo] 2)
  have hA2 := Chg.alloc [] (w.alloc (.cells #[.int .i64 lo] 2)) (.cells #[.int .i64 hi] 2)
  have b5 := heap_alloc_new (w.alloc (.cells #[.int .i64 lo] 2)) (.cells #[.int .i64 hi] 2)
  have hA3 := Chg.alloc [] ((w.alloc (.cells #[.int .i64 lo] 2)).alloc (.cells #[.int .i64 hi] 2)) (.cells #[.slice none 0 0] 44)
  have b6 := heap_alloc_new ((w.alloc (.cells #[.int .i64 lo] 2)).alloc (.cells #[.int .i64 hi] 2)) (.cells #[.slice none 0 0] 44)
  have hA4 := Chg.alloc [] (((w.alloc (.cells #[.int .i64 lo] 2)).alloc (.cells #[.int .i64 hi] 2)).alloc (.cells #[.slice none 0 0] 44)) (.cells #[.slice A pts.length cap] 118)
  have b7 := heap_alloc_new (((w.alloc (.cells #[.int .i64 lo] 2)).alloc (.cells #[.int .i64 hi] 2)).alloc (.cells #[.slice none 0 0] 44)) (.cells #[.slice A pts.length cap] 118)
  simp only [World.size_alloc] at b5 b6 b7
  have b4 := hA4.at_ (hA3.at_ (hA2.at_ b4 (by simp)) (by simp)) (by simp)
  have b5 := hA4.at_ (hA3.at_ b5 (by simp)) (by simp)
  have b6 := hA4.at_ b6 (by simp)
  have hC3 := (hA1.trans hA2).trans hA3
  have hC4 := hC3.trans hA4
  have hp := points45 _ c A pts.length cap (hC3.at_ hb (by simp))
  have hz : ((((w.alloc (.cells #[.int .i64 lo] 2)).alloc (.cells #[.int .i64 hi] 2)).alloc (.cells #[.slice none 0 0] 44)).alloc (.cells #[.slice A pts.length cap] 118)).heap.size = w.heap.size + 4 := by simp
  clear hA1 hA2 hA3 hA4 hC3
  refine callsIn_wide.1 (callsIn_of_wp_marks (n := 5) Tryz.func64 rfl trivial (wpIn_wide.2 ?_) rfl)
  simp only [Tryz.ntmps64, List.size_toArray, List.length_cons, List.length_nil, Nat.reduceAdd, Nat.reduceSub, Array.replicate_succ, Array.replicate_zero, List.push_toArray, List.append_toArray, List.nil_append, List.cons_append]
  go_wp2_with fail
  refine hp.mono ?_
  rintro e w' ⟨rfl, rfl⟩
  clear hp
  simp only [World.size_alloc]
  obtain ⟨W0, eW0⟩ : ∃ W0, ((((w.alloc (.cells #[.int .i64 lo] 2)).alloc (.cells #[.int .i64 hi] 2)).alloc (.cells #[.slice none 0 0] 44)).alloc (.cells #[.slice A pts.length cap] 118)) = W0 := ⟨_, rfl⟩
  rw [eW0] at b4 b5 b6 b7 hC4 hz ⊢
  clear eW0
  go_wp2_with fail
  have hs0 := hs.chg hC4 (by simp)
  have vlt : ∀ k ∈ ownL (.slice A pts.length cap), k < w.heap.size := fun k hk => by
    simp only [ownL, Option.mem_toList] at hk
    exact hs.lt hk
  have vlt0 : ∀ k ∈ ownL (.slice A pts.length cap), k < W0.heap.size := fun k hk => by have := vlt k hk; omega
  have hP0 : PrIs w (w.heap.size + 4) w.heap.size (w.heap.size + 1) (w.heap.size + 1 + 1) lo hi [] W0 (.slice none 0 0) := ⟨b4, b5, b6, SlAt.nil _ _ _ _, Fresh.none, by omega, hC4⟩
  refine name_actW (fun a0 ha => ?_)
  obtain ⟨f, hf2⟩ : ∃ f : Pt → Nat → Act, ∀ x B, f x B = { tmps := (a0.tmps.setIfInBounds 10 (ptV x.p x.d x.s)).setIfInBounds 7 (.pointer (some ⟨B, 0, none⟩)), defers := [] } := ⟨_, fun _ _ => rfl⟩
  subst ha
  refine (wpIn_wide (n := 5)).1 ?_
  refine wpIn_rangeFunc_ownH rfl (by omega) (gf := 113) (lb := #[.pointer (some ⟨w.heap.size + 1 + 1 + 1, 0, none⟩)]) rfl trivial (enters_of Tryz.func113 (by kernel_rfl) rfl)
    (iter92 4 (by omega) (w.heap.size + 1 + 1 + 1) pts (.slice A pts.length cap) W0 b7 hs0 hlen) (fun h k => KeepL.t h k) (KeepL.put vlt0) (Below.refl _ _) (fun _ => rfl)
    (fun pre W => ∃ v, PrIs w (w.heap.size + 4) w.heap.size (w.heap.size + 1) (w.heap.size + 1 + 1) lo hi (selP lo hi pre) W v)
    (fun _ _ _ => False)
    (PrIs.own (by omega) _) (fun _ _ _ _ _ h _ _ => h) ⟨_, hP0⟩
    (fun (x : Pt) (a' : Act) (W : World) => ∃ B : Nat, W.heap[B]? = some (Obj.cells #[.int .i64 x.p, .int .i64 x.d, .int .i64 x.s] 69 (0, 0)) ∧ a' = f x B)
    (fun x a' s A C row ⟨B, hB, e⟩ hg hr => ⟨B, ownFrom_cellsT (fun _ => Obj.cells #[.int .i64 x.p, .int .i64 x.d, .int .i64 x.s] 69 (0, 0)) (fun _ => rfl) () A C row hB hg hr, e⟩) ?assign ?body ?done ?stop
  case assign =>
    intro l pre x W K hi0 hK
    obtain ⟨B, hB⟩ : ∃ B, W.heap.size = B := ⟨_, rfl⟩
    simp only [encPt, ptV]
    gi_wp2
    have hA := Chg.alloc [] W (.cells #[.int .i64 x.p, .int .i64 x.d, .int .i64 x.s] 69)
    obtain ⟨v, h⟩ := hi0
    have hI : ∃ v, PrIs w (w.heap.size + 4) w.heap.size (w.heap.size + 1) (w.heap.size + 1 + 1) lo hi (selP lo hi pre) (W.alloc (.cells #[.int .i64 x.p, .int .i64 x.d, .int .i64 x.s] 69)) v :=
      ⟨v, hA.at_ h.b4 (by simp), hA.at_ h.b5 (by simp), hA.at_ h.b6 (by simp), h.sl.chg hA (by simp), h.fr, Nat.le_trans h.sz hA.size, h.ch.trans hA⟩
    exact hK _ _ (KeepsFrom.of_chgT hA (by simp)) (KeepL.chg hA (by simp)) hI ⟨B, hB ▸ heap_alloc_new W _, by rw [hf2]; simp [ptV]⟩
  case body =>
    rintro l pre x a' W hl hrec ⟨v, h⟩ ⟨Bx, hBx, ea⟩ hlen2
    rw [hf2] at ea
    subst ea
    simp only [ptV]
    obtain ⟨A1, cap1, hv1, _⟩ := h.sl.form
    obtain ⟨n1, hn1⟩ : ∃ n, n = (selP lo hi pre).length := ⟨_, rfl⟩
    rw [← hn1] at hv1
    obtain ⟨x0, _, _⟩ := blk3V hBx
    have c4 := blk1 h.b4
    have c5 := blk1 h.b5
    have c6 := blk1 h.b6
    by_cases h0 : lo ≤ x.p
    · have t0 : decide (x.p ≥ lo) = true := decide_eq_true h0
      by_cases h1 : x.p ≤ hi
      · have t1 : decide (x.p ≤ hi) = true := decide_eq_true h1
        have hsel := selP_yes lo hi pre x h0 h1
        have hlp := selP_len lo hi pre
        have hA := Chg.alloc [] W (.cells #[.int .i64 x.p] 2)
        have bn := heap_alloc_new W (.cells #[.int .i64 x.p] 2)
        obtain ⟨i, z, i1, i2, i3, i4, i5⟩ := elem91.info
        obtain ⟨v', W2, hrun, hs2, hg2, ho2⟩ := run_append_sl 44 44 2 i z 1 8 idR elem91.slice i1 i2 i3 i4 i5 elem91.pos (h.sl.chg hA (by simp)) (SrcAt.one (renc := idE) (a := x.p) (t := 2) (fr := (0, 0)) bn 1) (maxOk (by simp; omega)) (by simp; omega)
        have hC1 := h.ch.trans hA
        obtain ⟨A2, cap2, hv2, _⟩ := hs2.form
        obtain ⟨n2, hn2⟩ : ∃ n, n = (selP lo hi pre ++ [x.p]).length := ⟨_, rfl⟩
        rw [← hn2] at hv2
        have hF2 := h.fr.next (Nat.le_trans h.sz hA.size) ho2
        have hgc : Chg (ownL v) (W.alloc (.cells #[.int .i64 x.p] 2)) W2 := Chg.of_grown hg2 (fun k e => .inl (by simp [ownL, e]))
        have low : ∀ {p : Nat}, p < w.heap.size + 4 → p ∉ ownL v := fun hp hm => by
          simp only [ownL, Option.mem_toList] at hm
          have := h.fr _ hm
          omega
        have hC2 : Chg [] w W2 := hC1.trans' hgc (by simp) (fun k hk => .inr (by
          simp only [ownL, Option.mem_toList] at hk
          have := h.fr _ hk
          omega))
        have d6 := hgc.at_ (hA.at_ h.b6 (by simp)) (low (by omega))
        have d5 := hgc.at_ (hA.at_ h.b5 (by simp)) (low (by omega))
        have d4 := hgc.at_ (hA.at_ h.b4 (by simp)) (low (by omega))
        have e6 := blk1 d6
        have f6 := blkfreeU d6 0
        have hS := Chg.setCell (S := [w.heap.size + 1 + 1]) W2 ⟨w.heap.size + 1 + 1, 0, none⟩ v' (by simp)
        have d62 := blk_set d6 0 v'
        simp only [List.setIfInBounds_toArray, List.set_cons_zero] at d62
        have nv : ∀ g, v'.ownBlock = some g → g ∉ [w.heap.size + 1 + 1] := fun g hg hm => by
          have := hF2 g hg
          simp at hm
          omega
        have hI2 : PrIs w (w.heap.size + 4) w.heap.size (w.heap.size + 1) (w.heap.size + 1 + 1) lo hi (selP lo hi (pre ++ [x])) (W2.setCell ⟨w.heap.size + 1 + 1, 0, none⟩ v') v' :=
          ⟨hS.at_ d4 (by simp; omega), hS.at_ d5 (by simp), d62, by rw [hsel]; exact hs2.chg hS nv, hF2, Nat.le_trans h.sz (Nat.le_trans hA.size (Nat.le_trans hgc.size hS.size)), hC2.putNew (by omega)⟩
        have hSS : Chg (ownL v ++ [w.heap.size + 1 + 1]) W (W2.setCell ⟨w.heap.size + 1 + 1, 0, none⟩ v') :=
          (hA.nil.trans (hgc.mono (fun k hk => .inl (List.mem_append_left _ hk)))).trans (hS.mono (fun k hk => .inl (List.mem_append_right _ hk)))
        have hK1 : KeepsFrom W0.heap.size W (W2.setCell ⟨w.heap.size + 1 + 1, 0, none⟩ v') := ⟨hSS.size, fun k o hk ho hc => hSS.at_ ho (fun hm => by
          rcases List.mem_append.1 hm with hm | hm
          · simp only [ownL, Option.mem_toList] at hm
            obtain ⟨cur, hcur⟩ := h.sl.typed hm
            rw [hcur] at ho; cases ho; cases hc
          · simp at hm; omega)⟩
        have hK2 : KeepL (ownL (.slice A pts.length cap)) W (W2.setCell ⟨w.heap.size + 1 + 1, 0, none⟩ v') := KeepL.chg hSS (fun k hk hm => by
          have := vlt k hk
          rcases List.mem_append.1 hm with hm | hm
          · simp only [ownL, Option.mem_toList] at hm
            have := h.fr _ hm; omega
          · simp at hm; omega)
        have HF := Lib.hid (And.intro hK1 (And.intro hK2 hI2))
        have hwz : w.heap.size + 4 ≤ W.heap.size := h.sz
        have lx := blk_lt hBx
        clear hK1 hK2 hI2 hSS hS d62 nv d4 d5 d6 hC2 hC1 hgc hg2 hs2 bn hA h low ho2
        subst hv1 hv2
        clear hn1 hn2
        have HR := Lib.hid hrun
        clear hrun
        gi_wp2_with (gi_at_builtin; go_must (refine wpLIn_app rfl _ _ 44 rfl HR.out rfl rfl ?_))
        exact ⟨hz ▸ HF.out.1, HF.out.2.1, _, HF.out.2.2⟩
      · have t1 : decide (x.p ≤ hi) = false := decide_eq_false h1
        have hsel := selP_no lo hi pre x (fun hk => h1 hk.2)
        have HF := Lib.hid (show PrIs w (w.heap.size + 4) w.heap.size (w.heap.size + 1) (w.heap.size + 1 + 1) lo hi (selP lo hi (pre ++ [x])) W v by rw [hsel]; exact h)
        clear h
        subst hv1
        gi_wp2
        exact ⟨KeepsFrom.refl _ _, fun _ _ _ ho => ho, _, HF.out⟩
    · have t0 : decide (x.p ≥ lo) = false := decide_eq_false h0
      have hsel := selP_no lo hi pre x (fun hk => h0 hk.1)
      have HF := Lib.hid (show PrIs w (w.heap.size + 4) w.heap.size (w.heap.size + 1) (w.heap.size + 1 + 1) lo hi (selP lo hi (pre ++ [x])) W v by rw [hsel]; exact h)
      clear h
      subst hv1
      gi_wp2
      exact ⟨KeepsFrom.refl _ _, fun _ _ _ ho => ho, _, HF.out⟩
  case done =>
    rintro D xs W hD rfl ⟨v, h⟩ hK
    obtain ⟨A2, cap2, hv2, _⟩ := h.sl.form
    obtain ⟨n2, hn2⟩ : ∃ n, n = (selP lo hi xs).length := ⟨_, rfl⟩
    rw [← hn2] at hv2
    subst hv2
    have c6 := blk1 h.b6
    have f6 := blkfreeU h.b6 0
    have hS := Chg.setCell (S := [w.heap.size + 1 + 1]) W ⟨w.heap.size + 1 + 1, 0, none⟩ (.slice A2 n2 cap2) (by simp)
    have hne : D ≠ w.heap.size + 1 + 1 := by omega
    have hK' := hS.at_ hK (by simpa using hne)
    have hs2 := h.sl.chg hS (fun g hg hm => by
      have := h.fr g hg
      simp at hm
      omega)
    have hc5 := cell_kept (World.cell?_setCell_same' W ⟨w.heap.size + 1 + 1, 0, none⟩ (.slice A2 n2 cap2) (by rw [c6]; rfl)) (grownBy_putObj' _ D (.deferred none)) (fun r e => by cases e; exact ⟨_, hK', rfl⟩)
    have hC9 : Chg [] w (W.setCell ⟨w.heap.size + 1 + 1, 0, none⟩ (.slice A2 n2 cap2)) := h.ch.putNew (by omega)
    have hF9 : Fresh w.heap.size (.slice A2 n2 cap2) := h.fr.mono (by omega)
    have HF := Lib.hid (And.intro hs2 (And.intro hC9 hF9))
    have hDw : w.heap.size ≤ D := by omega
    clear hs2 hC9 hF9 h hS hn2
    go_wp2
    refine ⟨by simp, .inl ⟨_, _, rfl, run_takeDeferred hK', ?_⟩⟩
    have hP := Chg.putObj (S := [D]) (W.setCell ⟨w.heap.size + 1 + 1, 0, none⟩ (.slice A2 n2 cap2)) D (.deferred none) (by simp)
    refine ⟨_, ?_, _, rfl, HF.out.1.chg hP (fun g hg hm => ?_), HF.out.2.2, HF.out.2.1.trans' hP (by simp) (by simpa using hDw)⟩
    · simp [results, Tryz.f64, go_sem, hc5]
    · obtain ⟨cur, hcur⟩ := HF.out.1.typed hg
      simp at hm
      subst hm
      rw [hcur] at hK'; cases hK'
  case stop =>
    rintro D c' pre W hD hp h hK
    exact h.elim
end Go.Proofs.YtdcjfaplgpeonaaGreat

/-
  Which prices are allowed: those of a curve in a band, and the nearest one, sorted, each once.
-/
namespace Go.Proofs.YtdcjfaplgpeonaaGreat
open Go.RowKit Go.Dm Go.Sort Go.Lib
attribute [local go_sem] Oper.semAt_some

theorem getB (zs : List Int) (i : Nat) (hi : i < zs.length) : zs.toArray[i]! = zs[i] := by simp [hi]
theorem compact_mem (zs : List Int) (x : Int) : x ∈ Lib.compact zs ↔ x ∈ zs := by
  unfold Lib.compact compactUpTo
  rw [List.mem_map]
  constructor
  · rintro ⟨i, hi, rfl⟩
    have h1 := (List.mem_filter.1 hi).1
    rw [List.mem_range] at h1
    rw [getB zs i h1]
    exact List.getElem_mem h1
  · intro hx
    obtain ⟨i, hi⟩ := List.mem_iff_getElem?.1 hx
    have key : ∀ i : Nat, zs[i]? = some x → ∃ j, j ∈ (List.range zs.length).filter (keeps zs.toArray) ∧ zs.toArray[j]! = x := fun i => by
      induction i with
      | zero =>
        intro h
        have hl := (List.getElem?_eq_some_iff.1 h)
        exact ⟨0, List.mem_filter.2 ⟨List.mem_range.2 hl.1, by simp [keeps]⟩, by rw [getB zs 0 hl.1]; exact hl.2⟩
      | succ k ih =>
        intro h
        have hl := (List.getElem?_eq_some_iff.1 h)
        by_cases he : zs[k]? = some x
        · exact ih he
        · refine ⟨k + 1, List.mem_filter.2 ⟨List.mem_range.2 hl.1, ?_⟩, by rw [getB zs (k + 1) hl.1]; exact hl.2⟩
          refine keeps_pos ?_
          rw [getB zs (k + 1) hl.1, show k + 1 - 1 = k by omega, getB zs k (by have := hl.1; omega)]
          intro e
          apply he
          rw [List.getElem?_eq_getElem (show k < zs.length by have := hl.1; omega), ← e]
          exact congrArg some hl.2
    exact key i hi
theorem compact_rise {zs : List Int} (h : zs.Pairwise (· ≤ ·)) : (Lib.compact zs).Pairwise (· < ·) := by
  unfold Lib.compact compactUpTo
  rw [List.pairwise_map]
  have h0 : ((List.range zs.length).filter (keeps zs.toArray)).Pairwise (· < ·) := List.Pairwise.filter _ List.pairwise_lt_range
  refine List.Pairwise.imp_of_mem (fun {i j} hi hj hij => ?_) h0
  obtain ⟨hi1, _⟩ := List.mem_filter.1 hi
  obtain ⟨hj1, hj2⟩ := List.mem_filter.1 hj
  rw [List.mem_range] at hi1 hj1
  simp only [keeps, decide_eq_true_eq] at hj2
  rcases hj2 with hj2 | hj2
  · omega
  · rw [getB zs j hj1, getB zs (j - 1) (by omega)] at hj2
    rw [getB zs i hi1, getB zs j hj1]
    have h1 := List.pairwise_iff_getElem.1 h
    have h2 := h1 (j - 1) j (by omega) hj1 (by omega)
    by_cases e : i = j - 1
    · subst e; omega
    · have := h1 i (j - 1) hi1 (by omega) (by omega)
      omega
theorem srt_rise (l : List Int) : (srt l).Pairwise (· ≤ ·) := by
  have h1 : (srt l).Pairwise (fun a b => decide (a ≤ b) = true) := List.pairwise_mergeSort (fun a b c h1 h2 => by simp only [decide_eq_true_eq] at *; omega) (fun a b => by simp only [Bool.or_eq_true, decide_eq_true_eq]; omega) _
  exact h1.imp (fun h => by simpa using h)
theorem srt_mem (l : List Int) (x : Int) : x ∈ srt l ↔ x ∈ l := (List.mergeSort_perm _ _).mem_iff

theorem compacts_at (w : World) (v : Value) (out : List Int) (h : SlAt 2 1 idE w v out) (hne : out ≠ []) (hlen : out.length ≤ 1000) :
    Calls Tryz.prog 66 #[v] w fun e w' => ∃ v', e = .returned v' ∧ SlAt 2 1 idE w' v' (Lib.compact out) ∧ v'.ownBlock = v.ownBlock ∧ Chg (ownL v) w w' := by
  rcases h.2 with ⟨rfl, h0⟩ | ⟨g, cap, cur, rfl, hb0, hg, hn, hc, hs, ht⟩
  · exact absurd (List.eq_nil_of_length_eq_zero h0) hne
  · rw [flat_ids, Nat.mul_one] at ht
    have hH := holds_of_blockI hg ht
    have hc1 := AnyG.slices_Compact_int compactL g 0 cap out w hH (by omega) hn
    change Calls Tryz.prog 66 _ _ _ at hc1
    refine hc1.mono ?_
    rintro e w' ⟨he, q, rfl⟩
    have hle : (Lib.compact out).length ≤ out.length := by
      unfold Lib.compact compactUpTo
      rw [List.length_map]
      exact Nat.le_trans (List.length_filter_le _ _) (by simp)
    refine ⟨_, he, ?_, rfl, ?_⟩
    · unfold SlAt
      rw [flat_ids]
      refine ⟨by simp, .inr ⟨g, cap, putCells (Value.int .i64) 0 (Lib.compact out ++ List.replicate (out.length - (Lib.compact out).length) 0).toArray cur, rfl, hb0, ?_, by omega, hc, ?_, ?_⟩⟩
      · simp [putRow, mapBlock, Sort.ahead, Array.getElem?_modify, hg, onCells]
      · simp [putCells, hs]
      · have h1 := take_putCellsI cur (Lib.compact out ++ List.replicate (out.length - (Lib.compact out).length) 0) (by simp; omega)
        have h2 := congrArg (List.take (Lib.compact out).length) h1
        rw [List.take_take, List.map_append, List.take_append_of_le_length (by simp)] at h2
        rw [Nat.mul_one]
        have h3 : min (Lib.compact out).length (Lib.compact out ++ List.replicate (out.length - (Lib.compact out).length) 0).length = (Lib.compact out).length := by simp
        rw [h3] at h2
        rw [h2, List.take_of_length_le (by simp)]
    · have hgr : w.grownBy (putRow (Value.int .i64) (Sort.ahead w q) g 0 (Lib.compact out ++ List.replicate (out.length - (Lib.compact out).length) 0).toArray) (some g) :=
        ⟨rfl, rfl, rfl, by simp [putRow, mapBlock, Sort.ahead], fun k hk hk2 => by
          have hne2 : g ≠ k := fun e => hk2 (by rw [e])
          simp [putRow, mapBlock, Sort.ahead, Array.getElem?_modify, hne2]⟩
      exact Chg.of_grown hgr (fun k e => by cases e; exact .inl (by simp [ownL, Value.ownBlock]))

theorem near_eq {r lo hi : Int} (h : lo ≤ hi) : min (max r lo) hi = nearI r lo hi := by unfold nearI; omega
theorem allow_out {ss ps : List Int} {l0 l1 : List Ord} {lo hi near : Int} (hss : ∀ q, q ∈ ss ↔ q ∈ ps) : Lib.compact (srt (selP lo hi (ptsC ss l0 l1) ++ [near])) = allowL ps lo hi near := by
  refine AllowedIs.eq ⟨compact_rise (srt_rise _), fun q => ?_⟩ (allowL_is ps lo hi near)
  rw [compact_mem, srt_mem, List.mem_append, List.mem_singleton]
  have h1 : q ∈ selP lo hi (ptsC ss l0 l1) ↔ lo ≤ q ∧ q ≤ hi ∧ q ∈ ps := by
    unfold selP ptsC
    rw [List.mem_map]
    constructor
    · rintro ⟨x, hx, rfl⟩
      obtain ⟨hx1, hx2⟩ := List.mem_filter.1 hx
      obtain ⟨z, hz, rfl⟩ := List.mem_map.1 hx1
      simp only [Bool.and_eq_true, decide_eq_true_eq] at hx2
      exact ⟨hx2.1, hx2.2, (hss z).1 hz⟩
    · rintro ⟨h1, h2, h3⟩
      exact ⟨⟨q, demO l0 q, supO l1 q⟩, List.mem_filter.2 ⟨List.mem_map.2 ⟨q, (hss q).2 h3, rfl⟩, by simp [h1, h2]⟩, rfl⟩
  rw [h1]
  constructor
  · rintro (h | h)
    · exact .inr h
    · exact .inl h
  · rintro (h | h)
    · exact .inr h
    · exact .inl h

set_option maxRecDepth 100000 in
set_option maxHeartbeats 4000000 in
theorem allowed31 (w : World) (B c : Nat) (ss ps : List Int) (l0 l1 : List Ord) (r lo hi : Int) (hc : CvAt w B c (ptsC ss l0 l1)) (hss : ∀ q, q ∈ ss ↔ q ∈ ps) (hlen : ss.length ≤ 900) (hlo : lo ≤ hi) :
    Calls Tryz.prog 31 #[.pointer (some ⟨c, 0, none⟩), .int .i64 r, .agg #[.int .i64 lo, .int .i64 hi]] w fun e w' => ∃ v, e = .returned v ∧ SlAt 2 1 idE w' v (allowL ps lo hi (nearI r lo hi)) ∧ Chg [] w w' ∧ Fresh w.heap.size v := by
  have hA1 := Chg.alloc [] w (.cells #[.int .i64 lo, .int .i64 hi] 32)
  have b5 := heap_alloc_new w (.cells #[.int .i64 lo, .int .i64 hi] 32)
  obtain ⟨W0, eW0⟩ : ∃ W0, w.alloc (.cells #[.int .i64 lo, .int .i64 hi] 32) = W0 := ⟨_, rfl⟩
  rw [eW0] at hA1 b5
  obtain ⟨c0, c1⟩ := blk2 b5
  have hlp : (ptsC ss l0 l1).length ≤ 900 := by simp only [ptsC, List.length_map]; exact hlen
  have hpr := fun W (hW : Chg [] W0 W) => prices64 W B c (ptsC ss l0 l1) lo hi (hc.chg (hA1.trans hW) (by simp)) (by omega)
  have hls := selP_len lo hi (ptsC ss l0 l1)
  have hne := near_eq (r := r) hlo
  obtain ⟨nr, hnr⟩ : ∃ nr, nearI r lo hi = nr := ⟨_, rfl⟩
  rw [hnr] at hne ⊢
  have HO := Lib.hid (allow_out (l0 := l0) (l1 := l1) (lo := lo) (hi := hi) (near := nr) hss)
  go_enter Tryz.func31, Tryz.ntmps31
  go_wp2_with fail
  refine wp_cutR (Chg [] W0) 14 (by kernel_rfl) (by kernel_rfl) (fun _ h => Chg.nil h) (fun W hW hS => ?_)
  simp only [List.take_succ_cons, List.take_zero, List.drop_succ_cons, List.drop_zero]
  refine takeH 0 (v := ?vv142) rfl (by kernel_rfl) (by kernel_rfl) (by kernel_rfl) (fun _ _ _ h => h) (by kernel_rfl) (fun Wx hSx => ?hy142) (by assumption) ?hrest142
  case hy142 => go_simp; (try with_reducible rfl)
  simp only [Act.put, List.getElem_toArray, List.getElem_cons_zero, List.setIfInBounds_toArray, List.set_cons_zero, List.set_cons_succ]
  refine takeH 1 (v := ?vv145) rfl (by kernel_rfl) (by kernel_rfl) (by kernel_rfl) (fun _ _ _ h => h) (by kernel_rfl) (fun Wx hSx => ?hy145) (by assumption) ?hrest145
  case hy145 => have q0 := hSx.cell c0 (by simp); have q1 := hSx.cell c1 (by simp); go_simp; (try with_reducible rfl)
  simp only [Act.put, List.getElem_toArray, List.getElem_cons_succ, List.getElem_cons_zero, List.setIfInBounds_toArray, List.set_cons_zero, List.set_cons_succ]
  refine takeH 2 (v := ?vv148) rfl (by kernel_rfl) (by kernel_rfl) (by kernel_rfl) (fun _ _ _ h => h) (by kernel_rfl) (fun Wx hSx => ?hy148) (by assumption) ?hrest148
  case hy148 => have q0 := hSx.cell c0 (by simp); have q1 := hSx.cell c1 (by simp); go_simp; (try with_reducible rfl)
  simp only [Act.put, List.getElem_toArray, List.getElem_cons_succ, List.getElem_cons_zero, List.setIfInBounds_toArray, List.set_cons_zero, List.set_cons_succ]
  refine takeH 3 (v := ?vv151) rfl (by kernel_rfl) (by kernel_rfl) (by kernel_rfl) (fun _ _ _ h => h) (by kernel_rfl) (fun Wx hSx => ?hy151) (by assumption) ?hrest151
  case hy151 => have q0 := hSx.cell c0 (by simp); have q1 := hSx.cell c1 (by simp); go_simp; (try with_reducible rfl)
  simp only [Act.put, List.getElem_toArray, List.getElem_cons_succ, List.getElem_cons_zero, List.setIfInBounds_toArray, List.set_cons_zero, List.set_cons_succ]
  refine takeH 4 (v := ?vv154) rfl (by kernel_rfl) (by kernel_rfl) (by kernel_rfl) (fun _ _ _ h => h) (by kernel_rfl) (fun Wx hSx => ?hy154) (by assumption) ?hrest154
  case hy154 => have q0 := hSx.cell c0 (by simp); have q1 := hSx.cell c1 (by simp); go_simp; (try with_reducible rfl)
  simp only [Act.put, List.getElem_toArray, List.getElem_cons_succ, List.getElem_cons_zero, List.setIfInBounds_toArray, List.set_cons_zero, List.set_cons_succ]
  refine takeH 6 (v := ?vv157) rfl (by kernel_rfl) (by kernel_rfl) (by kernel_rfl) (fun _ _ _ h => h) (by kernel_rfl) (fun Wx hSx => ?hy157) (by assumption) ?hrest157
  case hy157 => go_simp; (try with_reducible rfl)
  simp only [Act.put, List.getElem_toArray, List.getElem_cons_succ, List.getElem_cons_zero, List.setIfInBounds_toArray, List.set_cons_zero, List.set_cons_succ]
  refine takeH 7 (v := ?vv160) rfl (by kernel_rfl) (by kernel_rfl) (by kernel_rfl) (fun _ _ _ h => h) (by kernel_rfl) (fun Wx hSx => ?hy160) (by assumption) ?hrest160
  case hy160 => have q0 := hSx.cell c0 (by simp); have q1 := hSx.cell c1 (by simp); go_simp; (try with_reducible rfl)
  simp only [Act.put, List.getElem_toArray, List.getElem_cons_succ, List.getElem_cons_zero, List.setIfInBounds_toArray, List.set_cons_zero, List.set_cons_succ]
  refine takeH 8 (v := ?vv163) rfl (by kernel_rfl) (by kernel_rfl) (by kernel_rfl) (fun _ _ _ h => h) (by kernel_rfl) (fun Wx hSx => ?hy163) (by assumption) ?hrest163
  case hy163 => have q0 := hSx.cell c0 (by simp); have q1 := hSx.cell c1 (by simp); go_simp; (try with_reducible rfl)
  simp only [Act.put, List.getElem_toArray, List.getElem_cons_succ, List.getElem_cons_zero, List.setIfInBounds_toArray, List.set_cons_zero, List.set_cons_succ]
  refine takeH 9 (v := ?vv166) rfl (by kernel_rfl) (by kernel_rfl) (by kernel_rfl) (fun _ _ _ h => h) (by kernel_rfl) (fun Wx hSx => ?hy166) (by assumption) ?hrest166
  case hy166 => go_simp; (try with_reducible rfl)
  simp only [Act.put, List.getElem_toArray, List.getElem_cons_succ, List.getElem_cons_zero, List.setIfInBounds_toArray, List.set_cons_zero, List.set_cons_succ]
  refine takeH 10 (v := ?vv169) rfl (by kernel_rfl) (by kernel_rfl) (by kernel_rfl) (fun _ _ _ h => h) (by kernel_rfl) (fun Wx hSx => ?hy169) (by assumption) ?hrest169
  case hy169 => have q0 := hSx.cell c0 (by simp); have q1 := hSx.cell c1 (by simp); go_simp; (try with_reducible rfl)
  simp only [Act.put, List.getElem_toArray, List.getElem_cons_succ, List.getElem_cons_zero, List.setIfInBounds_toArray, List.set_cons_zero, List.set_cons_succ]
  refine takeH 11 (v := ?vv172) rfl (by kernel_rfl) (by kernel_rfl) (by kernel_rfl) (fun _ _ _ h => h) (by kernel_rfl) (fun Wx hSx => ?hy172) (by assumption) ?hrest172
  case hy172 => have q0 := hSx.cell c0 (by simp); have q1 := hSx.cell c1 (by simp); go_simp; (try with_reducible rfl)
  simp only [Act.put, List.getElem_toArray, List.getElem_cons_succ, List.getElem_cons_zero, List.setIfInBounds_toArray, List.set_cons_zero, List.set_cons_succ]
  refine takeH 12 (v := ?vv175) rfl (by kernel_rfl) (by kernel_rfl) (by kernel_rfl) (fun _ _ _ h => h) (by kernel_rfl) (fun Wx hSx => ?hy175) (by assumption) ?hrest175
  case hy175 => go_simp; (try with_reducible rfl)
  simp only [Act.put, List.getElem_toArray, List.getElem_cons_succ, List.getElem_cons_zero, List.setIfInBounds_toArray, List.set_cons_zero, List.set_cons_succ]
  refine wpAnyH_ready (rs := [5, 13]) (by kernel_rfl) (by simp) ?_
  refine (AllReadyH.cons rfl (fun K hK => ?_) (AllReadyH.cons rfl (fun K hK => ?_) AllReadyH.nil))
  all_goals try simp only [List.getElem_toArray, List.getElem_cons_succ, List.getElem_cons_zero]
  · go_simp
    refine (hpr W hS).mono ?_
    rintro e W1 ⟨v, rfl, hs1, hF1, hC1⟩
    have hzz := (hA1.trans hS).size
    have hF1 : Fresh w.heap.size v := hF1.mono hzz
    go_simp
    refine hK.out _ _ (hS.trans hC1) (fun hHeld => ?_)
    clear hK K
    try simp only [Act.put, List.getElem_toArray, List.getElem_cons_succ, List.getElem_cons_zero, List.setIfInBounds_toArray, List.set_cons_zero, List.set_cons_succ]
    have bn := heap_alloc_new W1 (.cells #[.int .i64 nr] 2)
    have hAn := Chg.alloc [] W1 (.cells #[.int .i64 nr] 2)
    have hs2 := hs1.chg hAn (by simp)
    have HN := Lib.hid (And.intro bn (And.intro hs2 hF1))
    clear bn hs1 hs2 hF1
    refine wpAnyH_ready (rs := [13]) (by kernel_rfl) (by simp) ?_
    refine (AllReadyH.cons rfl (fun K hK => ?_) AllReadyH.nil)
    all_goals try simp only [List.getElem_toArray, List.getElem_cons_succ, List.getElem_cons_zero]
    go_simp
    refine hK.out _ _ (hHeld.trans hAn) (fun hHeld => ?_)
    clear hK K
    try simp only [Act.put, List.getElem_toArray, List.getElem_cons_succ, List.getElem_cons_zero, List.setIfInBounds_toArray, List.set_cons_zero, List.set_cons_succ]
    refine wpAnyH_done (by kernel_rfl) ?_ _
    simp only [cutQ]
    have hCw := hA1.trans hHeld
    obtain ⟨W2, eW2⟩ : ∃ W2, W1.alloc (.cells #[.int .i64 nr] 2) = W2 := ⟨_, rfl⟩
    have bn := HN.out.1
    have hs2 := HN.out.2.1
    have hF2 := HN.out.2.2
    rw [eW2] at hCw bn hs2 ⊢
    clear HN eW2 hAn hHeld
    have hl1 : (selP lo hi (ptsC ss l0 l1)).length + [nr].length ≤ 1000000 := by simp; omega
    go_wp2_with (at_builtin; go_must (refine wpL_append' rfl _ _ 44 rfl idR elem91 (w0 := w) (l2 := [nr]) hCw hs2 hF2 (SrcAt.one (renc := idE) (a := nr) (t := 2) (fr := (0, 0)) bn 1) rfl rfl hl1 (by omega) ?_))
    intro v3 W3 hs3 hC3 hF3 hg3
    have hl3 : (selP lo hi (ptsC ss l0 l1) ++ [nr]).length ≤ 1000 := by simp; omega
    clear hg3 bn hs2 hCw
    go_wp2_with fail
    refine (sorts_at W3 v3 _ hs3 hl3).mono ?_
    rintro e W4 ⟨rfl, hs4, hB4⟩
    have hC4 : Chg [] w W4 := chg_below hC3 (hB4 _ hC3.size hF3)
    go_wp2_with fail
    refine (compacts_at W4 v3 _ hs4 (fun e => by have := (srt_mem (selP lo hi (ptsC ss l0 l1) ++ [nr]) nr).2 (by simp); rw [e] at this; simp at this) (by rw [srt_len]; exact hl3)).mono ?_
    rintro e W5 ⟨v5, rfl, hs5, ho5, hC5⟩
    rw [HO.out] at hs5
    go_wp2_with fail
    go_ret
    exact ⟨_, rfl, hs5, hC4.trans' hC5 (by simp) (fun k hk => .inr (by simp only [ownL, Option.mem_toList] at hk; exact hF3 _ hk)), fun g hg => hF3 g (ho5 ▸ hg)⟩
  · go_simp
    have bn0 := heap_alloc_new W (.cells #[.int .i64 nr] 2)
    have H0 := Lib.hid bn0
    clear bn0
    refine hK.out _ _ (hS.trans (Chg.alloc _ W _)) (fun hHeld => ?_)
    clear hK K
    try simp only [Act.put, List.getElem_toArray, List.getElem_cons_succ, List.getElem_cons_zero, List.setIfInBounds_toArray, List.set_cons_zero, List.set_cons_succ]
    have hh1 := hHeld
    refine wpAnyH_ready (rs := [5]) (by kernel_rfl) (by simp) ?_
    refine (AllReadyH.cons rfl (fun K hK => ?_) AllReadyH.nil)
    all_goals try simp only [List.getElem_toArray, List.getElem_cons_succ, List.getElem_cons_zero]
    go_simp
    refine (hpr _ hh1).mono ?_
    rintro e W2 ⟨v, rfl, hs2, hF1, hC1⟩
    have hzz := (hA1.trans hh1).size
    have hF2 : Fresh w.heap.size v := hF1.mono hzz
    go_simp
    refine hK.out _ _ (hh1.trans hC1) (fun hHeld => ?_)
    clear hK K
    try simp only [Act.put, List.getElem_toArray, List.getElem_cons_succ, List.getElem_cons_zero, List.setIfInBounds_toArray, List.set_cons_zero, List.set_cons_succ]
    have bn := hC1.at_ H0.out (by simp)
    have HN := Lib.hid (And.intro bn (And.intro hs2 hF2))
    clear bn hs2 hF1 hF2 hC1 H0 hh1
    refine wpAnyH_done (by kernel_rfl) ?_ _
    simp only [cutQ]
    have hCw := hA1.trans hHeld
    have bn := HN.out.1
    have hs2 := HN.out.2.1
    have hF2 := HN.out.2.2
    clear HN hHeld
    have hl1 : (selP lo hi (ptsC ss l0 l1)).length + [nr].length ≤ 1000000 := by simp; omega
    go_wp2_with (at_builtin; go_must (refine wpL_append' rfl _ _ 44 rfl idR elem91 (w0 := w) (l2 := [nr]) hCw hs2 hF2 (SrcAt.one (renc := idE) (a := nr) (t := 2) (fr := (0, 0)) bn 1) rfl rfl hl1 (by omega) ?_))
    intro v3 W3 hs3 hC3 hF3 hg3
    have hl3 : (selP lo hi (ptsC ss l0 l1) ++ [nr]).length ≤ 1000 := by simp; omega
    clear hg3 bn hs2 hCw
    go_wp2_with fail
    refine (sorts_at W3 v3 _ hs3 hl3).mono ?_
    rintro e W4 ⟨rfl, hs4, hB4⟩
    have hC4 : Chg [] w W4 := chg_below hC3 (hB4 _ hC3.size hF3)
    go_wp2_with fail
    refine (compacts_at W4 v3 _ hs4 (fun e => by have := (srt_mem (selP lo hi (ptsC ss l0 l1) ++ [nr]) nr).2 (by simp); rw [e] at this; simp at this) (by rw [srt_len]; exact hl3)).mono ?_
    rintro e W5 ⟨v5, rfl, hs5, ho5, hC5⟩
    rw [HO.out] at hs5
    go_wp2_with fail
    go_ret
    exact ⟨_, rfl, hs5, hC4.trans' hC5 (by simp) (fun k hk => .inr (by simp only [ownL, Option.mem_toList] at hk; exact hF3 _ hk)), fun g hg => hF3 g (ho5 ▸ hg)⟩
end Go.Proofs.YtdcjfaplgpeonaaGreat
