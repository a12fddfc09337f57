/-
  What a band has of all prices; which prices of a book are allowed.
-/
import Derived.Test.YtdcjfaplgpeonaaGreatQh
import Derived.Test.YtdcjfaplgpeonaaGreatQe
namespace Go.Proofs.YtdcjfaplgpeonaaGreat
open Go.RowKit Go.Dm
attribute [local go_sem] Oper.semAt_some

def bdV (lo hi : Int) : Value := .agg #[.int .i64 lo, .int .i64 hi]
theorem results_bd {fn : Func} {p u : Tmp} (h : fn.results = #[.cell p 32, .tmp u]) (tmps : Array Value) (w : World) (g : Nat) (lo hi : Int) (x : Value)
    (hp : tmps.getD p undef = .pointer (some ⟨g, 0, none⟩)) (hx : tmps.getD u undef = x) (hb : w.heap[g]? = some (.cells #[.int .i64 lo, .int .i64 hi] 32 (0, 0))) :
    (results fn tmps).run Tryz.prog w = .ok (.tuple #[bdV lo hi, x]) w := by
  subst hx
  have hp' : tmps[p]?.getD undef = .pointer (some ⟨g, 0, none⟩) := by simpa using hp
  simp [results, h, hp', asAddr, run_loadVar_row w g 32 32 _ (0, 0) _ hb Tryz.underlying32 rfl (by kernel_rfl)]
  rfl
theorem results_bd1 {fn : Func} {q : Tmp} (h : fn.results = #[.cell q 32]) (tmps : Array Value) (w : World) (g : Nat) (lo hi : Int)
    (hp : tmps.getD q undef = .pointer (some ⟨g, 0, none⟩)) (hb : w.heap[g]? = some (.cells #[.int .i64 lo, .int .i64 hi] 32 (0, 0))) :
    (results fn tmps).run Tryz.prog w = .ok (bdV lo hi) w := by
  have hp' : tmps[q]?.getD undef = .pointer (some ⟨g, 0, none⟩) := by simpa using hp
  simp [results, h, hp', asAddr, run_loadVar_row w g 32 32 _ (0, 0) _ hb Tryz.underlying32 rfl (by kernel_rfl)]
  rfl
theorem whole36 (w : World) : Calls Tryz.prog 36 #[] w fun e w' => e = .returned (bdV 1 1099511627776) ∧ Chg [] w w' := by
  have hA := Chg.alloc [] w (.cells #[.int .i64 1, .int .i64 1099511627776] 32)
  have b := heap_alloc_new w (.cells #[.int .i64 1, .int .i64 1099511627776] 32)
  go_enter Tryz.func36, Tryz.ntmps36
  go_wp2_with fail
  refine bodyPost_ret (results_bd1 rfl _ _ w.heap.size 1 1099511627776 rfl b) rfl ?_
  exact ⟨rfl, hA⟩

set_option maxRecDepth 100000 in
set_option maxHeartbeats 4000000 in
theorem cut28 (w : World) (lo hi : Int) : Calls Tryz.prog 28 #[bdV lo hi] w fun e w' => e = .returned (.tuple #[bdV (max lo 1) (min hi 1099511627776), .bool (decide (max lo 1 ≤ min hi 1099511627776))]) ∧ Chg [] w w' := by
  have hA1 := Chg.alloc [] w (.cells #[.int .i64 lo, .int .i64 hi] 32)
  have b1 := heap_alloc_new w (.cells #[.int .i64 lo, .int .i64 hi] 32)
  have hA2 := Chg.alloc [] (w.alloc (.cells #[.int .i64 lo, .int .i64 hi] 32)) (.cells #[.int .i64 0, .int .i64 0] 32)
  have b2 := heap_alloc_new (w.alloc (.cells #[.int .i64 lo, .int .i64 hi] 32)) (.cells #[.int .i64 0, .int .i64 0] 32)
  rw [World.size_alloc] at b2
  have b1 := hA2.at_ b1 (by simp)
  have hC0 := hA1.trans hA2
  unfold bdV
  go_enter Tryz.func28, Tryz.ntmps28
  go_wp2_with fail
  refine (whole36 _).mono ?_
  rintro e W1 ⟨rfl, hC10⟩
  have hC1 := hC0.trans hC10
  have b1 := hC10.at_ b1 (by simp)
  have b2 := hC10.at_ b2 (by simp)
  have hA4 := Chg.alloc [] W1 (.cells #[.int .i64 1, .int .i64 1099511627776] 32)
  have b4 := heap_alloc_new W1 (.cells #[.int .i64 1, .int .i64 1099511627776] 32)
  have hw := blk_lt b2
  have b1 := hA4.at_ b1 (by simp)
  have b2 := hA4.at_ b2 (by simp)
  have hC2 := hC1.trans hA4
  clear hC10 hC1 hA4 hA1 hA2 hC0
  unfold bdV
  go_wp2_with fail
  obtain ⟨nl, hnl⟩ : ∃ nl, max lo 1 = nl := ⟨_, rfl⟩
  obtain ⟨nh, hnh⟩ : ∃ nh, min hi 1099511627776 = nh := ⟨_, rfl⟩
  have HN := Lib.hid (And.intro hnl hnh)
  obtain ⟨W2, eW2⟩ : ∃ W2, W1.alloc (.cells #[.int .i64 1, .int .i64 1099511627776] 32) = W2 := ⟨_, rfl⟩
  rw [eW2] at b1 b2 b4 hC2 ⊢
  obtain ⟨y0, y1⟩ := blk2 b4
  have n4 : W1.heap.size ∉ [w.heap.size] := by simp; omega
  have HB := Lib.hid (And.intro b1 (And.intro b2 hC2))
  clear b1 b2 b4 hC2 eW2
  refine wp_cutR (Chg [w.heap.size] W2) 13 (by kernel_rfl) (by kernel_rfl) (fun _ h => Chg.nil h) (fun W hW hS => ?_)
  simp only [List.take_succ_cons, List.take_zero, List.drop_succ_cons, List.drop_zero]
  refine takeH 0 (v := ?vv70) rfl (by kernel_rfl) (by kernel_rfl) (by kernel_rfl) (fun _ _ _ h => h) (by kernel_rfl) (fun Wx hSx => ?hy70) (by assumption) ?hrest70
  case hy70 => go_simp; (try with_reducible rfl)
  simp only [Act.put, List.getElem_toArray, List.getElem_cons_zero, List.setIfInBounds_toArray, List.set_cons_zero, List.set_cons_succ]
  refine takeH 2 (v := ?vv73) rfl (by kernel_rfl) (by kernel_rfl) (by kernel_rfl) (fun _ _ _ h => h) (by kernel_rfl) (fun Wx hSx => ?hy73) (by assumption) ?hrest73
  case hy73 => have q0 := hSx.cell y0 n4; have q1 := hSx.cell y1 n4; go_simp; (try with_reducible rfl)
  simp only [Act.put, List.getElem_toArray, List.getElem_cons_succ, List.getElem_cons_zero, List.setIfInBounds_toArray, List.set_cons_zero, List.set_cons_succ]
  refine takeH 3 (v := ?vv76) rfl (by kernel_rfl) (by kernel_rfl) (by kernel_rfl) (fun _ _ _ h => h) (by kernel_rfl) (fun Wx hSx => ?hy76) (by assumption) ?hrest76
  case hy76 => have q0 := hSx.cell y0 n4; have q1 := hSx.cell y1 n4; go_simp; (try with_reducible rfl)
  simp only [Act.put, List.getElem_toArray, List.getElem_cons_succ, List.getElem_cons_zero, List.setIfInBounds_toArray, List.set_cons_zero, List.set_cons_succ]
  refine takeH 5 (v := ?vv79) rfl (by kernel_rfl) (by kernel_rfl) (by kernel_rfl) (fun _ _ _ h => h) (by kernel_rfl) (fun Wx hSx => ?hy79) (by assumption) ?hrest79
  case hy79 => go_simp; (try with_reducible rfl)
  simp only [Act.put, List.getElem_toArray, List.getElem_cons_succ, List.getElem_cons_zero, List.setIfInBounds_toArray, List.set_cons_zero, List.set_cons_succ]
  refine takeH 7 (v := ?vv82) rfl (by kernel_rfl) (by kernel_rfl) (by kernel_rfl) (fun _ _ _ h => h) (by kernel_rfl) (fun Wx hSx => ?hy82) (by assumption) ?hrest82
  case hy82 => have q0 := hSx.cell y0 n4; have q1 := hSx.cell y1 n4; go_simp; (try with_reducible rfl)
  simp only [Act.put, List.getElem_toArray, List.getElem_cons_succ, List.getElem_cons_zero, List.setIfInBounds_toArray, List.set_cons_zero, List.set_cons_succ]
  refine takeH 8 (v := ?vv85) rfl (by kernel_rfl) (by kernel_rfl) (by kernel_rfl) (fun _ _ _ h => h) (by kernel_rfl) (fun Wx hSx => ?hy85) (by assumption) ?hrest85
  case hy85 => have q0 := hSx.cell y0 n4; have q1 := hSx.cell y1 n4; go_simp; (try with_reducible rfl)
  simp only [Act.put, List.getElem_toArray, List.getElem_cons_succ, List.getElem_cons_zero, List.setIfInBounds_toArray, List.set_cons_zero, List.set_cons_succ]
  have d1 := hW.at_ HB.out.1 (by simp)
  have d2 := hW.at_ HB.out.2.1 (by simp)
  have hC3 := HB.out.2.2.trans hW
  obtain ⟨x0, x1⟩ := blk2 d1
  have f1 := blkfreeU d1
  have h4a := blk_set d1 0 (.int .i64 nl)
  simp only [List.setIfInBounds_toArray, List.set_cons_zero] at h4a
  have h4 := blk_set h4a 1 (.int .i64 nh)
  simp only [List.setIfInBounds_toArray, List.set_cons_zero, List.set_cons_succ] at h4
  have f1a := blkfreeU h4a
  have hS9 := (Chg.setCell (S := [w.heap.size]) W ⟨w.heap.size, 0, none⟩ (.int .i64 nl) (by simp)).putIn (g := w.heap.size) (j := 1) (u := .int .i64 nh) (by simp)
  have e2 := hS9.at_ d2 (by simp)
  have hC4 := (hC3.putNew (g := w.heap.size) (j := 0) (u := .int .i64 nl) (by omega)).putNew (g := w.heap.size) (j := 1) (u := .int .i64 nh) (by omega)
  obtain ⟨x0a, x1a⟩ := blk2 h4a
  have HG := Lib.hid (And.intro h4 (And.intro e2 hC4))
  have hwl : w.heap.size < W.heap.size := blk_lt d1
  clear hS9 d1 d2 hC3 h4a h4 e2 hC4 hW
  refine wpAnyH_ready (rs := [1, 6]) (by kernel_rfl) (by simp) ?_
  refine (AllReadyH.cons rfl (fun K hK => ?_) (AllReadyH.cons rfl (fun K hK => ?_) AllReadyH.nil))
  all_goals try simp only [List.getElem_toArray, List.getElem_cons_succ, List.getElem_cons_zero]
  · go_simp
    refine hK.out _ _ (hS) (fun hHeld => ?_)
    clear hK K
    try simp only [Act.put, List.getElem_toArray, List.getElem_cons_succ, List.getElem_cons_zero, List.setIfInBounds_toArray, List.set_cons_zero, List.set_cons_succ]
    refine takeH 4 (v := ?vv112) rfl (by kernel_rfl) (by kernel_rfl) (by kernel_rfl) (fun _ _ _ h => h) (by kernel_rfl) (fun Wx hSx => ?hy112) (by assumption) ?hrest112
    case hy112 => go_simp; (try with_reducible rfl)
    simp only [Act.put, List.getElem_toArray, List.getElem_cons_succ, List.getElem_cons_zero, List.setIfInBounds_toArray, List.set_cons_zero, List.set_cons_succ]
    refine wpAnyH_ready (rs := [6]) (by kernel_rfl) (by simp) ?_
    refine (AllReadyH.cons rfl (fun K hK => ?_) AllReadyH.nil)
    all_goals try simp only [List.getElem_toArray, List.getElem_cons_succ, List.getElem_cons_zero]
    go_simp
    refine hK.out _ _ (hS) (fun hHeld => ?_)
    clear hK K
    try simp only [Act.put, List.getElem_toArray, List.getElem_cons_succ, List.getElem_cons_zero, List.setIfInBounds_toArray, List.set_cons_zero, List.set_cons_succ]
    refine takeH 9 (v := ?vv122) rfl (by kernel_rfl) (by kernel_rfl) (by kernel_rfl) (fun _ _ _ h => h) (by kernel_rfl) (fun Wx hSx => ?hy122) (by assumption) ?hrest122
    case hy122 => go_simp; (try with_reducible rfl)
    simp only [Act.put, List.getElem_toArray, List.getElem_cons_succ, List.getElem_cons_zero, List.setIfInBounds_toArray, List.set_cons_zero, List.set_cons_succ]
    refine takeH 10 (v := ?vv125) rfl (by kernel_rfl) (by kernel_rfl) (by kernel_rfl) (fun _ _ _ h => h) (by kernel_rfl) (fun Wx hSx => ?hy125) (by assumption) ?hrest125
    case hy125 => go_simp; (try with_reducible rfl)
    simp only [Act.put, List.getElem_toArray, List.getElem_cons_succ, List.getElem_cons_zero, List.setIfInBounds_toArray, List.set_cons_zero, List.set_cons_succ]
    refine wpAnyH_ready (rs := [11]) (by kernel_rfl) (by simp) ?_
    refine (AllReadyH.cons rfl (fun K hK => ?_) AllReadyH.nil)
    all_goals try simp only [List.getElem_toArray, List.getElem_cons_succ, List.getElem_cons_zero]
    go_simp
    refine hK.out _ _ (hS.put) (fun hHeld => ?_)
    clear hK K
    try simp only [Act.put, List.getElem_toArray, List.getElem_cons_succ, List.getElem_cons_zero, List.setIfInBounds_toArray, List.set_cons_zero, List.set_cons_succ]
    refine takeH 12 (v := ?vv135) rfl (by kernel_rfl) (by kernel_rfl) (by kernel_rfl) (fun _ _ _ h => h) (by kernel_rfl) (fun Wx hSx => ?hy135) (by assumption) ?hrest135
    case hy135 => go_simp; (try with_reducible rfl)
    simp only [Act.put, List.getElem_toArray, List.getElem_cons_succ, List.getElem_cons_zero, List.setIfInBounds_toArray, List.set_cons_zero, List.set_cons_succ]
    refine wpAnyH_done (by kernel_rfl) ?_ _
    simp only [cutQ]
    go_wp2_with fail
    have h4 := HG.out.1
    have e2 := HG.out.2.1
    have hC4 := HG.out.2.2
    obtain ⟨W4, eW4⟩ : ∃ W4, (W.setCell ⟨w.heap.size, 0, none⟩ (.int .i64 nl)).setCell ⟨w.heap.size, 1, none⟩ (.int .i64 nh) = W4 := ⟨_, rfl⟩
    rw [eW4] at h4 e2 hC4 ⊢
    clear x0 x1 x0a x1a y0 y1 f1 f1a HG HB hwl eW4
    obtain ⟨x0, x1⟩ := blk2 h4
    refine wp_cutR (Chg [w.heap.size + 1] W4) 7 (by kernel_rfl) (by kernel_rfl) (fun _ h => Chg.nil h) (fun W hW hS => ?_)
    simp only [List.take_succ_cons, List.take_zero, List.drop_succ_cons, List.drop_zero]
    refine takeH 0 (v := ?vv150) rfl (by kernel_rfl) (by kernel_rfl) (by kernel_rfl) (fun _ _ _ h => h) (by kernel_rfl) (fun Wx hSx => ?hy150) (by assumption) ?hrest150
    case hy150 => have q0 := hSx.cell x0 (by simp); have q1 := hSx.cell x1 (by simp); go_simp; (try with_reducible rfl)
    simp only [Act.put, List.getElem_toArray, List.getElem_cons_zero, List.setIfInBounds_toArray, List.set_cons_zero, List.set_cons_succ]
    refine takeH 1 (v := ?vv153) rfl (by kernel_rfl) (by kernel_rfl) (by kernel_rfl) (fun _ _ _ h => h) (by kernel_rfl) (fun Wx hSx => ?hy153) (by assumption) ?hrest153
    case hy153 => have q0 := hSx.cell x0 (by simp); have q1 := hSx.cell x1 (by simp); go_simp; (try with_reducible rfl)
    simp only [Act.put, List.getElem_toArray, List.getElem_cons_succ, List.getElem_cons_zero, List.setIfInBounds_toArray, List.set_cons_zero, List.set_cons_succ]
    refine takeH 2 (v := ?vv156) rfl (by kernel_rfl) (by kernel_rfl) (by kernel_rfl) (fun _ _ _ h => h) (by kernel_rfl) (fun Wx hSx => ?hy156) (by assumption) ?hrest156
    case hy156 => have q0 := hSx.cell x0 (by simp); have q1 := hSx.cell x1 (by simp); go_simp; (try with_reducible rfl)
    simp only [Act.put, List.getElem_toArray, List.getElem_cons_succ, List.getElem_cons_zero, List.setIfInBounds_toArray, List.set_cons_zero, List.set_cons_succ]
    refine takeH 3 (v := ?vv159) rfl (by kernel_rfl) (by kernel_rfl) (by kernel_rfl) (fun _ _ _ h => h) (by kernel_rfl) (fun Wx hSx => ?hy159) (by assumption) ?hrest159
    case hy159 => have q0 := hSx.cell x0 (by simp); have q1 := hSx.cell x1 (by simp); go_simp; (try with_reducible rfl)
    simp only [Act.put, List.getElem_toArray, List.getElem_cons_succ, List.getElem_cons_zero, List.setIfInBounds_toArray, List.set_cons_zero, List.set_cons_succ]
    refine takeH 4 (v := ?vv162) rfl (by kernel_rfl) (by kernel_rfl) (by kernel_rfl) (fun _ _ _ h => h) (by kernel_rfl) (fun Wx hSx => ?hy162) (by assumption) ?hrest162
    case hy162 => have q0 := hSx.cell x0 (by simp); have q1 := hSx.cell x1 (by simp); go_simp; (try with_reducible rfl)
    simp only [Act.put, List.getElem_toArray, List.getElem_cons_succ, List.getElem_cons_zero, List.setIfInBounds_toArray, List.set_cons_zero, List.set_cons_succ]
    refine takeH 5 (v := ?vv165) rfl (by kernel_rfl) (by kernel_rfl) (by kernel_rfl) (fun _ _ _ h => h) (by kernel_rfl) (fun Wx hSx => ?hy165) (by assumption) ?hrest165
    case hy165 => have q0 := hSx.cell x0 (by simp); have q1 := hSx.cell x1 (by simp); go_simp; (try with_reducible rfl)
    simp only [Act.put, List.getElem_toArray, List.getElem_cons_succ, List.getElem_cons_zero, List.setIfInBounds_toArray, List.set_cons_zero, List.set_cons_succ]
    refine wpAnyH_ready (rs := [6]) (by kernel_rfl) (by simp) ?_
    refine (AllReadyH.cons rfl (fun K hK => ?_) AllReadyH.nil)
    all_goals try simp only [List.getElem_toArray, List.getElem_cons_succ, List.getElem_cons_zero]
    have d2 := hW.at_ e2 (by simp)
    have f2 := blkfreeU d2
    obtain ⟨z0, z1⟩ := blk2 d2
    have hf := blk_set (blk_set d2 0 (.int .i64 nl)) 1 (.int .i64 nh)
    simp only [List.setIfInBounds_toArray, List.set_cons_zero, List.set_cons_succ] at hf
    have hC5 := ((hC4.trans hW).putNew (g := w.heap.size + 1) (j := 0) (u := .int .i64 nl) (by omega)).putNew (g := w.heap.size + 1) (j := 1) (u := .int .i64 nh) (by omega)
    have HF := Lib.hid (And.intro hf hC5)
    clear hf hC5 d2
    go_simp
    refine hK.out _ _ (hS.put.put) (fun hHeld => ?_)
    clear hK K
    try simp only [Act.put, List.getElem_toArray, List.getElem_cons_succ, List.getElem_cons_zero, List.setIfInBounds_toArray, List.set_cons_zero, List.set_cons_succ]
    refine wpAnyH_done (by kernel_rfl) ?_ _
    simp only [cutQ]
    go_wp2_with fail
    refine bodyPost_ret (results_bd rfl _ _ (w.heap.size + 1) nl nh _ rfl rfl HF.out.1) rfl ?_
    exact ⟨by rw [HN.out.1, HN.out.2]; rfl, HF.out.2⟩
  · go_simp
    refine hK.out _ _ (hS) (fun hHeld => ?_)
    clear hK K
    try simp only [Act.put, List.getElem_toArray, List.getElem_cons_succ, List.getElem_cons_zero, List.setIfInBounds_toArray, List.set_cons_zero, List.set_cons_succ]
    refine takeH 9 (v := ?vv192) rfl (by kernel_rfl) (by kernel_rfl) (by kernel_rfl) (fun _ _ _ h => h) (by kernel_rfl) (fun Wx hSx => ?hy192) (by assumption) ?hrest192
    case hy192 => go_simp; (try with_reducible rfl)
    simp only [Act.put, List.getElem_toArray, List.getElem_cons_succ, List.getElem_cons_zero, List.setIfInBounds_toArray, List.set_cons_zero, List.set_cons_succ]
    refine wpAnyH_ready (rs := [1]) (by kernel_rfl) (by simp) ?_
    refine (AllReadyH.cons rfl (fun K hK => ?_) AllReadyH.nil)
    all_goals try simp only [List.getElem_toArray, List.getElem_cons_succ, List.getElem_cons_zero]
    go_simp
    refine hK.out _ _ (hS) (fun hHeld => ?_)
    clear hK K
    try simp only [Act.put, List.getElem_toArray, List.getElem_cons_succ, List.getElem_cons_zero, List.setIfInBounds_toArray, List.set_cons_zero, List.set_cons_succ]
    refine takeH 4 (v := ?vv202) rfl (by kernel_rfl) (by kernel_rfl) (by kernel_rfl) (fun _ _ _ h => h) (by kernel_rfl) (fun Wx hSx => ?hy202) (by assumption) ?hrest202
    case hy202 => go_simp; (try with_reducible rfl)
    simp only [Act.put, List.getElem_toArray, List.getElem_cons_succ, List.getElem_cons_zero, List.setIfInBounds_toArray, List.set_cons_zero, List.set_cons_succ]
    refine takeH 10 (v := ?vv205) rfl (by kernel_rfl) (by kernel_rfl) (by kernel_rfl) (fun _ _ _ h => h) (by kernel_rfl) (fun Wx hSx => ?hy205) (by assumption) ?hrest205
    case hy205 => go_simp; (try with_reducible rfl)
    simp only [Act.put, List.getElem_toArray, List.getElem_cons_succ, List.getElem_cons_zero, List.setIfInBounds_toArray, List.set_cons_zero, List.set_cons_succ]
    refine wpAnyH_ready (rs := [11]) (by kernel_rfl) (by simp) ?_
    refine (AllReadyH.cons rfl (fun K hK => ?_) AllReadyH.nil)
    all_goals try simp only [List.getElem_toArray, List.getElem_cons_succ, List.getElem_cons_zero]
    go_simp
    refine hK.out _ _ (hS.put) (fun hHeld => ?_)
    clear hK K
    try simp only [Act.put, List.getElem_toArray, List.getElem_cons_succ, List.getElem_cons_zero, List.setIfInBounds_toArray, List.set_cons_zero, List.set_cons_succ]
    refine takeH 12 (v := ?vv215) rfl (by kernel_rfl) (by kernel_rfl) (by kernel_rfl) (fun _ _ _ h => h) (by kernel_rfl) (fun Wx hSx => ?hy215) (by assumption) ?hrest215
    case hy215 => go_simp; (try with_reducible rfl)
    simp only [Act.put, List.getElem_toArray, List.getElem_cons_succ, List.getElem_cons_zero, List.setIfInBounds_toArray, List.set_cons_zero, List.set_cons_succ]
    refine wpAnyH_done (by kernel_rfl) ?_ _
    simp only [cutQ]
    go_wp2_with fail
    have h4 := HG.out.1
    have e2 := HG.out.2.1
    have hC4 := HG.out.2.2
    obtain ⟨W4, eW4⟩ : ∃ W4, (W.setCell ⟨w.heap.size, 0, none⟩ (.int .i64 nl)).setCell ⟨w.heap.size, 1, none⟩ (.int .i64 nh) = W4 := ⟨_, rfl⟩
    rw [eW4] at h4 e2 hC4 ⊢
    clear x0 x1 x0a x1a y0 y1 f1 f1a HG HB hwl eW4
    obtain ⟨x0, x1⟩ := blk2 h4
    refine wp_cutR (Chg [w.heap.size + 1] W4) 7 (by kernel_rfl) (by kernel_rfl) (fun _ h => Chg.nil h) (fun W hW hS => ?_)
    simp only [List.take_succ_cons, List.take_zero, List.drop_succ_cons, List.drop_zero]
    refine takeH 0 (v := ?vv230) rfl (by kernel_rfl) (by kernel_rfl) (by kernel_rfl) (fun _ _ _ h => h) (by kernel_rfl) (fun Wx hSx => ?hy230) (by assumption) ?hrest230
    case hy230 => have q0 := hSx.cell x0 (by simp); have q1 := hSx.cell x1 (by simp); go_simp; (try with_reducible rfl)
    simp only [Act.put, List.getElem_toArray, List.getElem_cons_zero, List.setIfInBounds_toArray, List.set_cons_zero, List.set_cons_succ]
    refine takeH 1 (v := ?vv233) rfl (by kernel_rfl) (by kernel_rfl) (by kernel_rfl) (fun _ _ _ h => h) (by kernel_rfl) (fun Wx hSx => ?hy233) (by assumption) ?hrest233
    case hy233 => have q0 := hSx.cell x0 (by simp); have q1 := hSx.cell x1 (by simp); go_simp; (try with_reducible rfl)
    simp only [Act.put, List.getElem_toArray, List.getElem_cons_succ, List.getElem_cons_zero, List.setIfInBounds_toArray, List.set_cons_zero, List.set_cons_succ]
    refine takeH 2 (v := ?vv236) rfl (by kernel_rfl) (by kernel_rfl) (by kernel_rfl) (fun _ _ _ h => h) (by kernel_rfl) (fun Wx hSx => ?hy236) (by assumption) ?hrest236
    case hy236 => have q0 := hSx.cell x0 (by simp); have q1 := hSx.cell x1 (by simp); go_simp; (try with_reducible rfl)
    simp only [Act.put, List.getElem_toArray, List.getElem_cons_succ, List.getElem_cons_zero, List.setIfInBounds_toArray, List.set_cons_zero, List.set_cons_succ]
    refine takeH 3 (v := ?vv239) rfl (by kernel_rfl) (by kernel_rfl) (by kernel_rfl) (fun _ _ _ h => h) (by kernel_rfl) (fun Wx hSx => ?hy239) (by assumption) ?hrest239
    case hy239 => have q0 := hSx.cell x0 (by simp); have q1 := hSx.cell x1 (by simp); go_simp; (try with_reducible rfl)
    simp only [Act.put, List.getElem_toArray, List.getElem_cons_succ, List.getElem_cons_zero, List.setIfInBounds_toArray, List.set_cons_zero, List.set_cons_succ]
    refine takeH 4 (v := ?vv242) rfl (by kernel_rfl) (by kernel_rfl) (by kernel_rfl) (fun _ _ _ h => h) (by kernel_rfl) (fun Wx hSx => ?hy242) (by assumption) ?hrest242
    case hy242 => have q0 := hSx.cell x0 (by simp); have q1 := hSx.cell x1 (by simp); go_simp; (try with_reducible rfl)
    simp only [Act.put, List.getElem_toArray, List.getElem_cons_succ, List.getElem_cons_zero, List.setIfInBounds_toArray, List.set_cons_zero, List.set_cons_succ]
    refine takeH 5 (v := ?vv245) rfl (by kernel_rfl) (by kernel_rfl) (by kernel_rfl) (fun _ _ _ h => h) (by kernel_rfl) (fun Wx hSx => ?hy245) (by assumption) ?hrest245
    case hy245 => have q0 := hSx.cell x0 (by simp); have q1 := hSx.cell x1 (by simp); go_simp; (try with_reducible rfl)
    simp only [Act.put, List.getElem_toArray, List.getElem_cons_succ, List.getElem_cons_zero, List.setIfInBounds_toArray, List.set_cons_zero, List.set_cons_succ]
    refine wpAnyH_ready (rs := [6]) (by kernel_rfl) (by simp) ?_
    refine (AllReadyH.cons rfl (fun K hK => ?_) AllReadyH.nil)
    all_goals try simp only [List.getElem_toArray, List.getElem_cons_succ, List.getElem_cons_zero]
    have d2 := hW.at_ e2 (by simp)
    have f2 := blkfreeU d2
    obtain ⟨z0, z1⟩ := blk2 d2
    have hf := blk_set (blk_set d2 0 (.int .i64 nl)) 1 (.int .i64 nh)
    simp only [List.setIfInBounds_toArray, List.set_cons_zero, List.set_cons_succ] at hf
    have hC5 := ((hC4.trans hW).putNew (g := w.heap.size + 1) (j := 0) (u := .int .i64 nl) (by omega)).putNew (g := w.heap.size + 1) (j := 1) (u := .int .i64 nh) (by omega)
    have HF := Lib.hid (And.intro hf hC5)
    clear hf hC5 d2
    go_simp
    refine hK.out _ _ (hS.put.put) (fun hHeld => ?_)
    clear hK K
    try simp only [Act.put, List.getElem_toArray, List.getElem_cons_succ, List.getElem_cons_zero, List.setIfInBounds_toArray, List.set_cons_zero, List.set_cons_succ]
    refine wpAnyH_done (by kernel_rfl) ?_ _
    simp only [cutQ]
    go_wp2_with fail
    refine bodyPost_ret (results_bd rfl _ _ (w.heap.size + 1) nl nh _ rfl rfl HF.out.1) rfl ?_
    exact ⟨by rw [HN.out.1, HN.out.2]; rfl, HF.out.2⟩
end Go.Proofs.YtdcjfaplgpeonaaGreat

/-
  The prices that are allowed of a book; the one that is chosen.
-/
namespace Go.Proofs.YtdcjfaplgpeonaaGreat
open Go.RowKit Go.Dm
attribute [local go_sem] Oper.semAt_some

/-- The prices of some orders, what is bought at a price, what is sold. -/
def psO (L : List Ord) : List Int := L.map (fun o => o 3)
def dO (L : List Ord) (q : Int) : Int := demO (sdO L 0) q
def sO (L : List Ord) (q : Int) : Int := supO (sdO L 1) q
def chV (x : Pr × Bool) : Value := .tuple #[prV x.1, .bool x.2]
structure OrdOk (L : List Ord) : Prop where
  len : L.length ≤ 60
  qty : QtyOk L
  side : ∀ o ∈ L, o 2 = 0 ∨ o 2 = 1
theorem OrdOk.ss {L : List Ord} (h : OrdOk L) {ss : List Int} (hP : Prices ss (sdO L 0) (sdO L 1)) : ∀ q, q ∈ ss ↔ q ∈ psO L := fun q => by
  rw [hP.all, Bool.or_eq_true]
  unfold hasP psO sdO
  rw [List.any_eq_true, List.any_eq_true, List.mem_map]
  constructor
  · rintro (⟨o, ho, h2⟩ | ⟨o, ho, h2⟩)
    · exact ⟨o, (List.mem_filter.1 ho).1, by simpa using h2⟩
    · exact ⟨o, (List.mem_filter.1 ho).1, by simpa using h2⟩
  · rintro ⟨o, ho, h2⟩
    rcases h.side o ho with h3 | h3
    · exact .inl ⟨o, List.mem_filter.2 ⟨ho, by simp [h3]⟩, by simpa using h2⟩
    · exact .inr ⟨o, List.mem_filter.2 ⟨ho, by simp [h3]⟩, by simpa using h2⟩
theorem OrdOk.slen {L : List Ord} (h : OrdOk L) {ss : List Int} (hP : Prices ss (sdO L 0) (sdO L 1)) : ss.length ≤ 120 := by
  have h1 := hP.len
  have h2 : (sdO L 0).length ≤ L.length := List.length_filter_le _ _
  have h3 : (sdO L 1).length ≤ L.length := List.length_filter_le _ _
  have := h.len
  omega
theorem OrdOk.s60 {L : List Ord} (h : OrdOk L) (sd : Int) : (sdO L sd).length ≤ 60 := Nat.le_trans (List.length_filter_le _ _) h.len

/-- What is allowed of a book, whichever the band. -/
def allowB (L : List Ord) (r lo hi : Int) : List Int := if min hi 1099511627776 < max lo 1 then [] else allowL (psO L) (max lo 1) (min hi 1099511627776) (nearI r (max lo 1) (min hi 1099511627776))

set_option maxRecDepth 100000 in
set_option maxHeartbeats 4000000 in
theorem allowed18_nil (w : World) (r lo hi : Int) : Calls Tryz.prog 18 #[.pointer none, .int .i64 r, bdV lo hi] w fun e w' => e = .returned (.slice none 0 0) ∧ Chg [] w w' := by
  have hA1 := Chg.alloc [] w (.cells #[.int .i64 lo, .int .i64 hi] 32)
  have b1 := heap_alloc_new w (.cells #[.int .i64 lo, .int .i64 hi] 32)
  have hc := cut28 (w.alloc (.cells #[.int .i64 lo, .int .i64 hi] 32)) lo hi
  obtain ⟨nl, hnl⟩ : ∃ nl, max lo 1 = nl := ⟨_, rfl⟩
  obtain ⟨nh, hnh⟩ : ∃ nh, min hi 1099511627776 = nh := ⟨_, rfl⟩
  rw [hnl, hnh] at hc
  clear hnl hnh
  obtain ⟨bb, hbb⟩ : ∃ bb, decide (nl ≤ nh) = bb := ⟨_, rfl⟩
  rw [hbb] at hc
  clear hbb
  unfold bdV at *
  go_enter Tryz.func18, Tryz.ntmps18
  go_wp2_with fail
  refine hc.mono ?_
  rintro e W1 ⟨rfl, hC1⟩
  have d1 := hC1.at_ b1 (by simp)
  have f1 := blkfreeU d1
  obtain ⟨z0, z1⟩ := blk2 d1
  have hC2 := ((hA1.trans hC1).putNew (g := w.heap.size) (j := 0) (u := .int .i64 nl) (by omega)).putNew (g := w.heap.size) (j := 1) (u := .int .i64 nh) (by omega)
  clear hc hA1 hC1 b1 d1
  go_wp2_with fail
  go_ret
  exact ⟨rfl, hC2⟩

set_option maxRecDepth 100000 in
set_option maxHeartbeats 4000000 in
theorem allowed18 (w : World) {D : Nat} {B : Bkb} {L : List Ord} {lv0 lv1 : List Lvl} {v0 v1 : Value} (h : PB w D B L lv0 lv1 v0 v1) (hO : OrdOk L) (r lo hi : Int) :
    Calls Tryz.prog 18 #[.pointer (some ⟨B.b, 0, none⟩), .int .i64 r, bdV lo hi] w fun e w' => ∃ v, e = .returned v ∧ SlAt 2 1 idE w' v (allowB L r lo hi) ∧ Chg [] w w' := by
  have hA1 := Chg.alloc [] w (.cells #[.int .i64 lo, .int .i64 hi] 32)
  have b1 := heap_alloc_new w (.cells #[.int .i64 lo, .int .i64 hi] 32)
  have hc := cut28 (w.alloc (.cells #[.int .i64 lo, .int .i64 hi] 32)) lo hi
  unfold allowB
  obtain ⟨nl, hnl⟩ : ∃ nl, max lo 1 = nl := ⟨_, rfl⟩
  obtain ⟨nh, hnh⟩ : ∃ nh, min hi 1099511627776 = nh := ⟨_, rfl⟩
  rw [hnl, hnh] at hc ⊢
  clear hnl hnh
  unfold bdV at *
  by_cases hlt : nh < nl
  · have t1 : decide (nl ≤ nh) = false := decide_eq_false (by omega)
    rw [t1] at hc
    rw [if_pos hlt]
    clear hlt t1
    go_enter Tryz.func18, Tryz.ntmps18
    go_wp2_with fail
    refine hc.mono ?_
    rintro e W1 ⟨rfl, hC1⟩
    have d1 := hC1.at_ b1 (by simp)
    have f1 := blkfreeU d1
    obtain ⟨z0, z1⟩ := blk2 d1
    have hC2 := ((hA1.trans hC1).putNew (g := w.heap.size) (j := 0) (u := .int .i64 nl) (by omega)).putNew (g := w.heap.size) (j := 1) (u := .int .i64 nh) (by omega)
    clear hc hA1 hC1 b1 d1
    go_wp2_with fail
    go_ret
    exact ⟨_, rfl, SlAt.nil _ _ _ _, hC2⟩
  · have t1 : decide (nl ≤ nh) = true := decide_eq_true (by omega)
    rw [t1] at hc
    rw [if_neg hlt]
    have hle : nl ≤ nh := by omega
    clear hlt t1
    go_enter Tryz.func18, Tryz.ntmps18
    go_wp2_with fail
    refine hc.mono ?_
    rintro e W1 ⟨rfl, hC1⟩
    have d1 := hC1.at_ b1 (by simp)
    have f1 := blkfreeU d1
    obtain ⟨z0, z1⟩ := blk2 d1
    have hC2 := ((hA1.trans hC1).putNew (g := w.heap.size) (j := 0) (u := .int .i64 nl) (by omega)).putNew (g := w.heap.size) (j := 1) (u := .int .i64 nh) (by omega)
    have d2 := blk_set (blk_set d1 0 (.int .i64 nl)) 1 (.int .i64 nh)
    simp only [List.setIfInBounds_toArray, List.set_cons_zero, List.set_cons_succ] at d2
    obtain ⟨W2, eW2⟩ : ∃ W2, (W1.setCell ⟨w.heap.size, 0, none⟩ (.int .i64 nl)).setCell ⟨w.heap.size, 1, none⟩ (.int .i64 nh) = W2 := ⟨_, rfl⟩
    rw [eW2] at hC2 d2
    clear hc hA1 hC1 b1 d1
    go_wp2_with fail
    clear z0 z1 f1
    obtain ⟨z0, z1⟩ := blk2 d2
    refine wp_cutR (Chg [] W2) 4 (by kernel_rfl) (by kernel_rfl) (fun _ h => Chg.nil h) (fun W hW hS => ?_)
    simp only [List.take_succ_cons, List.take_zero, List.drop_succ_cons, List.drop_zero]
    refine takeH 0 (v := ?vv120) rfl (by kernel_rfl) (by kernel_rfl) (by kernel_rfl) (fun _ _ _ h => h) (by kernel_rfl) (fun Wx hSx => ?hy120) (by assumption) ?hrest120
    case hy120 => go_simp; (try with_reducible rfl)
    simp only [Act.put, List.getElem_toArray, List.getElem_cons_zero, List.setIfInBounds_toArray, List.set_cons_zero, List.set_cons_succ]
    refine takeH 2 (v := ?vv123) rfl (by kernel_rfl) (by kernel_rfl) (by kernel_rfl) (fun _ _ _ h => h) (by kernel_rfl) (fun Wx hSx => ?hy123) (by assumption) ?hrest123
    case hy123 => go_simp; (try with_reducible rfl)
    simp only [Act.put, List.getElem_toArray, List.getElem_cons_succ, List.getElem_cons_zero, List.setIfInBounds_toArray, List.set_cons_zero, List.set_cons_succ]
    refine takeH 3 (v := ?vv126) rfl (by kernel_rfl) (by kernel_rfl) (by kernel_rfl) (fun _ _ _ h => h) (by kernel_rfl) (fun Wx hSx => ?hy126) (by assumption) ?hrest126
    case hy126 => have q0 := hSx.cell z0 (by simp); have q1 := hSx.cell z1 (by simp); go_simp; (try with_reducible rfl)
    simp only [Act.put, List.getElem_toArray, List.getElem_cons_succ, List.getElem_cons_zero, List.setIfInBounds_toArray, List.set_cons_zero, List.set_cons_succ]
    have hP2 := h.apart (hC2.trans hW)
    refine wpAnyH_ready (rs := [1]) (by kernel_rfl) (by simp) ?_
    refine (AllReadyH.cons rfl (fun K hK => ?_) AllReadyH.nil)
    all_goals try simp only [List.getElem_toArray, List.getElem_cons_succ, List.getElem_cons_zero]
    go_simp
    refine (of_pb hP2 hO.len hO.qty).mono ?_
    rintro e W3 ⟨c, ss, rfl, hPr, hcv, hC3⟩
    have hCf := (hC2.trans hW).trans hC3
    have hal := allowed31 W3 _ c ss (psO L) _ _ r nl nh hcv (hO.ss hPr) (by have := hO.slen hPr; omega) hle
    have HF := Lib.hid hCf
    clear hCf hP2 hcv hPr hC2
    go_simp
    refine hK.out _ _ (hS.trans hC3) (fun hHeld => ?_)
    clear hK K
    try simp only [Act.put, List.getElem_toArray, List.getElem_cons_succ, List.getElem_cons_zero, List.setIfInBounds_toArray, List.set_cons_zero, List.set_cons_succ]
    refine wpAnyH_done (by kernel_rfl) ?_ _
    simp only [cutQ]
    go_wp2_with fail
    refine hal.mono ?_
    rintro e W4 ⟨v, rfl, hs, hC4, hF⟩
    go_wp2_with fail
    go_ret
    exact ⟨_, rfl, hs, HF.out.trans hC4⟩
end Go.Proofs.YtdcjfaplgpeonaaGreat
