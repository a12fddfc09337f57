/-
  The reference's auction: the price that is chosen.
-/
import Derived.Test.YtdcjfaplgpeonaaGreatQl
namespace Go.Proofs.YtdcjfaplgpeonaaGreat
open Go.RowKit Go.Dm
attribute [local go_sem] Oper.semAt_some

theorem results_p23 {fn : Func} {q : Tmp} (h : fn.results = #[.cell q 23]) (tmps : Array Value) (w : World) (g : Nat) (x : Pr)
    (hp : tmps.getD q undef = .pointer (some ⟨g, 0, none⟩)) (hb : w.heap[g]? = some (.cells #[.int .i64 x.p, .int .i64 x.v, .int .i64 x.o] 23 (0, 0))) :
    (results fn tmps).run Tryz.prog w = .ok (prV x) w := by
  have hp' : tmps[q]?.getD undef = .pointer (some ⟨g, 0, none⟩) := by simpa using hp
  simp [results, h, hp', asAddr, run_loadVar_row w g 23 23 _ (0, 0) _ hb Tryz.underlying23 rfl (by kernel_rfl)]
  rfl
theorem results_c23 {fn : Func} {p u : Tmp} (h : fn.results = #[.cell p 23, .tmp u]) (tmps : Array Value) (w : World) (g : Nat) (x : Pr) (b : Bool)
    (hp : tmps.getD p undef = .pointer (some ⟨g, 0, none⟩)) (hx : tmps.getD u undef = .bool b) (hb : w.heap[g]? = some (.cells #[.int .i64 x.p, .int .i64 x.v, .int .i64 x.o] 23 (0, 0))) :
    (results fn tmps).run Tryz.prog w = .ok (chV (x, b)) w := by
  have hp' : tmps[p]?.getD undef = .pointer (some ⟨g, 0, none⟩) := by simpa using hp
  have hx' : tmps[u]?.getD undef = .bool b := by simpa using hx
  simp [results, h, hp', hx', asAddr, run_loadVar_row w g 23 23 _ (0, 0) _ hb Tryz.underlying23 rfl (by kernel_rfl)]
  rfl

set_option maxRecDepth 100000 in
set_option maxHeartbeats 4000000 in
theorem rof20 (w : World) (r : Nat) (L : List Ord) (h : BkR w r L) (hO : OrdOk L) (q : Int) :
    Calls Tryz.prog 20 #[.pointer (some ⟨r, 0, none⟩), .int .i64 q] w fun e w' => e = .returned (prV (prAt (dO L) (sO L) q)) ∧ Chg [] w w' := by
  have hA1 := Chg.alloc [] w (.cells #[.int .i64 0, .int .i64 0, .int .i64 0] 23)
  have b4 := heap_alloc_new w (.cells #[.int .i64 0, .int .i64 0, .int .i64 0] 23)
  have hat := rat46 _ r L (h.chg hA1 (by simp) (by simp)) q hO.qty hO.len
  have bd := demS_le hO.qty hO.len 0 q
  have bs := supS_le hO.qty hO.len 1 q
  have hfq : prAt (dO L) (sO L) q = ⟨q, min (demO (sdO L 0) q) (supO (sdO L 1) q), max (demO (sdO L 0) q) (supO (sdO L 1) q) - min (demO (sdO L 0) q) (supO (sdO L 1) q)⟩ := rfl
  rw [hfq]
  obtain ⟨dd, hdd⟩ : ∃ dd, demO (sdO L 0) q = dd := ⟨_, rfl⟩
  obtain ⟨sv, hsv⟩ : ∃ sv, supO (sdO L 1) q = sv := ⟨_, rfl⟩
  rw [hdd] at hat bd ⊢
  rw [hsv] at hat bs ⊢
  have hwo : wrap64 (max dd sv - min dd sv) = max dd sv - min dd sv := by unfold wrap64; omega
  have hodd := fun W => rodd41 W q dd sv
  rw [hwo] at hodd
  have hvol := fun W => rvol39 W q dd sv
  obtain ⟨vm, hvm⟩ : ∃ vm, min dd sv = vm := ⟨_, rfl⟩
  rw [hvm] at hodd hvol ⊢
  obtain ⟨vo, hvo⟩ : ∃ vo, max dd sv - vm = vo := ⟨_, rfl⟩
  rw [hvo] at hodd ⊢
  clear hfq hdd hsv hwo hvm hvo bd bs h
  unfold ptV at *
  go_enter Tryz.func20, Tryz.ntmps20
  go_wp2_with fail
  refine hat.mono ?_
  rintro e W1 ⟨rfl, hC1⟩
  have hC2 := hA1.trans hC1
  have b4 := hC1.at_ b4 (by simp)
  have hA2 := Chg.alloc [] W1 (.cells #[.int .i64 q, .int .i64 dd, .int .i64 sv] 75)
  have b5 := heap_alloc_new W1 (.cells #[.int .i64 q, .int .i64 dd, .int .i64 sv] 75)
  obtain ⟨W2, eW2⟩ : ∃ W2, W1.alloc (.cells #[.int .i64 q, .int .i64 dd, .int .i64 sv] 75) = W2 := ⟨_, rfl⟩
  rw [eW2] at hA2 b5
  have b4 := hA2.at_ b4 (by simp)
  have hC3 := hC2.trans hA2
  obtain ⟨x0, x1, x2⟩ := blk3V b5
  clear hat hA1 hC1 hC2 hA2
  go_wp2_with fail
  refine wp_cutR (Chg [] W2) 6 (by kernel_rfl) (by kernel_rfl) (fun _ h => Chg.nil h) (fun W hW hS => ?_)
  simp only [List.take_succ_cons, List.take_zero, List.drop_succ_cons, List.drop_zero]
  refine takeH 0 (v := ?vv64) rfl (by kernel_rfl) (by kernel_rfl) (by kernel_rfl) (fun _ _ _ h => h) (by kernel_rfl) (fun Wx hSx => ?hy64) (by assumption) ?hrest64
  case hy64 => go_simp; (try with_reducible rfl)
  simp only [Act.put, List.getElem_toArray, List.getElem_cons_zero, List.setIfInBounds_toArray, List.set_cons_zero, List.set_cons_succ]
  refine takeH 1 (v := ?vv67) rfl (by kernel_rfl) (by kernel_rfl) (by kernel_rfl) (fun _ _ _ h => h) (by kernel_rfl) (fun Wx hSx => ?hy67) (by assumption) ?hrest67
  case hy67 => have q0 := hSx.cell x0 (by simp); have q1 := hSx.cell x1 (by simp); have q2 := hSx.cell x2 (by simp); go_simp; (try with_reducible rfl)
  simp only [Act.put, List.getElem_toArray, List.getElem_cons_succ, List.getElem_cons_zero, List.setIfInBounds_toArray, List.set_cons_zero, List.set_cons_succ]
  refine takeH 3 (v := ?vv70) rfl (by kernel_rfl) (by kernel_rfl) (by kernel_rfl) (fun _ _ _ h => h) (by kernel_rfl) (fun Wx hSx => ?hy70) (by assumption) ?hrest70
  case hy70 => have q0 := hSx.cell x0 (by simp); have q1 := hSx.cell x1 (by simp); have q2 := hSx.cell x2 (by simp); go_simp; (try with_reducible rfl)
  simp only [Act.put, List.getElem_toArray, List.getElem_cons_succ, List.getElem_cons_zero, List.setIfInBounds_toArray, List.set_cons_zero, List.set_cons_succ]
  refine wpAnyH_ready (rs := [2]) (by kernel_rfl) (by simp) ?_
  refine (AllReadyH.cons rfl (fun K hK => ?_) AllReadyH.nil)
  all_goals try simp only [List.getElem_toArray, List.getElem_cons_succ, List.getElem_cons_zero]
  go_simp
  refine (hvol W).mono ?_
  rintro e W3 ⟨rfl, hC4⟩
  have hC5 := hW.trans hC4
  go_simp
  refine hK.out _ _ (hC5) (fun hHeld => ?_)
  clear hK K
  try simp only [Act.put, List.getElem_toArray, List.getElem_cons_succ, List.getElem_cons_zero, List.setIfInBounds_toArray, List.set_cons_zero, List.set_cons_succ]
  refine wpAnyH_ready (rs := [4]) (by kernel_rfl) (by simp) ?_
  refine (AllReadyH.cons rfl (fun K hK => ?_) AllReadyH.nil)
  all_goals try simp only [List.getElem_toArray, List.getElem_cons_succ, List.getElem_cons_zero]
  go_simp
  refine (hodd W3).mono ?_
  rintro e W4 ⟨rfl, hC6⟩
  have hC7 := hC5.trans hC6
  go_simp
  refine hK.out _ _ (hC7) (fun hHeld => ?_)
  clear hK K
  try simp only [Act.put, List.getElem_toArray, List.getElem_cons_succ, List.getElem_cons_zero, List.setIfInBounds_toArray, List.set_cons_zero, List.set_cons_succ]
  refine takeH 5 (v := ?vv95) rfl (by kernel_rfl) (by kernel_rfl) (by kernel_rfl) (fun _ _ _ h => h) (by kernel_rfl) (fun Wx hSx => ?hy95) (by assumption) ?hrest95
  case hy95 => go_simp; (try with_reducible rfl)
  simp only [Act.put, List.getElem_toArray, List.getElem_cons_succ, List.getElem_cons_zero, List.setIfInBounds_toArray, List.set_cons_zero, List.set_cons_succ]
  have d4 := hC7.at_ b4 (by simp)
  have f4 := blkfreeU d4
  obtain ⟨y0, y1, y2⟩ := blk3V d4
  have hz := blk_set (blk_set (blk_set d4 0 (.int .i64 q)) 1 (.int .i64 vm)) 2 (.int .i64 vo)
  simp only [List.setIfInBounds_toArray, List.set_cons_zero, List.set_cons_succ] at hz
  have hC8 := (((hC3.trans hC7).putNew (g := w.heap.size) (j := 0) (u := .int .i64 q) (by omega)).putNew (g := w.heap.size) (j := 1) (u := .int .i64 vm) (by omega)).putNew (g := w.heap.size) (j := 2) (u := .int .i64 vo) (by omega)
  have HF := Lib.hid (And.intro hz hC8)
  clear hz hC8 d4
  refine wpAnyH_done (by kernel_rfl) ?_ _
  simp only [cutQ]
  clear x0 x1 x2 b4 b5 hC3 hC4 hC5 hC6 hC7 hS hW eW2
  go_wp2_with fail
  refine bodyPost_ret (results_p23 rfl _ _ w.heap.size ⟨q, vm, vo⟩ rfl HF.out.1) rfl ?_
  exact ⟨rfl, HF.out.2⟩

theorem choose_best (L : List Ord) (r lo hi : Int) : chooseL (psO L) (dO L) (sO L) r lo hi = if (pickL r ((allowB L r lo hi).map (prAt (dO L) (sO L)))).v = 0 then (⟨0, 0, 0⟩, false) else (pickL r ((allowB L r lo hi).map (prAt (dO L) (sO L))), true) := by
  unfold chooseL allowB
  split
  · rfl
  · rfl
theorem allowB_in {L : List Ord} {r lo hi q : Int} (hq : q ∈ allowB L r lo hi) : InP q := by
  unfold allowB at hq
  split at hq
  · simp at hq
  · exact allow_in (by omega) (by omega) (by omega) hq
theorem allowB_len (L : List Ord) (r lo hi : Int) : (allowB L r lo hi).length ≤ L.length + 1 := by
  unfold allowB
  split
  · simp
  · have := allow_len (psO L) (max lo 1) (min hi 1099511627776) (nearI r (max lo 1) (min hi 1099511627776))
    unfold psO at this ⊢
    rwa [List.length_map] at this
theorem pick_succ {r : Int} {f : Int → Pr} {al : List Int} {k : Nat} {q : Int} (hq : al[k]? = some q) : pickL r ((al.take (k + 1)).map f) = if k = 0 then f q else pick1 r (pickL r ((al.take k).map f)) (f q) := by
  rw [← take_snocL hq, List.map_append]
  have hk := (List.getElem?_eq_some_iff.1 hq).1
  by_cases h0 : k = 0
  · subst h0; simp [pickL]
  · rw [if_neg h0]
    exact pickL_app r _ _ (fun e => by
      have := congrArg List.length e
      rw [List.length_map, List.length_take, List.length_nil] at this
      omega)
end Go.Proofs.YtdcjfaplgpeonaaGreat

/-
  The reference's choice; has; Same.
-/
namespace Go.Proofs.YtdcjfaplgpeonaaGreat
open Go.RowKit Go.Dm
attribute [local go_sem] Oper.semAt_some

theorem pick_in {r : Int} {f : Int → Pr} {al : List Int} (h : al ≠ []) : ∃ q ∈ al, pickL r (al.map f) = f q := by
  have h1 := pickL_mem r (l := al.map f) (by simpa using h)
  obtain ⟨q, hq, he⟩ := List.mem_map.1 h1
  exact ⟨q, hq, he.symm⟩
def RChRel (w : World) (r : Int) (al : List Int) (f : Int → Pr) (m : Nat) (i : Value) (W : World) : Prop :=
  ∃ (k : Nat) (x : Pr), k ≤ al.length ∧ m = al.length - k + 1 ∧ i = .int .i64 k ∧ x = pickL r ((al.take k).map f) ∧
    W.heap[w.heap.size]? = some (.cells #[.int .i64 x.p, .int .i64 x.v, .int .i64 x.o] 23 (0, 0)) ∧ Chg [w.heap.size] w W

set_option maxRecDepth 100000 in
set_option maxHeartbeats 8000000 in
theorem rchoose14 (w : World) (rb : Nat) (L : List Ord) (h : BkR w rb L) (hO : OrdOk L) (r lo hi : Int) (hr : InP r) :
    Calls Tryz.prog 14 #[.pointer (some ⟨rb, 0, none⟩), .int .i64 r, bdV lo hi] w fun e w' => e = .returned (chV (chooseL (psO L) (dO L) (sO L) r lo hi)) ∧ Chg [] w w' := by
  have hA1 := Chg.alloc [] w (.cells #[.int .i64 lo, .int .i64 hi] 32)
  have b5 := heap_alloc_new w (.cells #[.int .i64 lo, .int .i64 hi] 32)
  have hA2 := Chg.alloc [] (w.alloc (.cells #[.int .i64 lo, .int .i64 hi] 32)) (.cells #[.int .i64 0, .int .i64 0, .int .i64 0] 23)
  have b6 := heap_alloc_new (w.alloc (.cells #[.int .i64 lo, .int .i64 hi] 32)) (.cells #[.int .i64 0, .int .i64 0, .int .i64 0] 23)
  rw [World.size_alloc] at b6
  have b5 := hA2.at_ b5 (by simp)
  have hC0 := hA1.trans hA2
  obtain ⟨W0, eW0⟩ : ∃ W0, (w.alloc (.cells #[.int .i64 lo, .int .i64 hi] 32)).alloc (.cells #[.int .i64 0, .int .i64 0, .int .i64 0] 23) = W0 := ⟨_, rfl⟩
  rw [eW0] at b5 b6 hC0
  obtain ⟨x0, x1⟩ := blk2 b5
  have hal := rallowed19 W0 rb L (h.chg hC0 (by simp) (by simp)) hO.len r lo hi
  rw [choose_best]
  obtain ⟨al, hal2⟩ : ∃ al, allowB L r lo hi = al := ⟨_, rfl⟩
  have hin : ∀ q ∈ al, InP q := fun q hq => allowB_in (hal2 ▸ hq)
  have hln : al.length ≤ 61 := by have := allowB_len L r lo hi; rw [hal2] at this; have := hO.len; omega
  rw [hal2] at hal ⊢
  obtain ⟨res, hres⟩ : ∃ res, (if (pickL r (al.map (prAt (dO L) (sO L)))).v = 0 then ((⟨0, 0, 0⟩ : Pr), false) else (pickL r (al.map (prAt (dO L) (sO L))), true)) = res := ⟨_, rfl⟩
  rw [hres]
  have HR := Lib.hid hres
  have HI := Lib.hid hin
  clear hA1 hA2 hal2 hin hres
  unfold bdV at *
  go_enter Tryz.func14, Tryz.ntmps14
  go_wp2_with fail
  refine hal.mono ?_
  rintro e W1 ⟨va, rfl, hs1, hC1⟩
  have hC2 := hC0.trans hC1
  have d6 := hC1.at_ b6 (by simp)
  have hA3 := Chg.alloc [] W1 (.cells #[.int .i64 0, .int .i64 0, .int .i64 0] 23)
  have b9 := heap_alloc_new W1 (.cells #[.int .i64 0, .int .i64 0, .int .i64 0] 23)
  have hA4 : Chg [W1.heap.size] W1 (W1.alloc (.cells #[.int .i64 0, .int .i64 0, .int .i64 0] 23)) := hA3.nil
  obtain ⟨A, cap, rfl, _, hA0⟩ := hs1.form
  have hw1 : w.heap.size + 1 < W1.heap.size := blk_lt d6
  clear hal x0 x1 eW0 hC0 hC1 b5 b6 hA3
  go_wp2_with fail
  go_loopg [10] (al.length + 1) (fun m i wr => RChRel W1 r al (prAt (dO L) (sO L)) m i wr)
  case atStart => exact ⟨0, ⟨0, 0, 0⟩, Nat.zero_le _, rfl, rfl, rfl, b9, hA4⟩
  case round =>
    clear b9 hA4
    obtain ⟨k, m0, hk, hm, rfl, hmx, h9, hCr⟩ := hrel
    have Hm := Lib.hid (And.intro hm hmx)
    clear hm hmx
    have hCw : Chg [] w wr := hC2.trans' hCr (by simp) (by simp; omega)
    obtain ⟨y0, y1, y2⟩ := prBlk h9
    have f9 := blkfreeU h9
    have s9 := hCr.size
    by_cases hlt : k < al.length
    · obtain ⟨g, rfl⟩ := hA0 (by omega)
      obtain ⟨q, hq⟩ : ∃ q, al[k]? = some q := ⟨al[k], by simp [hlt]⟩
      have hsr := hs1.chg hCr (fun g2 hg2 hm => by have := hs1.lt hg2; simp at hm; omega)
      have e0 := hsr.at_ idR hq (j := 0) (by omega)
      simp only [Nat.mul_one, Nat.add_zero, idE, List.getElem?_cons_zero] at e0
      have hlg := hsr.lt (g := g) rfl
      have k0 : (0 : Int) ≤ (k : Int) := Int.natCast_nonneg _
      have k1 : (k : Int) < (al.length : Int) := by omega
      have hof := rof20 wr rb L (h.chg hCw (by simp) (by simp)) hO q
      have hps := pick_succ (r := r) (f := prAt (dO L) (sO L)) hq
      rw [← Hm.out.2] at hps
      have hqi : InP (prAt (dO L) (sO L) q).p := HI.out q (List.mem_of_getElem? hq)
      obtain ⟨x, hx⟩ : ∃ x, prAt (dO L) (sO L) q = x := ⟨_, rfl⟩
      rw [hx] at hof hps hqi
      have hmi : k ≠ 0 → InP m0.p := fun h0 => by
        obtain ⟨z, hz, he⟩ := pick_in (r := r) (f := prAt (dO L) (sO L)) (al := al.take k) (fun e => by have := congrArg List.length e; rw [List.length_take, List.length_nil] at this; omega)
        rw [Hm.out.2, he]
        exact HI.out z (List.mem_of_mem_take hz)
      have HX := Lib.hid (And.intro hq (And.intro hx hmi))
      clear hq hx hmi
      have hst : ∀ W5, Chg [] wr W5 → W5.heap[W1.heap.size]? = some (.cells #[.int .i64 m0.p, .int .i64 m0.v, .int .i64 m0.o] 23 (0, 0)) := fun W5 h5 => h5.at_ h9 (by simp)
      have hch : ∀ W5, Chg [] wr W5 → Chg [W1.heap.size] W1 W5 := fun W5 h5 => hCr.trans h5.nil
      have HS := Lib.hid (And.intro hst hch)
      clear hst hch
      unfold prV at hof
      go_wp2_with fail
      refine hof.mono ?_
      rintro e W3 ⟨rfl, hC3⟩
      have hA5 := Chg.alloc [] W3 (.cells #[.int .i64 x.p, .int .i64 x.v, .int .i64 x.o] 23)
      have b11 := heap_alloc_new W3 (.cells #[.int .i64 x.p, .int .i64 x.v, .int .i64 x.o] 23)
      obtain ⟨W4, eW4⟩ : ∃ W4, W3.alloc (.cells #[.int .i64 x.p, .int .i64 x.v, .int .i64 x.o] 23) = W4 := ⟨_, rfl⟩
      rw [eW4] at hA5 b11
      have hC5 := hC3.trans hA5
      have s3 := hC3.size
      have h94 := HS.out.1 W4 hC5
      clear hof hsr e0 hlg y0 y1 y2 f9
      obtain ⟨z0, z1, z2⟩ := prBlk b11
      obtain ⟨y0, y1, y2⟩ := prBlk h94
      have put : ∀ W5, Chg [] W4 W5 → (W5.cell? ⟨W3.heap.size, 0, none⟩ = some (.int .i64 x.p) ∧ W5.cell? ⟨W3.heap.size, 1, none⟩ = some (.int .i64 x.v) ∧ W5.cell? ⟨W3.heap.size, 2, none⟩ = some (.int .i64 x.o)) ∧
          (W5.cell? ⟨W1.heap.size, 0, none⟩ = some (.int .i64 m0.p) ∧ W5.cell? ⟨W1.heap.size, 1, none⟩ = some (.int .i64 m0.v) ∧ W5.cell? ⟨W1.heap.size, 2, none⟩ = some (.int .i64 m0.o)) ∧ (∀ j, W5.frozen? ⟨W1.heap.size, j, none⟩ = false) ∧
          (((W5.setCell ⟨W1.heap.size, 0, none⟩ (.int .i64 x.p)).setCell ⟨W1.heap.size, 1, none⟩ (.int .i64 x.v)).setCell ⟨W1.heap.size, 2, none⟩ (.int .i64 x.o)).heap[W1.heap.size]? = some (.cells #[.int .i64 x.p, .int .i64 x.v, .int .i64 x.o] 23 (0, 0)) ∧
          Chg [W1.heap.size] W1 (((W5.setCell ⟨W1.heap.size, 0, none⟩ (.int .i64 x.p)).setCell ⟨W1.heap.size, 1, none⟩ (.int .i64 x.v)).setCell ⟨W1.heap.size, 2, none⟩ (.int .i64 x.o)) := fun W5 h5 => by
        have h95 := HS.out.1 W5 (hC5.trans h5)
        have hz := blk_set (blk_set (blk_set h95 0 (.int .i64 x.p)) 1 (.int .i64 x.v)) 2 (.int .i64 x.o)
        simp only [List.setIfInBounds_toArray, List.set_cons_zero, List.set_cons_succ] at hz
        exact ⟨prBlk (h5.at_ b11 (by simp)), prBlk h95, blkfreeU h95, hz, (HS.out.2 W5 (hC5.trans h5)).put.put.put⟩
      have HP := Lib.hid put
      clear put
      have hne : W3.heap.size ≠ W1.heap.size := by have := blk_lt h9; omega
      by_cases hk0 : k = 0
      · have t : ((k : Int) == 0) = true := by simp; omega
        obtain ⟨_, _, f9, hz, hCz⟩ := HP.out W4 (Chg.refl _ _)
        have hps2 : pickL r ((al.take (k + 1)).map (prAt (dO L) (sO L))) = x := by rw [hps, if_pos hk0]
        have HF := Lib.hid (And.intro hz (And.intro hCz hps2))
        clear hz hCz hps2 hps hk0
        go_wp2_with fail
        go_roundg (al.length - (k + 1) + 1)
        case measure => rw [Hm.out.1]; omega
        case rel => exact ⟨k + 1, x, by omega, rfl, by go_num, HF.out.2.2.symm, HF.out.1, HF.out.2.1⟩
      · have t : ((k : Int) == 0) = false := by simp; omega
        have hle := rless11 W4 x m0 r hqi (HX.out.2.2 hk0) hr
        unfold prV at hle
        by_cases hL : LessP r x m0
        · have hd : decide (LessP r x m0) = true := decide_eq_true hL
          rw [hd] at hle
          have hps2 : pickL r ((al.take (k + 1)).map (prAt (dO L) (sO L))) = x := by rw [hps, if_neg hk0]; unfold pick1; rw [if_pos hL]
          have H2 := Lib.hid hps2
          clear hps2 hps hk0 hL hd
          go_wp2_with fail
          refine hle.mono ?_
          rintro e W5 ⟨rfl, hC6⟩
          obtain ⟨⟨z0', z1', z2'⟩, ⟨y0', y1', y2'⟩, f9, hz, hCz⟩ := HP.out W5 hC6
          have HF := Lib.hid (And.intro hz hCz)
          clear hz hCz hle z0 z1 z2 y0 y1 y2
          go_wp2_with fail
          go_roundg (al.length - (k + 1) + 1)
          case measure => rw [Hm.out.1]; omega
          case rel => exact ⟨k + 1, x, by omega, rfl, by go_num, H2.out.symm, HF.out.1, HF.out.2⟩
        · have hd : decide (LessP r x m0) = false := decide_eq_false hL
          rw [hd] at hle
          have hps2 : pickL r ((al.take (k + 1)).map (prAt (dO L) (sO L))) = m0 := by rw [hps, if_neg hk0]; unfold pick1; rw [if_neg hL]
          have H2 := Lib.hid hps2
          clear hps2 hps hk0 hL hd
          go_wp2_with fail
          refine hle.mono ?_
          rintro e W5 ⟨rfl, hC6⟩
          have hz := HS.out.1 W5 (hC5.trans hC6)
          have hCz := HS.out.2 W5 (hC5.trans hC6)
          have HF := Lib.hid (And.intro hz hCz)
          clear hz hCz hle
          go_wp2_with fail
          go_roundg (al.length - (k + 1) + 1)
          case measure => rw [Hm.out.1]; omega
          case rel => exact ⟨k + 1, m0, by omega, rfl, by go_num, H2.out.symm, HF.out.1, HF.out.2⟩
    · have hkn : k = al.length := by omega
      subst hkn
      have hmm := Hm.out.2
      rw [List.take_length] at hmm
      have HB := Lib.hid hmm
      clear hmm
      have d6 := hCr.at_ d6 (by simp; omega)
      obtain ⟨u0, u1, u2⟩ := prBlk d6
      have f6 := blkfreeU d6
      by_cases hv : m0.v = 0
      · have t : (m0.v == 0) = true := by simpa using hv
        have hz := blk_set (blk_set (blk_set d6 0 (.int .i64 0)) 1 (.int .i64 0)) 2 (.int .i64 0)
        simp only [List.setIfInBounds_toArray, List.set_cons_zero, List.set_cons_succ] at hz
        have hC8 := ((hCw.putNew (g := w.heap.size + 1) (j := 0) (u := .int .i64 0) (by omega)).putNew (g := w.heap.size + 1) (j := 1) (u := .int .i64 0) (by omega)).putNew (g := w.heap.size + 1) (j := 2) (u := .int .i64 0) (by omega)
        have HF := Lib.hid (And.intro hz (And.intro hC8 hv))
        clear hz hC8 hv hCw d6
        go_wp2_with fail
        refine bodyPost_ret (results_c23 rfl _ _ (w.heap.size + 1) ⟨0, 0, 0⟩ false rfl rfl HF.out.1) rfl ?_
        exact ⟨by rw [← HR.out, ← HB.out, if_pos HF.out.2.2], HF.out.2.1⟩
      · have t : (m0.v == 0) = false := by simpa using hv
        have hz := blk_set (blk_set (blk_set d6 0 (.int .i64 m0.p)) 1 (.int .i64 m0.v)) 2 (.int .i64 m0.o)
        simp only [List.setIfInBounds_toArray, List.set_cons_zero, List.set_cons_succ] at hz
        have hC8 := ((hCw.putNew (g := w.heap.size + 1) (j := 0) (u := .int .i64 m0.p) (by omega)).putNew (g := w.heap.size + 1) (j := 1) (u := .int .i64 m0.v) (by omega)).putNew (g := w.heap.size + 1) (j := 2) (u := .int .i64 m0.o) (by omega)
        have HF := Lib.hid (And.intro hz (And.intro hC8 hv))
        have hne : w.heap.size + 1 ≠ W1.heap.size := by omega
        clear hz hC8 hv hCw d6
        go_wp2_with fail
        refine bodyPost_ret (results_c23 rfl _ _ (w.heap.size + 1) m0 true rfl rfl HF.out.1) rfl ?_
        exact ⟨by rw [← HR.out, ← HB.out, if_neg HF.out.2.2], HF.out.2.1⟩

theorem rfree16 (w : World) (rb : Nat) (L : List Ord) (h : BkR w rb L) (hO : OrdOk L) (r : Int) (hr : InP r) :
    Calls Tryz.prog 16 #[.pointer (some ⟨rb, 0, none⟩), .int .i64 r] w fun e w' => e = .returned (chV (chooseL (psO L) (dO L) (sO L) r 1 1099511627776)) ∧ Chg [] w w' := by
  have hA := Chg.alloc [] w (.cells #[.int .i64 0, .int .i64 0, .int .i64 0] 23)
  have b4 := heap_alloc_new w (.cells #[.int .i64 0, .int .i64 0, .int .i64 0] 23)
  have hc := rchoose14 _ rb L (h.chg hA (by simp) (by simp)) hO r 1 1099511627776 hr
  obtain ⟨⟨x, b⟩, hx⟩ : ∃ x, chooseL (psO L) (dO L) (sO L) r 1 1099511627776 = x := ⟨_, rfl⟩
  rw [hx] at hc ⊢
  clear hx
  unfold chV prV bdV at *
  go_enter Tryz.func16, Tryz.ntmps16
  go_wp2_with fail
  refine hc.mono ?_
  rintro e W2 ⟨rfl, hC3⟩
  have e4 := hC3.at_ b4 (by simp)
  have f4 := blkfreeU e4
  obtain ⟨z0, z1, z2⟩ := prBlk e4
  have hC4 := ((((hA.trans hC3).putNew (g := w.heap.size) (j := 0) (u := .int .i64 x.p) (by omega)).putNew (g := w.heap.size) (j := 1) (u := .int .i64 x.v) (by omega)).putNew (g := w.heap.size) (j := 2) (u := .int .i64 x.o) (by omega))
  have hz := blk_set (blk_set (blk_set e4 0 (.int .i64 x.p)) 1 (.int .i64 x.v)) 2 (.int .i64 x.o)
  simp only [List.setIfInBounds_toArray, List.set_cons_zero, List.set_cons_succ] at hz
  have HF := Lib.hid (And.intro hz hC4)
  clear hz hC4 hC3 hc e4
  go_wp2_with fail
  exact bodyPost_ret (results_c23 rfl _ _ w.heap.size x b rfl rfl HF.out.1) rfl ⟨rfl, HF.out.2⟩

set_option maxHeartbeats 1000000 in
theorem has21 (w : World) (r : Nat) (l : List Ord) (h : BkR w r l) (q : Int) (hlen : l.length ≤ 1000) :
    Calls Tryz.prog 21 #[.pointer (some ⟨r, 0, none⟩), .int .i64 q] w fun e w' => e = .returned (.bool (hasP l q)) ∧ w' = w := by
  obtain ⟨v, hb, hs⟩ := h
  obtain ⟨A, c, rfl, _, hA⟩ := hs.form
  obtain ⟨_, _, c2⟩ := blk3 hb
  go_enter Tryz.func21, Tryz.ntmps21
  go_wp2_with fail
  go_loopg [5] (l.length + 1) (fun m i wr => ∃ k : Nat, k ≤ l.length ∧ m = l.length - k + 1 ∧ i = .int .i64 k ∧ (∀ (j : Nat) p, j < k → l[j]? = some p → p 3 ≠ q) ∧ wr = w)
  case atStart => exact ⟨0, Nat.zero_le _, rfl, rfl, fun j p hj => by omega, rfl⟩
  case round =>
    obtain ⟨k, hk, hm, rfl, hno, rfl⟩ := hrel
    have Hm := Lib.hid (And.intro hm hno)
    clear hm hno
    by_cases hlt : k < l.length
    · obtain ⟨g, rfl⟩ := hA (by omega)
      obtain ⟨o, hp⟩ : ∃ p, l[k]? = some p := ⟨l[k], by simp [hlt]⟩
      obtain ⟨_, _, _, e3, _⟩ := ords_at hs hp
      have hg := hs.lt (g := g) rfl
      have k0 : (0 : Int) ≤ (k : Int) := Int.natCast_nonneg _
      have k1 : (k : Int) < (l.length : Int) := by omega
      have HX := Lib.hid hp
      clear hp
      by_cases h1 : o 3 = q
      · have t1 : (o 3 == q) = true := by rw [beq_iff_eq]; exact h1
        have HN := Lib.hid (show hasP l q = true from List.any_eq_true.2 ⟨o, List.mem_of_getElem? HX.out, by simp [h1]⟩)
        clear h1
        go_wp2_with fail
        go_ret
        rw [HN.out]
        exact ⟨rfl, rfl⟩
      · have t1 : (o 3 == q) = false := by rw [beq_eq_false_iff_ne]; exact h1
        have HN := Lib.hid h1
        clear h1
        go_wp2_with fail
        go_roundg (l.length - (k + 1) + 1)
        case measure => rw [Hm.out.1]; omega
        case rel =>
          refine ⟨k + 1, by omega, rfl, by go_num, fun j p hj hpj => ?_, rfl⟩
          by_cases e : j = k
          · subst e; rw [HX.out] at hpj; cases hpj; exact HN.out
          · exact Hm.out.2 j p (by omega) hpj
    · have hkn : k = l.length := by omega
      subst hkn
      have HN := Lib.hid (show hasP l q = false by
        rw [hasP, List.any_eq_false]
        intro o ho
        obtain ⟨j, hj⟩ := List.mem_iff_getElem?.1 ho
        simpa using Hm.out.2 j o (List.getElem?_eq_some_iff.1 hj).1 hj)
      go_wp2_with fail
      go_ret
      rw [HN.out]
      exact ⟨rfl, rfl⟩

set_option maxRecDepth 100000 in
set_option maxHeartbeats 2000000 in
/-- The same prices are the same. -/
theorem same17 (w : World) (v u : Value) (l : List Int) (hv : SlAt 2 1 idE w v l) (hu : SlAt 2 1 idE w u l) (hlen : l.length ≤ 1000) :
    Calls Tryz.prog 17 #[v, u] w fun e w' => e = .returned (.bool true) ∧ Chg [] w w' := by
  obtain ⟨A, c, rfl, _, hA⟩ := hv.form
  obtain ⟨B, d, rfl, _, hB⟩ := hu.form
  go_enter Tryz.func17, Tryz.ntmps17
  go_wp2_with fail
  go_loopg [5] (l.length + 1) (fun m i wr => ∃ k : Nat, k ≤ l.length ∧ m = l.length - k + 1 ∧ i = .int .i64 k ∧ Chg [] w wr)
  case atStart => exact ⟨0, Nat.zero_le _, rfl, rfl, Chg.refl _ _⟩
  case round =>
    obtain ⟨k, hk, hm, rfl, hC⟩ := hrel
    have Hm := Lib.hid hm
    clear hm
    by_cases hlt : k < l.length
    · obtain ⟨g, rfl⟩ := hA (by omega)
      obtain ⟨g2, rfl⟩ := hB (by omega)
      obtain ⟨x, hx⟩ : ∃ x, l[k]? = some x := ⟨l[k], by simp [hlt]⟩
      have e0 := (hv.chg hC (by simp)).at_ idR hx (j := 0) (by omega)
      have e1 := (hu.chg hC (by simp)).at_ idR hx (j := 0) (by omega)
      simp only [Nat.mul_one, Nat.add_zero, idE, List.getElem?_cons_zero] at e0 e1
      have k0 : (0 : Int) ≤ (k : Int) := Int.natCast_nonneg _
      have k1 : (k : Int) < (l.length : Int) := by omega
      have t : (x != x) = false := by simp
      clear hx
      go_wp2_with fail
      refine wp_tail 8 (by kernel_rfl) (by kernel_rfl) ?_
      intro W hW
      have d0 := hW.cell e0 (by simp)
      have d1 := hW.cell e1 (by simp)
      have hC2 := hC.trans hW
      simp only [List.take_succ_cons, List.take_zero, List.drop_succ_cons, List.drop_zero]
      repeat still_step
      refine wpStill_nil ?_
      go_wp2_with fail
      go_roundg (l.length - (k + 1) + 1)
      case measure => rw [Hm.out]; omega
      case rel => exact ⟨k + 1, by omega, rfl, by go_num, hC2⟩
    · go_wp2_with fail
      go_ret
      exact ⟨rfl, hC⟩
end Go.Proofs.YtdcjfaplgpeonaaGreat
