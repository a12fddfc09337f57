/-
  The price that is chosen of a book.
-/
import Derived.Test.YtdcjfaplgpeonaaGreatQi
import Derived.Test.YtdcjfaplgpeonaaGreatQf
namespace Go.Proofs.YtdcjfaplgpeonaaGreat
open Go.RowKit Go.Dm
attribute [local go_sem] Oper.semAt_some

theorem step_append3 {α : Type} {P : Program} {o : Oper} {a : Act} {K : Act → World → Prop} {Q : Exit → Act → World → Prop} (s x : Operand) (t : TypeId)
    {e size bytes : Nat} {renc : α → List Value} (R : REnc size renc) (E : ElemIs P t e size bytes)
    {w : World} {v u : Value} {l l2 : List α} (h : SlAt e size renc w v l) (hs : SrcAt renc w u l2)
    (hlen : l.length + l2.length ≤ 1000000) (hbytes : bytes ≤ 1000)
    (hop : o.op = Op.call { callee := Callee.builtin Builtin.append, args := #[s, x], argTypes := #[t, t] }) (hev : a.eval s = v) (heu : a.eval x = u)
    (hK : ∀ v' w', SlAt e size renc w' v' (l ++ l2) → w.grownBy w' v.ownBlock → (v'.ownBlock = v.ownBlock ∨ v'.ownBlock = some w.heap.size) → K (a.put o.dst v') w') :
    Oper.wp P o a w K Q := by
  obtain ⟨i, z, h1, h2, h3, h4, h5⟩ := E.info
  obtain ⟨v', w', hrun, r1, r2, r3⟩ := run_append_sl t o.type e i z size bytes R E.slice h1 h2 h3 h4 h5 E.pos h hs (maxOk hlen) (Nat.le_trans (Nat.mul_le_mul hlen hbytes) (by omega))
  unfold Oper.wp
  simp [execOp, hop, resolve, invoke, builtin, hev, heu, hrun, Result.andThen]
  exact hK v' w' r1 r2 r3
theorem results_ch {fn : Func} {p u : Tmp} (h : fn.results = #[.cell p 27, .tmp u]) (tmps : Array Value) (w : World) (g : Nat) (x : Pr) (b : Bool)
    (hp : tmps.getD p undef = .pointer (some ⟨g, 0, none⟩)) (hx : tmps.getD u undef = .bool b) (hb : w.heap[g]? = some (.cells #[.int .i64 x.p, .int .i64 x.v, .int .i64 x.o] 27 (0, 0))) :
    (results fn tmps).run Tryz.prog w = .ok (chV (x, b)) w := by
  have hp' : tmps[p]?.getD undef = .pointer (some ⟨g, 0, none⟩) := by simpa using hp
  have hx' : tmps[u]?.getD undef = .bool b := by simpa using hx
  simp [results, h, hp', hx', asAddr, run_loadVar_row w g 27 27 _ (0, 0) _ hb Tryz.underlying27 rfl (by kernel_rfl)]
  rfl
theorem allow_in {ps : List Int} {r lo hi q : Int} (h1 : 1 ≤ lo) (h2 : hi ≤ 1099511627776) (h3 : lo ≤ hi) (hq : q ∈ allowL ps lo hi (nearI r lo hi)) : InP q := by
  rcases ((allowL_is ps lo hi _).all q).1 hq with h | h
  · unfold InP; unfold nearI at h; omega
  · unfold InP; omega
theorem allow_len (ps : List Int) (lo hi n : Int) : (allowL ps lo hi n).length ≤ ps.length + 1 := by
  have hn : (allowL ps lo hi n).Nodup := (allowL_is ps lo hi n).rise.imp (fun h => by omega)
  have := List.Nodup.length_le_of_subset hn (l₂ := n :: ps) (fun q hq => by
    rcases ((allowL_is ps lo hi n).all q).1 hq with h | h
    · simp [h]
    · exact List.mem_cons_of_mem _ h.2.2)
  simpa using this

/-- What stands in memory while the prices are weighed. -/
structure ChSt (w : World) (c Bc : Nat) (pts : List Pt) (r : Int) (al : List Int) (va : Value) (f : Int → Pr) (k : Nat) (W : World) (v : Value) : Prop where
  b4 : W.heap[w.heap.size]? = some (.cells #[.int .i64 r] 2 (0, 0))
  b6 : W.heap[w.heap.size + 1 + 1]? = some (.cells #[.int .i64 0, .int .i64 0, .int .i64 0] 27 (0, 0))
  cv : CvAt W Bc c pts
  as_ : SlAt 2 1 idE W va al
  sl : SlAt 27 3 prE W v ((al.take k).map f)
  fr : Fresh (w.heap.size + 3) v
  sz : w.heap.size + 3 ≤ W.heap.size
  ch : Chg [] w W
def ChRel (w : World) (c Bc : Nat) (pts : List Pt) (r : Int) (al : List Int) (va : Value) (f : Int → Pr) (m : Nat) (v i : Value) (W : World) : Prop :=
  ∃ k : Nat, k ≤ al.length ∧ m = al.length - k + 1 ∧ i = .int .i64 k ∧ ChSt w c Bc pts r al va f k W v

set_option maxRecDepth 100000 in
set_option maxHeartbeats 4000000 in
theorem choose_no (w : World) (p : Option Addr) (r lo hi : Int) (h : p = none ∨ min hi 1099511627776 < max lo 1) : Calls Tryz.prog 13 #[.pointer p, .int .i64 r, bdV lo hi] w fun e w' => e = .returned (chV (⟨0, 0, 0⟩, false)) ∧ Chg [] w w' := by
  have hA1 := Chg.alloc [] w (.cells #[.int .i64 r] 2)
  have hA2 := Chg.alloc [] (w.alloc (.cells #[.int .i64 r] 2)) (.cells #[.int .i64 lo, .int .i64 hi] 32)
  have b5 := heap_alloc_new (w.alloc (.cells #[.int .i64 r] 2)) (.cells #[.int .i64 lo, .int .i64 hi] 32)
  have hA3 := Chg.alloc [] ((w.alloc (.cells #[.int .i64 r] 2)).alloc (.cells #[.int .i64 lo, .int .i64 hi] 32)) (.cells #[.int .i64 0, .int .i64 0, .int .i64 0] 27)
  have b6 := heap_alloc_new ((w.alloc (.cells #[.int .i64 r] 2)).alloc (.cells #[.int .i64 lo, .int .i64 hi] 32)) (.cells #[.int .i64 0, .int .i64 0, .int .i64 0] 27)
  simp only [World.size_alloc] at b5 b6
  have b5 := hA3.at_ b5 (by simp)
  have hC0 := (hA1.trans hA2).trans hA3
  obtain ⟨nl, hnl⟩ : ∃ nl, max lo 1 = nl := ⟨_, rfl⟩
  obtain ⟨nh, hnh⟩ : ∃ nh, min hi 1099511627776 = nh := ⟨_, rfl⟩
  have hc := cut28 (((w.alloc (.cells #[.int .i64 r] 2)).alloc (.cells #[.int .i64 lo, .int .i64 hi] 32)).alloc (.cells #[.int .i64 0, .int .i64 0, .int .i64 0] 27)) lo hi
  rw [hnl, hnh] at hc h
  clear hnl hnh hA1 hA2 hA3
  obtain ⟨bb, hbb⟩ : ∃ bb, decide (nl ≤ nh) = bb := ⟨_, rfl⟩
  rw [hbb] at hc
  have key : p = none ∨ bb = false := h.imp id (fun h => by rw [← hbb]; exact decide_eq_false (by omega))
  clear hbb h
  unfold bdV at *
  have fin : ∀ W1 : World, Chg [] (((w.alloc (.cells #[.int .i64 r] 2)).alloc (.cells #[.int .i64 lo, .int .i64 hi] 32)).alloc (.cells #[.int .i64 0, .int .i64 0, .int .i64 0] 27)) W1 →
      ∃ cs : Unit, W1.heap[w.heap.size + 1]? = some (.cells #[.int .i64 lo, .int .i64 hi] 32 (0, 0)) ∧ W1.heap[w.heap.size + 1 + 1]? = some (.cells #[.int .i64 0, .int .i64 0, .int .i64 0] 27 (0, 0)) ∧ Chg [] w W1 := fun W1 hC => ⟨(), hC.at_ b5 (by simp), hC.at_ b6 (by simp), hC0.trans hC⟩
  clear b5 b6 hC0
  rcases key with rfl | rfl
  · go_enter Tryz.func13, Tryz.ntmps13
    go_wp2_with fail
    refine hc.mono ?_
    rintro e W1 ⟨rfl, hC1⟩
    obtain ⟨_, d5, d6, hC2⟩ := fin W1 hC1
    clear fin hc hC1
    have f5 := blkfreeU d5
    obtain ⟨z0, z1⟩ := blk2 d5
    have hS := (Chg.setCell (S := [w.heap.size + 1]) W1 ⟨w.heap.size + 1, 0, none⟩ (.int .i64 nl) (by simp)).putIn (g := w.heap.size + 1) (j := 1) (u := .int .i64 nh) (by simp)
    have hC3 := (hC2.putNew (g := w.heap.size + 1) (j := 0) (u := .int .i64 nl) (by omega)).putNew (g := w.heap.size + 1) (j := 1) (u := .int .i64 nh) (by omega)
    have e6 := hS.at_ d6 (by simp)
    obtain ⟨W2, eW2⟩ : ∃ W2, (W1.setCell ⟨w.heap.size + 1, 0, none⟩ (.int .i64 nl)).setCell ⟨w.heap.size + 1, 1, none⟩ (.int .i64 nh) = W2 := ⟨_, rfl⟩
    rw [eW2] at hC3 e6
    obtain ⟨y0, y1, y2⟩ := prBlk e6
    have f6 := blkfreeU e6
    have hz := blk_set (blk_set (blk_set e6 0 (.int .i64 0)) 1 (.int .i64 0)) 2 (.int .i64 0)
    simp only [List.setIfInBounds_toArray, List.set_cons_zero, List.set_cons_succ] at hz
    have hC8 := ((hC3.putNew (g := w.heap.size + 1 + 1) (j := 0) (u := .int .i64 0) (by omega)).putNew (g := w.heap.size + 1 + 1) (j := 1) (u := .int .i64 0) (by omega)).putNew (g := w.heap.size + 1 + 1) (j := 2) (u := .int .i64 0) (by omega)
    have HF := Lib.hid (And.intro hz hC8)
    clear hz hC8 hC3 hC2 hS d5 d6 e6
    go_wp2_with fail
    refine bodyPost_ret (results_ch rfl _ _ (w.heap.size + 1 + 1) ⟨0, 0, 0⟩ false rfl rfl HF.out.1) rfl ?_
    exact ⟨rfl, HF.out.2⟩
  · go_enter Tryz.func13, Tryz.ntmps13
    go_wp2_with fail
    refine hc.mono ?_
    rintro e W1 ⟨rfl, hC1⟩
    obtain ⟨_, d5, d6, hC2⟩ := fin W1 hC1
    clear fin hc hC1
    have f5 := blkfreeU d5
    obtain ⟨z0, z1⟩ := blk2 d5
    have hS := (Chg.setCell (S := [w.heap.size + 1]) W1 ⟨w.heap.size + 1, 0, none⟩ (.int .i64 nl) (by simp)).putIn (g := w.heap.size + 1) (j := 1) (u := .int .i64 nh) (by simp)
    have hC3 := (hC2.putNew (g := w.heap.size + 1) (j := 0) (u := .int .i64 nl) (by omega)).putNew (g := w.heap.size + 1) (j := 1) (u := .int .i64 nh) (by omega)
    have e6 := hS.at_ d6 (by simp)
    obtain ⟨W2, eW2⟩ : ∃ W2, (W1.setCell ⟨w.heap.size + 1, 0, none⟩ (.int .i64 nl)).setCell ⟨w.heap.size + 1, 1, none⟩ (.int .i64 nh) = W2 := ⟨_, rfl⟩
    rw [eW2] at hC3 e6
    obtain ⟨y0, y1, y2⟩ := prBlk e6
    have f6 := blkfreeU e6
    have hz := blk_set (blk_set (blk_set e6 0 (.int .i64 0)) 1 (.int .i64 0)) 2 (.int .i64 0)
    simp only [List.setIfInBounds_toArray, List.set_cons_zero, List.set_cons_succ] at hz
    have hC8 := ((hC3.putNew (g := w.heap.size + 1 + 1) (j := 0) (u := .int .i64 0) (by omega)).putNew (g := w.heap.size + 1 + 1) (j := 1) (u := .int .i64 0) (by omega)).putNew (g := w.heap.size + 1 + 1) (j := 2) (u := .int .i64 0) (by omega)
    have HF := Lib.hid (And.intro hz hC8)
    clear hz hC8 hC3 hC2 hS d5 d6 e6
    cases p with
    | none =>
      go_wp2_with fail
      refine bodyPost_ret (results_ch rfl _ _ (w.heap.size + 1 + 1) ⟨0, 0, 0⟩ false rfl rfl HF.out.1) rfl ?_
      exact ⟨rfl, HF.out.2⟩
    | some ad =>
      go_wp2_with fail
      refine bodyPost_ret (results_ch rfl _ _ (w.heap.size + 1 + 1) ⟨0, 0, 0⟩ false rfl rfl HF.out.1) rfl ?_
      exact ⟨rfl, HF.out.2⟩

set_option maxRecDepth 100000 in
set_option maxHeartbeats 8000000 in
theorem choose13 (w : World) {D : Nat} {B : Bkb} {L : List Ord} {lv0 lv1 : List Lvl} {v0 v1 : Value} (h : PB w D B L lv0 lv1 v0 v1) (hO : OrdOk L) (r lo hi : Int) (hr : InP r) :
    Calls Tryz.prog 13 #[.pointer (some ⟨B.b, 0, none⟩), .int .i64 r, bdV lo hi] w fun e w' => e = .returned (chV (chooseL (psO L) (dO L) (sO L) r lo hi)) ∧ Chg [] w w' := by
  unfold chooseL
  by_cases hlt : min hi 1099511627776 < max lo 1
  · rw [if_pos hlt]; exact choose_no w _ r lo hi (.inr hlt)
  rw [if_neg hlt]
  have hA1 := Chg.alloc [] w (.cells #[.int .i64 r] 2)
  have b4 := heap_alloc_new w (.cells #[.int .i64 r] 2)
  have hA2 := Chg.alloc [] (w.alloc (.cells #[.int .i64 r] 2)) (.cells #[.int .i64 lo, .int .i64 hi] 32)
  have b5 := heap_alloc_new (w.alloc (.cells #[.int .i64 r] 2)) (.cells #[.int .i64 lo, .int .i64 hi] 32)
  have hA3 := Chg.alloc [] ((w.alloc (.cells #[.int .i64 r] 2)).alloc (.cells #[.int .i64 lo, .int .i64 hi] 32)) (.cells #[.int .i64 0, .int .i64 0, .int .i64 0] 27)
  have b6 := heap_alloc_new ((w.alloc (.cells #[.int .i64 r] 2)).alloc (.cells #[.int .i64 lo, .int .i64 hi] 32)) (.cells #[.int .i64 0, .int .i64 0, .int .i64 0] 27)
  simp only [World.size_alloc] at b5 b6
  have b4 := hA3.at_ (hA2.at_ b4 (by simp)) (by simp)
  have b5 := hA3.at_ b5 (by simp)
  have hC0 := (hA1.trans hA2).trans hA3
  obtain ⟨nl, hnl⟩ : ∃ nl, max lo 1 = nl := ⟨_, rfl⟩
  obtain ⟨nh, hnh⟩ : ∃ nh, min hi 1099511627776 = nh := ⟨_, rfl⟩
  have hl1 : 1 ≤ nl := by omega
  have hh1 : nh ≤ 1099511627776 := by omega
  have hc := cut28 (((w.alloc (.cells #[.int .i64 r] 2)).alloc (.cells #[.int .i64 lo, .int .i64 hi] 32)).alloc (.cells #[.int .i64 0, .int .i64 0, .int .i64 0] 27)) lo hi
  rw [hnl, hnh] at hc hlt ⊢
  clear hnl hnh hA1 hA2 hA3
  have t1 : decide (nl ≤ nh) = true := decide_eq_true (by omega)
  rw [t1] at hc
  have hle : nl ≤ nh := by omega
  clear hlt t1
  unfold bdV at *
  go_enter Tryz.func13, Tryz.ntmps13
  go_wp2_with fail
  refine hc.mono ?_
  rintro e W1 ⟨rfl, hC1⟩
  have d4 := hC1.at_ b4 (by simp)
  have d5 := hC1.at_ b5 (by simp)
  have d6 := hC1.at_ b6 (by simp)
  have f5 := blkfreeU d5
  obtain ⟨z0, z1⟩ := blk2 d5
  have hC2 := ((hC0.trans hC1).putNew (g := w.heap.size + 1) (j := 0) (u := .int .i64 nl) (by omega)).putNew (g := w.heap.size + 1) (j := 1) (u := .int .i64 nh) (by omega)
  have hS := (Chg.setCell (S := [w.heap.size + 1]) W1 ⟨w.heap.size + 1, 0, none⟩ (.int .i64 nl) (by simp)).putIn (g := w.heap.size + 1) (j := 1) (u := .int .i64 nh) (by simp)
  have e5 := blk_set (blk_set d5 0 (.int .i64 nl)) 1 (.int .i64 nh)
  simp only [List.setIfInBounds_toArray, List.set_cons_zero, List.set_cons_succ] at e5
  have e4 := hS.at_ d4 (by simp)
  have e6 := hS.at_ d6 (by simp)
  obtain ⟨W2, eW2⟩ : ∃ W2, (W1.setCell ⟨w.heap.size + 1, 0, none⟩ (.int .i64 nl)).setCell ⟨w.heap.size + 1, 1, none⟩ (.int .i64 nh) = W2 := ⟨_, rfl⟩
  rw [eW2] at hC2 e4 e5 e6
  clear hc hC0 hC1 b4 b5 b6 d4 d5 d6 hS
  have hP2 := h.apart hC2
  go_wp2_with fail
  clear z0 z1 f5 eW2
  refine (of_pb hP2 hO.len hO.qty).mono ?_
  rintro e W3 ⟨c, ss, rfl, hPr, hcv, hC3⟩
  have hCf := hC2.trans hC3
  have e4 := hC3.at_ e4 (by simp)
  have e5 := hC3.at_ e5 (by simp)
  have e6 := hC3.at_ e6 (by simp)
  have hal := allowed31 W3 _ c ss (psO L) _ _ r nl nh hcv (hO.ss hPr) (by have := hO.slen hPr; omega) hle
  obtain ⟨al, hal2⟩ : ∃ al, allowL (psO L) nl nh (nearI r nl nh) = al := ⟨_, rfl⟩
  have hat := fun W (hW : CvAt W W2.heap.size c (ptsC ss (sdO L 0) (sdO L 1))) q => cv_at hPr hW (hO.s60 0) (hO.s60 1) q
  have hin : ∀ q ∈ al, InP q := fun q hq => by rw [← hal2] at hq; exact allow_in hl1 hh1 hle hq
  have hlen : al.length ≤ 61 := by
    have := allow_len (psO L) nl nh (nearI r nl nh)
    rw [hal2] at this
    have h2 : (psO L).length ≤ 60 := by unfold psO; rw [List.length_map]; exact hO.len
    omega
  have hne : 0 < al.length := by
    have := (allowL_is (psO L) nl nh (nearI r nl nh)).ne
    rw [hal2] at this
    exact List.length_pos_iff.2 this
  rw [hal2] at hal
  have HL := Lib.hid (And.intro hal2 (And.intro hin (And.intro hlen (And.intro hne hPr))))
  clear hal2 hin hPr hC2 hP2 h
  obtain ⟨y0, y1⟩ := blk2 e5
  have y4 := blk1 e4
  go_wp2_with fail
  refine hal.mono ?_
  rintro e W4 ⟨va, rfl, hs4, hC4, hF4⟩
  have hC40 := hCf.trans hC4
  have g4 := hC4.at_ e4 (by simp)
  have g6 := hC4.at_ e6 (by simp)
  have hcv4 := hcv.chg hC4 (by simp)
  obtain ⟨A, cap, rfl, _, hA0⟩ := hs4.form
  obtain ⟨g, rfl⟩ := hA0 hne
  clear hal hC4 e4 e5 e6 hcv y0 y1 y4 hCf hC3
  go_wp2_with fail
  go_loopg [11, 37] (al.length + 1) (fun m v i wr => ChRel w c W2.heap.size (ptsC ss (sdO L 0) (sdO L 1)) r al (.slice (some ⟨g, 0, none⟩) al.length cap) (prAt (dO L) (sO L)) m v i wr)
  case atStart => exact ⟨0, Nat.zero_le _, rfl, rfl, ⟨g4, g6, hcv4, hs4, SlAt.nil _ _ _ _, Fresh.none, by have := blk_lt g6; omega, hC40⟩⟩
  case round =>
    clear g4 g6 hcv4 hs4 hC40 hF4
    obtain ⟨k, hk, hm, rfl, hst⟩ := hrel
    have Hm := Lib.hid hm
    clear hm
    obtain ⟨A1, cap1, hv1, _, hA1⟩ := hst.sl.form
    obtain ⟨n1, hn1⟩ : ∃ n1, ((al.take k).map (prAt (dO L) (sO L))).length = n1 := ⟨_, rfl⟩
    rw [hn1] at hv1 hA1
    subst hv1
    by_cases hlt : k < al.length
    · obtain ⟨q, hq⟩ : ∃ q, al[k]? = some q := ⟨al[k], by simp [hlt]⟩
      have e0 := hst.as_.at_ idR hq (j := 0) (by omega)
      simp only [Nat.mul_one, Nat.add_zero, idE, List.getElem?_cons_zero] at e0
      have hgl := hst.as_.lt (g := g) rfl
      have k0 : (0 : Int) ≤ (k : Int) := Int.natCast_nonneg _
      have k1 : (k : Int) < (al.length : Int) := by omega
      have hc1 := hat wr hst.cv q
      obtain ⟨bd0, bd1⟩ := demS_le hO.qty hO.len 0 q
      obtain ⟨bs0, bs1⟩ := supS_le hO.qty hO.len 1 q
      have hT : (al.take (k + 1)).map (prAt (dO L) (sO L)) = (al.take k).map (prAt (dO L) (sO L)) ++ [prAt (dO L) (sO L) q] := by rw [← take_snocL hq, List.map_append]; rfl
      have hfq : prAt (dO L) (sO L) q = ⟨q, min (demO (sdO L 0) q) (supO (sdO L 1) q), max (demO (sdO L 0) q) (supO (sdO L 1) q) - min (demO (sdO L 0) q) (supO (sdO L 1) q)⟩ := rfl
      rw [hfq] at hT
      obtain ⟨dd, hdd⟩ : ∃ dd, demO (sdO L 0) q = dd := ⟨_, rfl⟩
      obtain ⟨sv, hsv⟩ : ∃ sv, supO (sdO L 1) q = sv := ⟨_, rfl⟩
      rw [hdd] at hc1 bd0 bd1 hT
      rw [hsv] at hc1 bs0 bs1 hT
      have hwo : wrap64 (max dd sv - min dd sv) = max dd sv - min dd sv := by unfold wrap64; omega
      have hodd := fun W => odd40 W q dd sv
      rw [hwo] at hodd
      have hvol := fun W => vol37 W q dd sv
      obtain ⟨vm, hvm⟩ : ∃ vm, min dd sv = vm := ⟨_, rfl⟩
      obtain ⟨vo, hvo⟩ : ∃ vo, max dd sv - min dd sv = vo := ⟨_, rfl⟩
      rw [hvo] at hodd hT
      rw [hvm] at hvol hT
      have HT := Lib.hid hT
      have HST := Lib.hid hst
      clear hT hfq hdd hsv hwo hvm hvo bd0 bd1 bs0 bs1 hq
      unfold ptV at hc1 hodd hvol
      clear hst
      go_wp2_with fail
      refine hc1.mono ?_
      rintro e W5 ⟨rfl, hC5⟩
      have hA6 := Chg.alloc [] W5 (.cells #[.int .i64 q, .int .i64 dd, .int .i64 sv] 69)
      have b6 := heap_alloc_new W5 (.cells #[.int .i64 q, .int .i64 dd, .int .i64 sv] 69)
      clear hc1 e0
      go_wp2_with fail
      obtain ⟨W6, eW6⟩ : ∃ W6, W5.alloc (.cells #[.int .i64 q, .int .i64 dd, .int .i64 sv] 69) = W6 := ⟨_, rfl⟩
      rw [eW6] at hA6 b6 ⊢
      have hC6 := hC5.trans hA6
      clear eW6 hA6
      obtain ⟨x0, x1, x2⟩ := blk3V b6
      have nb : W5.heap.size ∉ ownL (.slice A1 n1 cap1) := fun hm => by
        simp only [ownL, Option.mem_toList] at hm
        have := HST.out.sl.lt hm
        have := hC5.size
        omega
      refine wp_cutR (Chg (ownL (.slice A1 n1 cap1)) W6) 9 (by kernel_rfl) (by kernel_rfl) (fun _ h => Chg.nil h) (fun W hW hS => ?_)
      simp only [List.take_succ_cons, List.take_zero, List.drop_succ_cons, List.drop_zero]
      refine takeH 0 (v := ?vv277) rfl (by kernel_rfl) (by kernel_rfl) (by kernel_rfl) (fun _ _ _ h => h) (by kernel_rfl) (fun Wx hSx => ?hy277) (by assumption) ?hrest277
      case hy277 => go_simp; (try with_reducible rfl)
      simp only [Act.put, List.getElem_toArray, List.getElem_cons_zero, List.setIfInBounds_toArray, List.set_cons_zero, List.set_cons_succ]
      refine takeH 1 (v := ?vv280) rfl (by kernel_rfl) (by kernel_rfl) (by kernel_rfl) (fun _ _ _ h => h) (by kernel_rfl) (fun Wx hSx => ?hy280) (by assumption) ?hrest280
      case hy280 => go_simp; (try with_reducible rfl)
      simp only [Act.put, List.getElem_toArray, List.getElem_cons_succ, List.getElem_cons_zero, List.setIfInBounds_toArray, List.set_cons_zero, List.set_cons_succ]
      refine takeH 2 (v := ?vv283) rfl (by kernel_rfl) (by kernel_rfl) (by kernel_rfl) (fun _ _ _ h => h) (by kernel_rfl) (fun Wx hSx => ?hy283) (by assumption) ?hrest283
      case hy283 => have q0 := hSx.cell x0 nb; have q1 := hSx.cell x1 nb; have q2 := hSx.cell x2 nb; go_simp; (try with_reducible rfl)
      simp only [Act.put, List.getElem_toArray, List.getElem_cons_succ, List.getElem_cons_zero, List.setIfInBounds_toArray, List.set_cons_zero, List.set_cons_succ]
      refine takeH 4 (v := ?vv286) rfl (by kernel_rfl) (by kernel_rfl) (by kernel_rfl) (fun _ _ _ h => h) (by kernel_rfl) (fun Wx hSx => ?hy286) (by assumption) ?hrest286
      case hy286 => have q0 := hSx.cell x0 nb; have q1 := hSx.cell x1 nb; have q2 := hSx.cell x2 nb; go_simp; (try with_reducible rfl)
      simp only [Act.put, List.getElem_toArray, List.getElem_cons_succ, List.getElem_cons_zero, List.setIfInBounds_toArray, List.set_cons_zero, List.set_cons_succ]
      refine wpAnyH_ready (rs := [3]) (by kernel_rfl) (by simp) ?_
      refine (AllReadyH.cons rfl (fun K hK => ?_) AllReadyH.nil)
      all_goals try simp only [List.getElem_toArray, List.getElem_cons_succ, List.getElem_cons_zero]
      go_simp
      refine (hvol W).mono ?_
      rintro e W7 ⟨rfl, hC7⟩
      have hC7 := hW.trans hC7
      go_simp
      refine hK.out _ _ (hC7.nil) (fun hHeld => ?_)
      clear hK K
      try simp only [Act.put, List.getElem_toArray, List.getElem_cons_succ, List.getElem_cons_zero, List.setIfInBounds_toArray, List.set_cons_zero, List.set_cons_succ]
      refine wpAnyH_ready (rs := [5]) (by kernel_rfl) (by simp) ?_
      refine (AllReadyH.cons rfl (fun K hK => ?_) AllReadyH.nil)
      all_goals try simp only [List.getElem_toArray, List.getElem_cons_succ, List.getElem_cons_zero]
      go_simp
      refine (hodd W7).mono ?_
      rintro e W8 ⟨rfl, hC8⟩
      have hC8 := hC7.trans hC8
      go_simp
      clear hHeld
      refine hK.out _ _ (hC8.nil) (fun hHeld => ?_)
      clear hK K
      try simp only [Act.put, List.getElem_toArray, List.getElem_cons_succ, List.getElem_cons_zero, List.setIfInBounds_toArray, List.set_cons_zero, List.set_cons_succ]
      refine takeH 6 (v := ?vv312) rfl (by kernel_rfl) (by kernel_rfl) (by kernel_rfl) (fun _ _ _ h => h) (by kernel_rfl) (fun Wx hSx => ?hy312) (by assumption) ?hrest312
      case hy312 => go_simp; (try with_reducible rfl)
      simp only [Act.put, List.getElem_toArray, List.getElem_cons_succ, List.getElem_cons_zero, List.setIfInBounds_toArray, List.set_cons_zero, List.set_cons_succ]
      have bn := heap_alloc_new W8 (.cells #[.int .i64 q, .int .i64 vm, .int .i64 vo] 27)
      have hAn := Chg.alloc [] W8 (.cells #[.int .i64 q, .int .i64 vm, .int .i64 vo] 27)
      have HN := Lib.hid (And.intro bn hAn)
      clear bn hAn
      refine wpAnyH_ready (rs := [7]) (by kernel_rfl) (by simp) ?_
      refine (AllReadyH.cons rfl (fun K hK => ?_) AllReadyH.nil)
      all_goals try simp only [List.getElem_toArray, List.getElem_cons_succ, List.getElem_cons_zero]
      go_simp
      refine hK.out _ _ ((hC8.trans HN.out.2).nil) (fun hHeld => ?_)
      clear hK K
      try simp only [Act.put, List.getElem_toArray, List.getElem_cons_succ, List.getElem_cons_zero, List.setIfInBounds_toArray, List.set_cons_zero, List.set_cons_succ]
      have hC9 := hC8.trans HN.out.2
      have bn := HN.out.1
      obtain ⟨W9, eW9⟩ : ∃ W9, W8.alloc (.cells #[.int .i64 q, .int .i64 vm, .int .i64 vo] 27) = W9 := ⟨_, rfl⟩
      rw [eW9] at hC9 bn ⊢
      clear eW9 HN hHeld
      have hCa := hC6.trans hC9
      have hls : ((al.take k).map (prAt (dO L) (sO L))).length + [(⟨q, vm, vo⟩ : Pr)].length ≤ 1000000 := by rw [hn1]; have := HL.out.2.2.1; have h9 := hn1; rw [List.length_map, List.length_take] at h9; simp; omega
      refine wpAnyH_ready (rs := [8]) (by kernel_rfl) (by simp) ?_
      refine (AllReadyH.cons rfl (fun K hK => ?_) AllReadyH.nil)
      all_goals try simp only [List.getElem_toArray, List.getElem_cons_succ, List.getElem_cons_zero]
      rw [if_pos (by rfl)]
      refine step_append3 (o := _) (a := _) (v := .slice A1 n1 cap1) (u := .slice (some ⟨W8.heap.size, 0, none⟩) 1 1) (l := (al.take k).map (prAt (dO L) (sO L))) (l2 := [(⟨q, vm, vo⟩ : Pr)]) (.tmp 44) (.tmp 51) 66 prR elem66 ?hS ?hs hls (by omega) ?hop ?hev ?heu ?_
      case hS => exact HST.out.sl.chg hCa (by simp)
      case hs => exact SrcAt.one (renc := prE) (a := ⟨q, vm, vo⟩) (t := 27) (fr := (0, 0)) bn 1
      case hop => rfl
      case hev => rfl
      case heu => rfl
      intro v2 W10 hs2 hg2 ho2
      have hCb : Chg (ownL (.slice A1 n1 cap1)) wr W10 := hCa.nil.trans (Chg.of_grown hg2 (fun k e => .inl (by simp [ownL, e])))
      have hCc : Chg (ownL (.slice A1 n1 cap1)) W6 W10 := hC9.nil.trans (Chg.of_grown hg2 (fun k e => .inl (by simp [ownL, e])))
      refine hK.out _ _ (hCc) (fun hHeld => ?_)
      clear hK K
      try simp only [Act.put, List.setIfInBounds_toArray, List.set_cons_zero, List.set_cons_succ]
      refine wpAnyH_done (by kernel_rfl) ?_ _
      simp only [cutQ]
      have hst := HST.out
      have low : ∀ {p : Nat}, p < w.heap.size + 3 → p ∉ ownL (.slice A1 n1 cap1) := fun hp hm => by
        simp only [ownL, Option.mem_toList] at hm
        have := hst.fr _ hm
        omega
      have typ : ∀ {p : Nat} {cs : Array Value} {t : TypeId}, wr.heap[p]? = some (.cells cs t (0, 0)) → t ≠ 27 → p ∉ ownL (.slice A1 n1 cap1) := fun hb ht hm => by
        simp only [ownL, Option.mem_toList] at hm
        exact hst.sl.ne hb ht hm
      have hcv2 : CvAt W10 W2.heap.size c (ptsC ss (sdO L 0) (sdO L 1)) := by
        obtain ⟨vc, hb, hs, hf, hB⟩ := hst.cv
        exact ⟨vc, hCb.at_ hb (typ hb (by decide)), hs.chg hCb (fun g hg => by obtain ⟨cur, hcur⟩ := hs.typed hg; exact typ hcur (by decide)), hf, hB⟩
      have has2 : SlAt 2 1 idE W10 (.slice (some ⟨g, 0, none⟩) al.length cap) al := hst.as_.chg hCb (fun g hg => by obtain ⟨cur, hcur⟩ := hst.as_.typed hg; exact typ hcur (by decide))
      rw [← HT.out] at hs2
      have hF3 : Fresh (w.heap.size + 3) v2 := hst.fr.next (Nat.le_trans hst.sz hCa.size) ho2
      have hC2 : Chg [] w W10 := hst.ch.trans' hCb (by simp) (fun k hk => .inr (by
        simp only [ownL, Option.mem_toList] at hk
        have := hst.fr _ hk
        omega))
      have hst2 : ChSt w c W2.heap.size (ptsC ss (sdO L 0) (sdO L 1)) r al (.slice (some ⟨g, 0, none⟩) al.length cap) (prAt (dO L) (sO L)) (k + 1) W10 v2 :=
        ⟨hCb.at_ hst.b4 (low (by omega)), hCb.at_ hst.b6 (low (by omega)), hcv2, has2, hs2, hF3, Nat.le_trans hst.sz hCb.size, hC2⟩
      have HH := Lib.hid hst2
      clear hst2 hF3 has2 hcv2 hst hs2 hC2 hg2 ho2 hCb hCc hCa bn hC9 low typ
      go_wp2_with fail
      go_roundg (al.length - (k + 1) + 1)
      case measure => rw [Hm.out]; omega
      case rel => exact ⟨k + 1, by omega, rfl, by go_num, HH.out⟩
    · have hkn : k = al.length := by omega
      subst hkn
      have hsl := hst.sl
      rw [List.take_length] at hsl hn1
      rw [List.length_map] at hn1
      subst hn1
      obtain ⟨g2, rfl⟩ := hA1 hne
      have hsl2 : SlAt 27 3 prE wr (.slice (some ⟨g2, 0, none⟩) (al.map (prAt (dO L) (sO L))).length cap1) (al.map (prAt (dO L) (sO L))) := by rw [List.length_map]; exact hsl
      have hmin := min34 wr g2 cap1 w.heap.size r _ hsl2 (by rw [List.length_map]; exact hne) hst.b4 (fun x hx => by
        obtain ⟨q, hq, rfl⟩ := List.mem_map.1 hx
        exact HL.out.2.1 q hq) hr (by rw [List.length_map]; omega)
      rw [List.length_map] at hmin
      have hbest : pickL r (al.map (prAt (dO L) (sO L))) = bestL (psO L) (dO L) (sO L) r nl nh := by unfold bestL; rw [HL.out.1]
      rw [hbest] at hmin
      obtain ⟨bx, hbx⟩ : ∃ bx, bestL (psO L) (dO L) (sO L) r nl nh = bx := ⟨_, rfl⟩
      rw [hbx] at hmin
      have HB := Lib.hid hbx
      have HST := Lib.hid hst
      clear hbest hbx hsl hsl2 hst
      unfold prV at hmin
      go_wp2_with fail
      refine hmin.mono ?_
      rintro e W5 ⟨rfl, hC5⟩
      have d6 := hC5.at_ HST.out.b6 (by simp)
      have hC6 := HST.out.ch.trans hC5
      have hAx := Chg.alloc [] W5 (.cells #[.int .i64 bx.p, .int .i64 bx.v, .int .i64 bx.o] 27)
      have b7 := heap_alloc_new W5 (.cells #[.int .i64 bx.p, .int .i64 bx.v, .int .i64 bx.o] 27)
      obtain ⟨W6, eW6⟩ : ∃ W6, W5.alloc (.cells #[.int .i64 bx.p, .int .i64 bx.v, .int .i64 bx.o] 27) = W6 := ⟨_, rfl⟩
      rw [eW6] at hAx b7
      have e6 := hAx.at_ d6 (by simp)
      have hC7 := hC6.trans hAx
      obtain ⟨x0, x1, x2⟩ := prBlk b7
      obtain ⟨y0, y1, y2⟩ := prBlk e6
      have f6 := blkfreeU e6
      clear hmin hC6 hAx d6 hC5
      by_cases hv : bx.v = 0
      · have t : (bx.v == 0) = true := by simpa using hv
        have hz := blk_set (blk_set (blk_set e6 0 (.int .i64 0)) 1 (.int .i64 0)) 2 (.int .i64 0)
        simp only [List.setIfInBounds_toArray, List.set_cons_zero, List.set_cons_succ] at hz
        have hC8 := ((hC7.putNew (g := w.heap.size + 1 + 1) (j := 0) (u := .int .i64 0) (by omega)).putNew (g := w.heap.size + 1 + 1) (j := 1) (u := .int .i64 0) (by omega)).putNew (g := w.heap.size + 1 + 1) (j := 2) (u := .int .i64 0) (by omega)
        have HF := Lib.hid (And.intro hz (And.intro hC8 hv))
        clear hz hC8 hv hC7 e6 b7
        go_wp2_with fail
        refine bodyPost_ret (results_ch rfl _ _ (w.heap.size + 1 + 1) ⟨0, 0, 0⟩ false rfl rfl HF.out.1) rfl ?_
        exact ⟨by unfold chooseB; rw [HB.out, if_pos HF.out.2.2], HF.out.2.1⟩
      · have t : (bx.v == 0) = false := by simpa using hv
        have hz := blk_set (blk_set (blk_set e6 0 (.int .i64 bx.p)) 1 (.int .i64 bx.v)) 2 (.int .i64 bx.o)
        simp only [List.setIfInBounds_toArray, List.set_cons_zero, List.set_cons_succ] at hz
        have hC8 := ((hC7.putNew (g := w.heap.size + 1 + 1) (j := 0) (u := .int .i64 bx.p) (by omega)).putNew (g := w.heap.size + 1 + 1) (j := 1) (u := .int .i64 bx.v) (by omega)).putNew (g := w.heap.size + 1 + 1) (j := 2) (u := .int .i64 bx.o) (by omega)
        have HF := Lib.hid (And.intro hz (And.intro hC8 hv))
        clear hz hC8 hv hC7 e6 b7
        go_wp2_with fail
        refine bodyPost_ret (results_ch rfl _ _ (w.heap.size + 1 + 1) bx true rfl rfl HF.out.1) rfl ?_
        exact ⟨by unfold chooseB; rw [HB.out, if_neg HF.out.2.2], HF.out.2.1⟩
end Go.Proofs.YtdcjfaplgpeonaaGreat

/-
  The chapter's example; the price of all.
-/
namespace Go.Proofs.YtdcjfaplgpeonaaGreat
open Go.RowKit Go.Dm
attribute [local go_sem] Oper.semAt_some

theorem book_ok {l : List Ord} (hlen : l.length ≤ 60) : OrdOk (bookL l) :=
  ⟨Nat.le_trans (bookL_len l) hlen, book_qty l, fun o ho => by
    have h := bookL_ok l o ho
    simp only [okO, Bool.and_eq_true, decide_eq_true_eq] at h
    exact h.1⟩

theorem free_at (w : World) (p : Option Addr) (r : Int) (x : Pr × Bool) (hc : ∀ W, Chg [] w W → Calls Tryz.prog 13 #[.pointer p, .int .i64 r, bdV 1 1099511627776] W fun e w' => e = .returned (chV x) ∧ Chg [] W w') :
    Calls Tryz.prog 15 #[.pointer p, .int .i64 r] w fun e w' => e = .returned (chV x) ∧ Chg [] w w' := by
  obtain ⟨x, b⟩ := x
  have hA := Chg.alloc [] w (.cells #[.int .i64 0, .int .i64 0, .int .i64 0] 27)
  have b4 := heap_alloc_new w (.cells #[.int .i64 0, .int .i64 0, .int .i64 0] 27)
  unfold chV prV bdV at *
  go_enter Tryz.func15, Tryz.ntmps15
  go_wp2_with fail
  refine (whole36 _).mono ?_
  rintro e W1 ⟨rfl, hC1⟩
  have hC2 := hA.trans hC1
  have d4 := hC1.at_ b4 (by simp)
  unfold bdV
  go_wp2_with fail
  refine (hc W1 hC2).mono ?_
  rintro e W2 ⟨rfl, hC3⟩
  have e4 := hC3.at_ d4 (by simp)
  have f4 := blkfreeU e4
  obtain ⟨z0, z1, z2⟩ := prBlk e4
  have hC4 := ((((hC2.trans hC3).putNew (g := w.heap.size) (j := 0) (u := .int .i64 x.p) (by omega)).putNew (g := w.heap.size) (j := 1) (u := .int .i64 x.v) (by omega)).putNew (g := w.heap.size) (j := 2) (u := .int .i64 x.o) (by omega))
  have hz := blk_set (blk_set (blk_set e4 0 (.int .i64 x.p)) 1 (.int .i64 x.v)) 2 (.int .i64 x.o)
  simp only [List.setIfInBounds_toArray, List.set_cons_zero, List.set_cons_succ] at hz
  have HF := Lib.hid (And.intro hz hC4)
  clear hz hC4 hC2 hC3 hc e4 d4
  go_wp2_with fail
  exact bodyPost_ret (results_ch rfl _ _ w.heap.size x b rfl rfl HF.out.1) rfl ⟨rfl, HF.out.2⟩
theorem free_pb (w : World) {D : Nat} {B : Bkb} {L : List Ord} {lv0 lv1 : List Lvl} {v0 v1 : Value} (h : PB w D B L lv0 lv1 v0 v1) (hO : OrdOk L) (r : Int) (hr : InP r) :
    Calls Tryz.prog 15 #[.pointer (some ⟨B.b, 0, none⟩), .int .i64 r] w fun e w' => e = .returned (chV (chooseL (psO L) (dO L) (sO L) r 1 1099511627776)) ∧ Chg [] w w' :=
  free_at w _ r _ (fun W hW => choose13 W (h.apart hW) hO r 1 1099511627776 hr)
theorem free_nil (w : World) (r : Int) : Calls Tryz.prog 15 #[.pointer none, .int .i64 r] w fun e w' => e = .returned (chV (⟨0, 0, 0⟩, false)) ∧ Chg [] w w' :=
  free_at w _ r _ (fun W _ => choose_no W none r 1 1099511627776 (.inl rfl))

theorem ex_choose : chooseL (psO [exA, exB]) (dO [exA, exB]) (sO [exA, exB]) 8 1 1099511627776 = (⟨9, 2, 1⟩, true) := by
  have hn : nearI 8 1 1099511627776 = 8 := by unfold nearI; omega
  have hb : bestL (psO [exA, exB]) (dO [exA, exB]) (sO [exA, exB]) 8 1 1099511627776 = ⟨9, 2, 1⟩ := by
    refine pickL_eq 8 (List.mem_map.2 ⟨9, ((allowL_is _ _ _ _).all 9).2 (.inr ⟨by omega, by omega, by simp [psO, exA, exB]⟩), ?_⟩) fun y hy => ?_
    · simp [prAt, dO, sO, demO, supO, sdO, exA, exB, sumO]; omega
    · obtain ⟨q, hq, rfl⟩ := List.mem_map.1 hy
      have h1 := ((allowL_is _ _ _ _).all q).1 hq
      have h2 : q = 8 ∨ q = 10 ∨ q = 9 := by
        rcases h1 with h1 | h1
        · exact .inl (by rw [h1, hn])
        · have := h1.2.2
          simp [psO, exA, exB] at this
          exact .inr this
      rcases h2 with rfl | rfl | rfl
      · simp [LessP, prAt, dO, sO, demO, supO, sdO, exA, exB, sumO, farI]; omega
      · simp [LessP, prAt, dO, sO, demO, supO, sdO, exA, exB, sumO, farI]; omega
      · simp [LessP, prAt, dO, sO, demO, supO, sdO, exA, exB, sumO, farI]; omega
  rw [band_in (by omega) (by omega), if_neg (by omega)]
  unfold chooseB
  rw [hb]
  simp

set_option maxRecDepth 100000 in
set_option maxHeartbeats 4000000 in
theorem alive8 (w : World) : Calls Tryz.prog 8 #[] w fun e w' => e = .returned (.bool true) ∧ Chg [] w w' := by
  obtain ⟨W0, eW0⟩ : ∃ W0, w.alloc (.cells #[.int .i64 1, .int .i64 0, .int .i64 0, .int .i64 10, .int .i64 3, .int .i64 0, .int .i64 0, .int .i64 2, .int .i64 0, .int .i64 1, .int .i64 9, .int .i64 2, .int .i64 0, .int .i64 0] 52) = W0 := ⟨_, rfl⟩
  have hC0 : Chg [] w W0 := eW0 ▸ Chg.alloc [] w _
  have hb : W0.heap[w.heap.size]? = some (.cells #[.int .i64 1, .int .i64 0, .int .i64 0, .int .i64 10, .int .i64 3, .int .i64 0, .int .i64 0, .int .i64 2, .int .i64 0, .int .i64 1, .int .i64 9, .int .i64 2, .int .i64 0, .int .i64 0] 52 (0, 0)) := eW0 ▸ heap_alloc_new w _
  have hO : OrdsAt W0 (some ⟨w.heap.size, 0, none⟩) [exA, exB] := by
    refine .inr ⟨w.heap.size, 0, rfl, blk_lt hb, fun i o ho j hj => ?_⟩
    match i, ho with
    | 0, ho =>
      simp only [List.getElem?_cons_zero, Option.some.injEq] at ho
      subst ho
      match j, hj with
      | 0, _ => simp [World.cell?, hb, exA]
      | 1, _ => simp [World.cell?, hb, exA]
      | 2, _ => simp [World.cell?, hb, exA]
      | 3, _ => simp [World.cell?, hb, exA]
      | 4, _ => simp [World.cell?, hb, exA]
      | 5, _ => simp [World.cell?, hb, exA]
      | 6, _ => simp [World.cell?, hb, exA]
    | 1, ho =>
      simp only [List.getElem?_cons_succ, List.getElem?_cons_zero, Option.some.injEq] at ho
      subst ho
      match j, hj with
      | 0, _ => simp [World.cell?, hb, exB]
      | 1, _ => simp [World.cell?, hb, exB]
      | 2, _ => simp [World.cell?, hb, exB]
      | 3, _ => simp [World.cell?, hb, exB]
      | 4, _ => simp [World.cell?, hb, exB]
      | 5, _ => simp [World.cell?, hb, exB]
      | 6, _ => simp [World.cell?, hb, exB]
    | i + 2, ho => simp at ho
  have hB := books42 W0 _ 2 [exA, exB] hO (by simp)
  have hok := book_ok (l := [exA, exB]) (by simp)
  rw [ex_book] at hB hok
  simp only [List.length_cons, List.length_nil, Nat.zero_add, Nat.reduceAdd] at hB
  go_enter Tryz.func8, Tryz.ntmps8
  go_wp2_with fail
  refine hB.mono ?_
  rintro e W1 ⟨B, r, rfl, ⟨lv0, lv1, v0, v1, hP⟩, hR, hC1, _⟩
  have hf := free_pb W1 hP hok 8 (by unfold InP; omega)
  rw [ex_choose] at hf
  have hC2 := hC0.trans hC1
  clear hB hO hb eW0 hR hok hP hC0 hC1
  unfold chV prV at hf
  go_wp2_with fail
  refine hf.mono ?_
  rintro e W2 ⟨rfl, hC3⟩
  have hC4 := hC2.trans hC3
  clear hf hC2 hC3
  go_wp2_with fail
  go_ret
  exact ⟨rfl, hC4.trans (Chg.alloc _ _ _)⟩
end Go.Proofs.YtdcjfaplgpeonaaGreat
