/-
  The reference's arena: taking a slot, counting the taken ones, a new one.
-/
import Derived.Test.YtdcjfaplgpeonaaBa
namespace Go.Proofs.Ytdcjfaplgpeonaa
open Go.RowKit Go.Dm
variable {w w' : World} {r bo bt n m : Nat} {o : Nat → Int} {T : Nat → Bool} {D : List Nat}

theorem SlAt.pre {α : Type} {e sz : Nat} {renc : α → List Value} {w : World} {A : Option Addr} {N c : Nat} {l l2 : List α} (h : SlAt e sz renc w (.slice A N c) (l ++ l2)) (R : REnc sz renc) (hA : ∃ g, A = some ⟨g, 0, none⟩) : SlAt e sz renc w (.slice A l.length c) l := by
  refine ⟨flat_len R l, .inr ?_⟩
  rcases h.2 with ⟨h0, hn⟩ | ⟨g, cap, cur, hv, hb, hg, hc, hm, hs, ht⟩
  · obtain ⟨g, rfl⟩ := hA; cases h0
  · simp only [Value.slice.injEq] at hv
    obtain ⟨rfl, rfl, rfl⟩ := hv
    rw [List.length_append] at hc ht
    refine ⟨g, c, cur, rfl, hb, hg, by omega, hm, hs, ?_⟩
    have h1 : (cur.toList.take ((l.length + l2.length) * sz)).take (l.length * sz) = cur.toList.take (l.length * sz) := by
      rw [List.take_take, Nat.min_eq_left (Nat.mul_le_mul_right _ (by omega))]
    rw [← h1, ht, List.flatMap_append, List.take_append_of_le_length (by rw [flat_len R]; omega), List.take_of_length_le (by rw [flat_len R]; omega)]

set_option maxRecDepth 100000 in
set_option maxHeartbeats 1000000 in
theorem rtake09_full (h : RfAt w r bo bt n o T [] n) (x : Nat → Int) :
    Calls Try.prog 56 #[.pointer (some ⟨r, 0, none⟩), oV x] w fun e w' => e = .returned (.tuple #[.int .i64 0, .int .i64 7]) ∧ Chg [] w w' := by
  have hA := Chg.alloc [] w (.cells (oCs x) 52)
  obtain ⟨v, hb, hs⟩ := h.blk
  obtain ⟨A, c, rfl, _⟩ := hs.form
  obtain ⟨c0, c1, c2, c3⟩ := blk4' hb
  have hr := h.lt
  have e0 : ([] : List Nat).length = 0 := rfl
  rw [e0] at c2
  have hA1 := hA
  unfold oV
  unfold oCs at hA
  clear hb hs e0
  go_enter Try.func56, Try.ntmps56
  go_wp2_with fail
  go_quiet (fail)
  go_wp2
  go_ret2
  exact ⟨rfl, hA.trans (Chg.drewN _ _ _)⟩

set_option maxRecDepth 100000 in
set_option maxHeartbeats 2000000 in
theorem rtake09_next (h : RfAt w r bo bt n o T [] m) (hm : m < n) (hn : n ≤ 500) (x : Nat → Int) :
    Calls Try.prog 56 #[.pointer (some ⟨r, 0, none⟩), oV x] w fun e w' => e = .returned (.tuple #[.int .i64 m, .int .i64 0]) ∧ RfAt w' r bo bt n (updO o (m * 7) x) (updB T m true) [] (m + 1) ∧ Chg [r, bo, bt] w w' := by
  have hA := Chg.alloc [] w (.cells (oCs x) 52)
  have bx : (w.alloc (.cells (oCs x) 52)).heap[w.heap.size]? = some (.cells (oCs x) 52 (0, 0)) := heap_alloc_new w _
  have h1 := h.chg hA
  obtain ⟨v, hb, hs⟩ := h.blk
  obtain ⟨A, c, rfl, _⟩ := hs.form
  obtain ⟨c0, c1, c2, c3⟩ := blk4' hb
  have f3 := blkfree hb 3
  have hr := h.lt
  have e0 : ([] : List Nat).length = 0 := rfl
  rw [e0] at c2
  have m0 : (0 : Int) ≤ (m : Int) := Int.natCast_nonneg _
  have m1 : (m : Int) < (n : Int) := by omega
  have m2 : IntKind.i64.wrap ((m : Int) + 1) = (m : Int) + 1 := wrapOk (by omega) (by omega)
  have hx := fun nq => (hA.trans (Chg.drewN [] _ nq))
  have hbw := fun nq => (hx nq).at_ hb (by simp)
  have hsw := fun nq => hs.chg (hx nq) (by simp)
  have h4' : ∀ nq, RfAt (((w.alloc (.cells (oCs x) 52)).drewN nq).setCell ⟨r, 3, none⟩ (.int .i64 ((m : Int) + 1))) r bo bt n o T [] (m + 1) := fun nq =>
    (h.chg (hx nq)).withR (Chg.refl [r] _).put (by have := blk_set (hbw nq) 3 (.int .i64 ((m : Int) + 1)); exact this) ((hsw nq).chg (Chg.refl [r] _).put fun g hg hm => by
      obtain ⟨cur, hcur⟩ := hs.typed hg
      simp at hm; subst hm; rw [hb] at hcur; cases hcur)
  have bx4' : ∀ nq, (((w.alloc (.cells (oCs x) 52)).drewN nq).setCell ⟨r, 3, none⟩ (.int .i64 ((m : Int) + 1))).heap[w.heap.size]? = some (.cells (oCs x) 52 (0, 0)) := fun nq =>
    (Chg.refl [r] _).put.at_ (show ((w.alloc (.cells (oCs x) 52)).drewN nq).heap[w.heap.size]? = _ from bx) (by simp; omega)
  have hA4' : ∀ nq, Chg [r, bo, bt] w (((w.alloc (.cells (oCs x) 52)).drewN nq).setCell ⟨r, 3, none⟩ (.int .i64 ((m : Int) + 1))) := fun nq => (hx nq).nil.trans (Chg.mono (S := [r]) (Chg.refl [r] _).put (by simp))
  unfold oV
  unfold oCs at h4' bx4' hA4'
  clear hb hs e0 hA bx h1 hx hbw hsw
  go_enter Try.func56, Try.ntmps56
  go_wp2_with fail
  go_quiet (fail)
  go_wp2_with fail
  have h4 := h4' nq
  have bx4 := bx4' nq
  have hA4 := hA4' nq
  clear h4' bx4' hA4' c2 c3
  refine wp_tail 7 (by kernel_rfl) (by kernel_rfl) ?_
  intro W hW
  have hA2 := hA4.trans (hW.mono (by simp))
  have h2 := h4.chg hW
  have hbx := hW.at_ bx4 (by simp)
  obtain ⟨v, hb, _⟩ := h2.blk
  obtain ⟨c0, c1, _, _⟩ := blk4' hb
  have hr := h2.lt
  obtain ⟨x0, x1, x2, x3, x4, x5, x6⟩ := blk7 (o := x) hbx
  obtain ⟨y0, y1, y2, y3, y4, y5, y6⟩ := os_cells h2 hm
  obtain ⟨f0, f1, f2, f3, f4, f5, f6⟩ := os_free h2 m
  have t0 := h2.ts.cell (j := m) hm
  have g0 := h2.ts.free m
  have n1 : bo ≠ bt := by obtain ⟨ca, ha, _⟩ := h2.os; obtain ⟨cb, hcb, _⟩ := h2.ts; intro e; subst e; rw [ha] at hcb; cases hcb
  have n2 : r ≠ bo := by obtain ⟨ca, ha, _⟩ := h2.os; intro e; subst e; rw [ha] at hb; cases hb
  have n3 : r ≠ bt := by obtain ⟨ca, ha, _⟩ := h2.ts; intro e; subst e; rw [ha] at hb; cases hb
  clear hW hA4 h4 bx4 hbx hb
  simp only [List.take_succ_cons, List.take_zero, List.drop_succ_cons, List.drop_zero]
  repeat still_step
  refine wpStill_nil ?_
  go_wp2
  go_ret2
  have hI := ((((((h2.os.set (m * 7) (x 0)).set (m * 7 + 1) (x 1)).set (m * 7 + 2) (x 2)).set (m * 7 + 3) (x 3)).set (m * 7 + 4) (x 4)).set (m * 7 + 5) (x 5)).set (m * 7 + 6) (x 6)
  have h5 := h2.withO (Chg.refl [bo] W).put.put.put.put.put.put.put hI
  exact ⟨rfl, h5.withT (Chg.refl [bt] _).put (h5.ts.set m true), (hA2.trans (Chg.mono (S := [bo]) (Chg.refl [bo] W).put.put.put.put.put.put.put (by simp))).trans (Chg.mono (S := [bt]) (Chg.refl [bt] _).put (by simp))⟩

set_option maxRecDepth 100000 in
set_option maxHeartbeats 2000000 in
theorem rtake09_back {d : Nat} (h : RfAt w r bo bt n o T (D ++ [d]) m) (hd : d < n) (hD : D.length ≤ 1000) (x : Nat → Int) :
    Calls Try.prog 56 #[.pointer (some ⟨r, 0, none⟩), oV x] w fun e w' => e = .returned (.tuple #[.int .i64 d, .int .i64 0]) ∧ RfAt w' r bo bt n (updO o (d * 7) x) (updB T d true) D m ∧ Chg [r, bo, bt] w w' := by
  have hx := Chg.alloc [] w (.cells (oCs x) 52)
  have bx : (w.alloc (.cells (oCs x) 52)).heap[w.heap.size]? = some (.cells (oCs x) 52 (0, 0)) := heap_alloc_new w _
  obtain ⟨v, hb, hs⟩ := h.blk
  obtain ⟨A, c, rfl, _, hA⟩ := hs.form
  obtain ⟨g, rfl⟩ := hA (by simp)
  have hcap := hs.cap.2.1
  have e1 : (D ++ [d]).length = D.length + 1 := by simp
  have hd0 := hs.at_ intR (i := D.length) (j := 0) (a := d) (by simp) (by omega)
  simp only [Nat.mul_one, Nat.add_zero, intE, List.getElem?_cons_zero] at hd0
  have hg := hs.lt (g := g) rfl
  have hsp := SlAt.pre hs intR ⟨g, rfl⟩
  rw [e1] at hb hcap
  obtain ⟨c0, c1, c2, c3⟩ := blk4' hb
  have f2 := blkfree hb 2
  have hr := h.lt
  have m0 : (0 : Int) ≤ (D.length : Int) := Int.natCast_nonneg _
  have m1 : (D.length : Int) < ((D.length + 1 : Nat) : Int) := by omega
  have m3 : (D.length : Int) ≤ (c : Int) := by omega
  have d0 : (0 : Int) ≤ (d : Int) := Int.natCast_nonneg _
  have d1 : (d : Int) < (n : Int) := by omega
  have h4 : RfAt ((w.setCell ⟨r, 2, none⟩ (.slice (some ⟨g, 0, none⟩) D.length c)).alloc (.cells (oCs x) 52)) r bo bt n o T D m :=
    (h.withR (Chg.refl [r] _).put (by have := blk_set hb 2 (.slice (some ⟨g, 0, none⟩) D.length c); exact this) (hsp.chg (Chg.refl [r] _).put fun g' hg' hm => by
      obtain ⟨cur, hcur⟩ := hsp.typed hg'
      simp at hm; subst hm; rw [hb] at hcur; cases hcur)).chg (Chg.alloc _ _ _)
  have bx4 : ((w.setCell ⟨r, 2, none⟩ (.slice (some ⟨g, 0, none⟩) D.length c)).alloc (.cells (oCs x) 52)).heap[w.heap.size]? = some (.cells (oCs x) 52 (0, 0)) := by
    have := heap_alloc_new (w.setCell ⟨r, 2, none⟩ (.slice (some ⟨g, 0, none⟩) D.length c)) (.cells (oCs x) 52)
    simpa using this
  have hA4 : Chg [r, bo, bt] w ((w.setCell ⟨r, 2, none⟩ (.slice (some ⟨g, 0, none⟩) D.length c)).alloc (.cells (oCs x) 52)) := (Chg.mono (S := [r]) (Chg.refl [r] _).put (by simp)).trans (Chg.alloc _ _ _)
  unfold oV
  unfold oCs at h4 bx4 hA4
  clear hb hs e1 hx bx hsp hA
  go_enter Try.func56, Try.ntmps56
  go_wp2_with fail
  clear c2 c3
  refine wp_tail 7 (by kernel_rfl) (by kernel_rfl) ?_
  intro W hW
  have hA2 := hA4.trans (hW.mono (by simp))
  have h2 := h4.chg hW
  have hbx := hW.at_ bx4 (by simp)
  obtain ⟨v, hb, _⟩ := h2.blk
  obtain ⟨c0, c1, _, _⟩ := blk4' hb
  have hr := h2.lt
  obtain ⟨x0, x1, x2, x3, x4, x5, x6⟩ := blk7 (o := x) hbx
  obtain ⟨y0, y1, y2, y3, y4, y5, y6⟩ := os_cells h2 hd
  obtain ⟨f0, f1, f2, f3, f4, f5, f6⟩ := os_free h2 d
  have t0 := h2.ts.cell (j := d) hd
  have g0 := h2.ts.free d
  have n1 : bo ≠ bt := by obtain ⟨ca, ha, _⟩ := h2.os; obtain ⟨cb, hcb, _⟩ := h2.ts; intro e; subst e; rw [ha] at hcb; cases hcb
  have n2 : r ≠ bo := by obtain ⟨ca, ha, _⟩ := h2.os; intro e; subst e; rw [ha] at hb; cases hb
  have n3 : r ≠ bt := by obtain ⟨ca, ha, _⟩ := h2.ts; intro e; subst e; rw [ha] at hb; cases hb
  clear hW hA4 h4 bx4 hbx hb
  simp only [List.take_succ_cons, List.take_zero, List.drop_succ_cons, List.drop_zero]
  repeat still_step
  refine wpStill_nil ?_
  go_wp2
  go_ret2
  have hI := ((((((h2.os.set (d * 7) (x 0)).set (d * 7 + 1) (x 1)).set (d * 7 + 2) (x 2)).set (d * 7 + 3) (x 3)).set (d * 7 + 4) (x 4)).set (d * 7 + 5) (x 5)).set (d * 7 + 6) (x 6)
  have h5 := h2.withO (Chg.refl [bo] W).put.put.put.put.put.put.put hI
  exact ⟨rfl, h5.withT (Chg.refl [bt] _).put (h5.ts.set d true), (hA2.trans (Chg.mono (S := [bo]) (Chg.refl [bo] W).put.put.put.put.put.put.put (by simp))).trans (Chg.mono (S := [bt]) (Chg.refl [bt] _).put (by simp))⟩

/-- How many of the first k hold. -/
def cntT (T : Nat → Bool) (k : Nat) : Nat := ((List.range k).filter T).length
theorem cntT_succ (T : Nat → Bool) (k : Nat) : cntT T (k + 1) = cntT T k + if T k = true then 1 else 0 := by
  unfold cntT
  rw [List.range_succ, List.filter_append, List.length_append]
  by_cases h : T k = true
  · simp [h]
  · simp [h]
theorem cntT_le (T : Nat → Bool) (k : Nat) : cntT T k ≤ k := by
  unfold cntT
  exact Nat.le_trans (List.length_filter_le _ _) (by simp)

def UsedRel (w : World) (n : Nat) (T : Nat → Bool) (q : Nat) (c i : Value) (wr : World) : Prop :=
  ∃ k : Nat, k ≤ n ∧ q = n - k + 1 ∧ c = .int .i64 (cntT T k) ∧ i = .int .i64 k ∧ wr = w

set_option maxRecDepth 100000 in
set_option maxHeartbeats 1000000 in
theorem rused09 (h : RfAt w r bo bt n o T D m) (hn : n ≤ 500) :
    Calls Try.prog 29 #[.pointer (some ⟨r, 0, none⟩)] w fun e w' => e = .returned (.int .i64 (cntT T n)) ∧ w = w' := by
  obtain ⟨v, hb, _⟩ := h.blk
  obtain ⟨c0, c1, _, _⟩ := blk4' hb
  have hr := h.lt
  have ht := h.ts
  clear h hb
  go_enter Try.func29, Try.ntmps29
  go_wp2_with fail
  go_loopg [3, 4] (n + 1) (fun q c i wr => UsedRel w n T q c i wr)
  case atStart => exact ⟨0, Nat.zero_le _, rfl, rfl, rfl, rfl⟩
  case round =>
    obtain ⟨k, hk, hq, rfl, rfl, hw⟩ := hrel
    subst hw
    have Hq := Lib.hid hq
    clear hq
    by_cases hlt : k < n
    · have t0 := ht.cell (j := k) hlt
      have k0 : (0 : Int) ≤ (k : Int) := Int.natCast_nonneg _
      have k1 : (k : Int) < (n : Int) := by omega
      have hle := cntT_le T k
      have w1 : IntKind.i64.wrap ((cntT T k : Int) + 1) = (cntT T k : Int) + 1 := wrapOk (by omega) (by omega)
      have w2 : IntKind.i64.wrap ((k : Int) + 1) = (k : Int) + 1 := wrapOk (by omega) (by omega)
      have hs := Lib.hid (cntT_succ T k)
      clear hle
      by_cases hT : T k = true
      · rw [hT] at t0
        go_wp2
        go_roundg (n - (k + 1) + 1)
        case measure => rw [Hq.out]; omega
        case rel => exact ⟨k + 1, by omega, rfl, by rw [hs.out, if_pos hT]; rfl, rfl, rfl⟩
      · have hF : T k = false := by simpa using hT
        rw [hF] at t0
        clear hT
        go_wp2
        go_roundg (n - (k + 1) + 1)
        case measure => rw [Hq.out]; omega
        case rel => exact ⟨k + 1, by omega, rfl, by rw [hs.out, hF]; rfl, rfl, rfl⟩
    · have hkn : k = n := by omega
      subst hkn
      go_wp2
      go_ret
      exact ⟨rfl, rfl⟩

theorem made_b (n : Nat) : madeCells #[.bool false] n = Array.replicate n (.bool false) := by
  apply Array.ext
  · simp [madeCells]
  · intro i h1 h2; simp [madeCells, Nat.mod_one]
theorem make69 (n : Nat) (hn : n ≤ 1000) (w : World) : (Instr.makeSlice 69 (.int .i64 (n : Int)) (.int .i64 (n : Int))).run Try.prog w = .ok (.slice (some ⟨w.heap.size, 0, none⟩) n n) (w.alloc (.cells (Array.replicate n (.bool false)) 4)) := by
  rw [run_make_row' 69 4 (.bool false) 1 Try.underlying69 (by kernel_rfl) rfl .i64 .i64 n (by omega) (by omega) w, made_b]
theorem made_o (n : Nat) : madeCells #[.int .i64 0, .int .i64 0, .int .i64 0, .int .i64 0, .int .i64 0, .int .i64 0, .int .i64 0] n = Array.replicate n (.int .i64 0) := by
  apply Array.ext
  · simp [madeCells]
  · intro i h1 h2
    simp only [madeCells, Array.getElem_map, Array.getElem_range, Array.getElem_replicate]
    have h7 : i % 7 < 7 := Nat.mod_lt _ (by omega)
    show (#[Value.int .i64 0, .int .i64 0, .int .i64 0, .int .i64 0, .int .i64 0, .int .i64 0, .int .i64 0])[i % 7]! = _
    match i % 7, h7 with
    | 0, _ => rfl
    | 1, _ => rfl
    | 2, _ => rfl
    | 3, _ => rfl
    | 4, _ => rfl
    | 5, _ => rfl
    | 6, _ => rfl
theorem make43 (n : Nat) (hn : n ≤ 1000) (w : World) : (Instr.makeSlice 43 (.int .i64 (n : Int)) (.int .i64 (n : Int))).run Try.prog w = .ok (.slice (some ⟨w.heap.size, 0, none⟩) n n) (w.alloc (.cells (Array.replicate (n * 7) (.int .i64 0)) 52)) := by
  obtain ⟨i, hi, hz, h1, h2⟩ := info_parts (show (Try.prog.info? 52).map (fun i => (i.zero, i.size, i.bytes)) = some (some (.agg #[.int .i64 0, .int .i64 0, .int .i64 0, .int .i64 0, .int .i64 0, .int .i64 0, .int .i64 0]), 7, 56) by kernel_rfl)
  have := run_make (P := Try.prog) w 43 52 i _ Try.underlying43 hi hz .i64 .i64 n n (by omega) (Int.le_refl _) (by rw [h2]; omega) (by omega)
  simp only [Int.toNat_natCast, h1, Value.cells] at this
  rw [this, made_o]
theorem bools_made (w : World) (t n : Nat) : BoolsAt (w.alloc (.cells (Array.replicate n (.bool false)) t)) w.heap.size t n (fun _ => false) :=
  ⟨_, heap_alloc_new w _, by simp, fun j hj => by simp [hj]⟩

theorem rf_mk {W : World} {bo bt n : Nat} (ho : IntsAt W bo 52 (n * 7) (fun _ => 0)) (ht : BoolsAt W bt 4 n (fun _ => false)) :
    RfAt (W.alloc (.cells #[.slice (some ⟨bo, 0, none⟩) n n, .slice (some ⟨bt, 0, none⟩) n n, .slice none 0 0, .int .i64 0] 71)).drew W.heap.size bo bt n (fun _ => 0) (fun _ => false) [] 0 :=
  ⟨⟨_, (Chg.drew [] _).at_ (heap_alloc_new W _) (by simp), SlAt.nil _ _ _ _⟩, ho.chg ((Chg.alloc [] W _).trans (Chg.drew _ _)) (by simp), ht.chg ((Chg.alloc [] W _).trans (Chg.drew _ _)) (by simp)⟩

set_option maxRecDepth 100000 in
set_option maxHeartbeats 1000000 in
theorem rnew09 (w : World) (n : Nat) (h0 : 1 ≤ n) (h1 : n ≤ 500) :
    Calls Try.prog 26 #[.int .i64 n] w fun e w' => ∃ r bo bt, e = .returned (.tuple #[.pointer (some ⟨r, 0, none⟩), .int .i64 0]) ∧ RfAt w' r bo bt n (fun _ => 0) (fun _ => false) [] 0 ∧ Chg [] w w' ∧ w.heap.size ≤ r ∧ w.heap.size ≤ bo ∧ w.heap.size ≤ bt := by
  have d1 : decide ((n : Int) < 1) = false := by simp; omega
  have d2 : decide ((n : Int) > 500) = false := by simp; omega
  have m1 := make43 n (by omega)
  have m2 := make69 n (by omega)
  go_enter Try.func26, Try.ntmps26
  go_wp2_with fail
  go_region
  · have o1 := ints_made w 52 (n * 7)
    have t2 := bools_made (w.alloc (.cells (Array.replicate (n * 7) (.int .i64 0)) 52)) 4 n
    have o2 := o1.chg (Chg.alloc [] _ (.cells (Array.replicate n (.bool false)) 4)) (by simp)
    have hR := rf_mk o2 t2
    have hC : Chg [] w _ := ((Chg.alloc [] w (.cells (Array.replicate (n * 7) (.int .i64 0)) 52)).trans (Chg.alloc [] _ (.cells (Array.replicate n (.bool false)) 4))).trans ((Chg.alloc [] _ (.cells #[.slice (some ⟨w.heap.size, 0, none⟩) n n, .slice (some ⟨w.heap.size + 1, 0, none⟩) n n, .slice none 0 0, .int .i64 0] 71)).trans (Chg.drew [] _))
    simp only [World.size_alloc] at hR
    clear m1 m2 o1 t2 o2
    go_wp2
    go_ret2
    exact ⟨_, _, _, rfl, hR, hC, by omega, by omega, by omega⟩
  · have t1 := bools_made w 4 n
    have o2 := ints_made (w.alloc (.cells (Array.replicate n (.bool false)) 4)) 52 (n * 7)
    have t2 := t1.chg (Chg.alloc [] _ (.cells (Array.replicate (n * 7) (.int .i64 0)) 52)) (by simp)
    have hR := rf_mk o2 t2
    have hC : Chg [] w _ := ((Chg.alloc [] w (.cells (Array.replicate n (.bool false)) 4)).trans (Chg.alloc [] _ (.cells (Array.replicate (n * 7) (.int .i64 0)) 52))).trans ((Chg.alloc [] _ (.cells #[.slice (some ⟨w.heap.size + 1, 0, none⟩) n n, .slice (some ⟨w.heap.size, 0, none⟩) n n, .slice none 0 0, .int .i64 0] 71)).trans (Chg.drew [] _))
    simp only [World.size_alloc] at hR
    clear m1 m2 t1 t2 o2
    go_wp2
    go_ret2
    exact ⟨_, _, _, rfl, hR, hC, by omega, by omega, by omega⟩
theorem rnew09_no (w : World) (n : Int) (h : n < 1 ∨ n > 500) :
    Calls Try.prog 26 #[.int .i64 n] w fun e w' => e = .returned (.tuple #[.pointer none, .int .i64 9]) ∧ Chg [] w w' := by
  by_cases h1 : n < 1
  · clear h
    go_enter Try.func26, Try.ntmps26
    go_wp2
    go_ret2
    exact ⟨rfl, Chg.refl _ _⟩
  · have h2 : n > 500 := by omega
    clear h
    go_enter Try.func26, Try.ntmps26
    go_wp2
    go_ret2
    exact ⟨rfl, Chg.refl _ _⟩
end Go.Proofs.Ytdcjfaplgpeonaa
