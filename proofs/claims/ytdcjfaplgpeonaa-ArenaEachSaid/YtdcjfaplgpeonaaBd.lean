/-
  One act on both arenas.
-/
import Derived.Test.YtdcjfaplgpeonaaBc
namespace Go.Proofs.Ytdcjfaplgpeonaa
open Go.RowKit Go.Dm

section
variable {n m : Nat} {c o : Nat → Int} {T : Nat → Bool} {D : List Nat}
theorem len_below : ∀ (m : Nat) (D : List Nat), D.Nodup → (∀ d ∈ D, d < m) → D.length ≤ m
  | 0, D, _, h => by
    cases D with
    | nil => simp
    | cons d D => have := h d (by simp); omega
  | m + 1, D, hn, h => by
    have h1 := len_below m (D.erase m) (hn.erase m) fun d hd => by
      have h2 := (hn.mem_erase_iff).1 hd
      have := h d h2.2
      have := h2.1
      omega
    by_cases hm : m ∈ D
    · rw [List.length_erase_of_mem hm] at h1; omega
    · rw [List.erase_of_not_mem hm] at h1; omega
theorem Pair.dlen (h : Pair n c o T D m) : D.length ≤ 1000 := by
  have := len_below m D h.nd h.dlt
  have := h.mle
  have := h.n5
  omega
theorem Pair.cnt (h : Pair n c o T D m) : 0 ≤ c 4002 ∧ c 4002 ≤ 500 := by
  have := h.used
  have := cntT_le T n
  have := h.n5
  omega

theorem both_take (h : Pair n c o T D m) (x : Nat → Int) : ∃ (k f : Int) (c' o' : Nat → Int) (T' : Nat → Bool) (D' : List Nat) (m' : Nat), Pair n c' o' T' D' m' ∧
    (∀ w b, ArAt w b c → Calls Try.prog 24 #[.pointer (some ⟨b, 0, none⟩), oV x] w fun e w' => e = .returned (.tuple #[.int .i64 k, .int .i64 f]) ∧ ArAt w' b c' ∧ Chg [b] w w') ∧
    (∀ w r bo bt, RfAt w r bo bt n o T D m → Calls Try.prog 56 #[.pointer (some ⟨r, 0, none⟩), oV x] w fun e w' => e = .returned (.tuple #[.int .i64 k, .int .i64 f]) ∧ RfAt w' r bo bt n o' T' D' m' ∧ Chg [r, bo, bt] w w') := by
  have hcnt := h.cnt
  have hw : IntKind.i64.wrap (c 4002 + 1) = c 4002 + 1 := wrapOk (by omega) (by omega)
  have h5 := h.n5
  have hm := h.mle
  have hdl := h.dlen
  rcases List.eq_nil_or_concat D with rfl | ⟨D', d, rfl⟩
  · by_cases hmn : m < n
    · refine ⟨m, 0, _, _, _, _, _, h.take_next hmn x, fun w b hb => take09_yes w b c hb m (h.head_next hmn).1 (by omega) x hw, fun w r bo bt hr => rtake09_next hr hmn h5 x⟩
    · obtain rfl : m = n := by omega
      exact ⟨0, 7, _, _, _, _, _, h, fun w b hb => (take09_full w b c hb h.head_full x).mono fun e w' ⟨he, hC⟩ => ⟨he, hb.chg hC (by simp), hC.nil⟩,
        fun w r bo bt hr => (rtake09_full hr x).mono fun e w' ⟨he, hC⟩ => ⟨he, hr.chg hC, hC.nil⟩⟩
  · rw [List.concat_eq_append] at *
    have hb := h.head_back
    have hl : D'.length ≤ 1000 := by simp at hdl; omega
    exact ⟨d, 0, _, _, _, _, _, h.take_back x, fun w b hA => take09_yes w b c hA d hb.1 (by omega) x hw, fun w r bo bt hr => rtake09_back hr hb.2.1 hl x⟩

theorem hasR_nat {i : Int} (h : hasR n T i = true) : ∃ k : Nat, i = k ∧ k < n ∧ T k = true := by
  simp only [hasR, Bool.and_eq_true, decide_eq_true_eq] at h
  obtain ⟨⟨h0, h1⟩, h2⟩ := h
  obtain ⟨k, rfl⟩ := Int.eq_ofNat_of_zero_le h0
  exact ⟨k, rfl, by omega, by simpa using h2⟩

theorem both_drop (h : Pair n c o T D m) (i : Int) : ∃ (q : Bool) (c' o' : Nat → Int) (T' : Nat → Bool) (D' : List Nat) (m' : Nat), Pair n c' o' T' D' m' ∧
    (∀ w b, ArAt w b c → Calls Try.prog 33 #[.pointer (some ⟨b, 0, none⟩), .int .i64 i] w fun e w' => e = .returned (.bool q) ∧ ArAt w' b c' ∧ Chg [b] w w') ∧
    (∀ w r bo bt, RfAt w r bo bt n o T D m → Calls Try.prog 57 #[.pointer (some ⟨r, 0, none⟩), .int .i64 i] w fun e w' => e = .returned (.bool q) ∧ RfAt w' r bo bt n o' T' D' m' ∧ Chg [r, bo, bt] w w') := by
  have hcnt := h.cnt
  have h5 := h.n5
  have hsz := h.size
  cases ht : hasR n T i with
  | true =>
    obtain ⟨k, rfl, hk, hT⟩ := hasR_nat ht
    have hpos : 1 ≤ c 4002 := by
      have := cntT_false T k hT n
      rw [if_pos hk] at this
      rw [h.used]; omega
    have hw : IntKind.i64.wrap (c 4002 - 1) = c 4002 - 1 := wrapOk (by omega) (by omega)
    exact ⟨true, _, _, _, _, _, h.drop hk hT, fun w b hb => drop09_yes w b c hb k (by omega) (by omega) (h.nx k hk hT) hw, fun w r bo bt hr => rdrop09_yes hr k hk hT h.dlen⟩
  | false =>
    exact ⟨false, _, _, _, _, _, h, fun w b hb => (drop09_no w b c hb i (by omega) (by rw [h.taken]; exact ht)).mono fun e w' ⟨he, hC⟩ => ⟨he, hb.chg hC (by simp), hC.nil⟩,
      fun w r bo bt hr => (rdrop09_no hr i ht).mono fun e w' ⟨he, hC⟩ => ⟨he, hr.chg hC, hC.nil⟩⟩

theorem both_set (h : Pair n c o T D m) (i : Int) (x : Nat → Int) : ∃ (q : Bool) (c' o' : Nat → Int) (T' : Nat → Bool) (D' : List Nat) (m' : Nat), Pair n c' o' T' D' m' ∧
    (∀ w b, ArAt w b c → Calls Try.prog 34 #[.pointer (some ⟨b, 0, none⟩), .int .i64 i, oV x] w fun e w' => e = .returned (.bool q) ∧ ArAt w' b c' ∧ Chg [b] w w') ∧
    (∀ w r bo bt, RfAt w r bo bt n o T D m → Calls Try.prog 58 #[.pointer (some ⟨r, 0, none⟩), .int .i64 i, oV x] w fun e w' => e = .returned (.bool q) ∧ RfAt w' r bo bt n o' T' D' m' ∧ Chg [r, bo, bt] w w') := by
  have h5 := h.n5
  have hsz := h.size
  cases ht : hasR n T i with
  | true =>
    obtain ⟨k, rfl, hk, hT⟩ := hasR_nat ht
    exact ⟨true, _, _, _, _, _, h.set hk x, fun w b hb => set09_yes w b c hb k (by omega) (by omega) (h.nx k hk hT) x, fun w r bo bt hr => rset09_yes hr k hk hT x⟩
  | false =>
    exact ⟨false, _, _, _, _, _, h, fun w b hb => (set09_no w b c hb i (by omega) (by rw [h.taken]; exact ht) x).mono fun e w' ⟨he, hC⟩ => ⟨he, hb.chg hC (by simp), hC.nil⟩,
      fun w r bo bt hr => (rset09_no hr i ht x).mono fun e w' ⟨he, hC⟩ => ⟨he, hr.chg hC, hC.nil⟩⟩

theorem both_get (h : Pair n c o T D m) (i : Int) : ∃ (v : Nat → Int) (q : Bool),
    (∀ w b, ArAt w b c → Calls Try.prog 25 #[.pointer (some ⟨b, 0, none⟩), .int .i64 i] w fun e w' => e = .returned (.tuple #[oV v, .bool q]) ∧ Chg [] w w') ∧
    (∀ w r bo bt, RfAt w r bo bt n o T D m → Calls Try.prog 59 #[.pointer (some ⟨r, 0, none⟩), .int .i64 i] w fun e w' => e = .returned (.tuple #[oV v, .bool q]) ∧ Chg [] w w') := by
  have h5 := h.n5
  have hsz := h.size
  cases ht : hasR n T i with
  | true =>
    obtain ⟨k, rfl, hk, hT⟩ := hasR_nat ht
    have he : oV (ordAt c (k * 8)) = oV (ordAt o (k * 7)) := by
      have h0 := h.ord k hk hT 0 (by omega)
      have h1 := h.ord k hk hT 1 (by omega)
      have h2 := h.ord k hk hT 2 (by omega)
      have h3 := h.ord k hk hT 3 (by omega)
      have h4 := h.ord k hk hT 4 (by omega)
      have h5 := h.ord k hk hT 5 (by omega)
      have h6 := h.ord k hk hT 6 (by omega)
      simp only [oV, ordAt, h0, h1, h2, h3, h4, h5, h6]
    refine ⟨ordAt o (k * 7), true, fun w b hb => ?_, fun w r bo bt hr => rget09 hr k hk hT⟩
    have := get09_yes w b c hb k (by omega) (by omega) (h.nx k hk hT)
    rwa [he] at this
  | false =>
    exact ⟨fun _ => 0, false, fun w b hb => get09_no w b c hb i (by omega) (by rw [h.taken]; exact ht), fun w r bo bt hr => rget09_no hr i ht⟩
end

/-- Both arenas hold alike. -/
def Duo (w : World) (b r bo bt n : Nat) : Prop := ∃ c o T D m, Pair n c o T D m ∧ ArAt w b c ∧ RfAt w r bo bt n o T D m

def b9 (kd sl : Int) (o : Nat → Int) : Array Value := #[.int .i64 kd, .int .i64 sl, .int .i64 (o 0), .int .i64 (o 1), .int .i64 (o 2), .int .i64 (o 3), .int .i64 (o 4), .int .i64 (o 5), .int .i64 (o 6)]
theorem blk9 {w : World} {b : Nat} {kd sl : Int} {o : Nat → Int} {t : TypeId} {fr : Nat × Nat} (h : w.heap[b]? = some (.cells (b9 kd sl o) t fr)) :
    w.cell? ⟨b, 0, none⟩ = some (.int .i64 kd) ∧ w.cell? ⟨b, 1, none⟩ = some (.int .i64 sl) ∧
    w.cell? ⟨b, 2, none⟩ = some (.int .i64 (o 0)) ∧ w.cell? ⟨b, 3, none⟩ = some (.int .i64 (o 1)) ∧ w.cell? ⟨b, 4, none⟩ = some (.int .i64 (o 2)) ∧ w.cell? ⟨b, 5, none⟩ = some (.int .i64 (o 3)) ∧
    w.cell? ⟨b, 6, none⟩ = some (.int .i64 (o 4)) ∧ w.cell? ⟨b, 7, none⟩ = some (.int .i64 (o 5)) ∧ w.cell? ⟨b, 8, none⟩ = some (.int .i64 (o 6)) := by
  simp [World.cell?, h, b9]

set_option maxRecDepth 100000 in
set_option maxHeartbeats 2000000 in
theorem act09_take (w : World) (b r bo bt n : Nat) (h : Duo w b r bo bt n) (sl : Int) (x : Nat → Int) :
    Calls Try.prog 27 #[.pointer (some ⟨b, 0, none⟩), .pointer (some ⟨r, 0, none⟩), .agg (b9 0 sl x)] w fun e w' => e = .returned (.bool true) ∧ Duo w' b r bo bt n ∧ Chg [b, r, bo, bt] w w' := by
  obtain ⟨c, o, T, D, m, hP, hA, hR⟩ := h
  obtain ⟨k, f, c', o', T', D', m', hP', t1, t2⟩ := both_take hP x
  have hC0 := Chg.alloc [] w (.cells (b9 0 sl x) 62)
  have bx : (w.alloc (.cells (b9 0 sl x) 62)).heap[w.heap.size]? = some (.cells (b9 0 sl x) 62 (0, 0)) := heap_alloc_new w _
  have hA0 := hA.chg hC0 (by simp)
  have hR0 := hR.chg hC0
  obtain ⟨x0, x1, x2, x3, x4, x5, x6, x7, x8⟩ := blk9 bx
  have u1 := t1 _ b hA0
  unfold oV at u1 t2
  have hlt := hA.lt
  unfold b9 at *
  go_enter Try.func27, Try.ntmps27
  go_wp2_with fail
  refine u1.mono ?_
  rintro e W1 ⟨rfl, hA1, hC1⟩
  have hne : w.heap.size ≠ b := by omega
  have hR1 := hR0.chgA hA0 hC1
  have bx1 := hC1.at_ bx (by simpa using hne)
  clear x0 x1 x2 x3 x4 x5 x6 x7 x8 u1
  obtain ⟨x0, x1, x2, x3, x4, x5, x6, x7, x8⟩ := blk9 bx1
  have u2 := t2 _ r bo bt hR1
  clear t1 t2
  go_wp2_with fail
  refine u2.mono ?_
  rintro e W2 ⟨rfl, hR2, hC2⟩
  have hA2 := hA1.chgR hR1 hC2
  have hCC : Chg [b, r, bo, bt] w W2 := (hC0.nil.trans (hC1.mono (by simp))).trans (hC2.mono (by simp))
  clear x0 x1 x2 x3 x4 x5 x6 x7 x8 u2
  go_wp2
  go_ret
  exact ⟨by simp, ⟨_, _, _, _, _, hP', hA2, hR2⟩, hCC⟩

set_option maxRecDepth 100000 in
set_option maxHeartbeats 2000000 in
theorem act09_get (w : World) (b r bo bt n : Nat) (h : Duo w b r bo bt n) (kd sl : Int) (x : Nat → Int) (k0 : ¬ kd = 0) (k1 : ¬ kd = 1) (k2 : ¬ kd = 2) :
    Calls Try.prog 27 #[.pointer (some ⟨b, 0, none⟩), .pointer (some ⟨r, 0, none⟩), .agg (b9 kd sl x)] w fun e w' => e = .returned (.bool true) ∧ Duo w' b r bo bt n ∧ Chg [b, r, bo, bt] w w' := by
  obtain ⟨c, o, T, D, m, hP, hA, hR⟩ := h
  obtain ⟨v, q, t1, t2⟩ := both_get hP sl
  have hC0 := Chg.alloc [] w (.cells (b9 kd sl x) 62)
  have bx : (w.alloc (.cells (b9 kd sl x) 62)).heap[w.heap.size]? = some (.cells (b9 kd sl x) 62 (0, 0)) := heap_alloc_new w _
  have hA0 := hA.chg hC0 (by simp)
  have hR0 := hR.chg hC0
  obtain ⟨x0, x1, x2, x3, x4, x5, x6, x7, x8⟩ := blk9 bx
  have u1 := t1 _ b hA0
  have e0 : (kd == 0) = false := by simpa using k0
  have e1 : (kd == 1) = false := by simpa using k1
  have e2 : (kd == 2) = false := by simpa using k2
  unfold oV at u1 t2
  unfold b9 at *
  clear k0 k1 k2
  go_enter Try.func27, Try.ntmps27
  go_wp2_with fail
  refine u1.mono ?_
  rintro e W1 ⟨rfl, hC1⟩
  have hD1 := (hC0.trans hC1).trans (Chg.alloc [] W1 (.cells (oCs v) 52))
  have hR1 := hR.chg hD1
  have bx1 := hC1.at_ bx (by simp)
  have by1 : (W1.alloc (.cells (oCs v) 52)).heap[W1.heap.size]? = some (.cells (oCs v) 52 (0, 0)) := heap_alloc_new W1 _
  have hne : w.heap.size < W1.heap.size := by have := hC1.size; simp at this; omega
  clear x0 x1 x2 x3 x4 x5 x6 x7 x8 u1
  obtain ⟨x0, x1, x2, x3, x4, x5, x6, x7, x8⟩ := blk9 bx1
  have u2 := t2 _ r bo bt hR1
  have hP2 := Lib.hid hP
  clear t1 t2 hC0 hC1 hP
  unfold oCs at u2 by1 hD1
  go_wp2_with fail
  refine u2.mono ?_
  rintro e W2 ⟨rfl, hC2⟩
  have hDE := (hD1.trans hC2).trans (Chg.alloc [] W2 (.cells (oCs v) 52))
  have hA2 := hA.chg hDE (by simp)
  have hR2 := hR.chg hDE
  have by2 := hC2.at_ by1 (by simp)
  have hne2 : W1.heap.size < W2.heap.size := by have := hC2.size; simp at this; omega
  have bz2 : (W2.alloc (.cells (oCs v) 52)).heap[W2.heap.size]? = some (.cells (oCs v) 52 (0, 0)) := heap_alloc_new W2 _
  clear x0 x1 x2 x3 x4 x5 x6 x7 x8 u2
  obtain ⟨y0, y1, y2, y3, y4, y5, y6⟩ := blk7 (o := v) by2
  obtain ⟨z0, z1, z2, z3, z4, z5, z6⟩ := blk7 (o := v) bz2
  unfold oCs at *
  clear bx bx1 by1 by2 bz2 hC2 hD1 hA0 hR0 hR1
  go_wp2
  go_ret
  exact ⟨by simp, ⟨_, _, _, _, _, hP2.out, hA2, hR2⟩, hDE.nil⟩

theorem cut9drop {w : World} {b : Nat} {kd sl : Int} {o : Nat → Int} {t : TypeId} {fr : Nat × Nat} (h : w.heap[b]? = some (.cells (b9 kd sl o) t fr)) :
    w.cell? ⟨b, 1, none⟩ = some (.int .i64 sl) := (blk9 h).2.1
theorem cut9set {w : World} {b : Nat} {kd sl : Int} {o : Nat → Int} {t : TypeId} {fr : Nat × Nat} (h : w.heap[b]? = some (.cells (b9 kd sl o) t fr)) :
    w.cell? ⟨b, 1, none⟩ = some (.int .i64 sl) ∧
    w.cell? ⟨b, 2, none⟩ = some (.int .i64 (o 0)) ∧ w.cell? ⟨b, 3, none⟩ = some (.int .i64 (o 1)) ∧ w.cell? ⟨b, 4, none⟩ = some (.int .i64 (o 2)) ∧ w.cell? ⟨b, 5, none⟩ = some (.int .i64 (o 3)) ∧
    w.cell? ⟨b, 6, none⟩ = some (.int .i64 (o 4)) ∧ w.cell? ⟨b, 7, none⟩ = some (.int .i64 (o 5)) ∧ w.cell? ⟨b, 8, none⟩ = some (.int .i64 (o 6)) := (blk9 h).2

set_option maxRecDepth 100000 in
set_option maxHeartbeats 2000000 in
theorem act09_drop (w : World) (b r bo bt n : Nat) (h : Duo w b r bo bt n) (sl : Int) (x : Nat → Int) :
    Calls Try.prog 27 #[.pointer (some ⟨b, 0, none⟩), .pointer (some ⟨r, 0, none⟩), .agg (b9 1 sl x)] w fun e w' => e = .returned (.bool true) ∧ Duo w' b r bo bt n ∧ Chg [b, r, bo, bt] w w' := by
  obtain ⟨c, o, T, D, m, hP, hA, hR⟩ := h
  obtain ⟨q, c', o', T', D', m', hP', t1, t2⟩ := both_drop hP sl
  have hC0 := (Chg.alloc [] w (.cells (b9 1 sl x) 62)).trans (Chg.drew [] _)
  have bx : (w.alloc (.cells (b9 1 sl x) 62)).heap[w.heap.size]? = some (.cells (b9 1 sl x) 62 (0, 0)) := heap_alloc_new w _
  have bxd : (w.alloc (.cells (b9 1 sl x) 62)).drew.heap[w.heap.size]? = some (.cells (b9 1 sl x) 62 (0, 0)) := bx
  have hA0 := hA.chg hC0 (by simp)
  have hR0 := hR.chg hC0
  obtain ⟨x0, x1, x2, x3, x4, x5, x6, x7, x8⟩ := blk9 bx
  have hlt := hA.lt
  have ltr := hR.lt
  have lto := hR.os.lt
  have ltt := hR.ts.lt
  have nb : w.heap.size ∉ [b] := by simp; omega
  have nr : w.heap.size ∉ [r, bo, bt] := by simp; omega
  unfold b9 at *
  clear hA hR
  go_enter Try.func27, Try.ntmps27
  go_wp2_with fail
  go_region_held3 (fun w' => w'.cell? ⟨w.heap.size, 1, none⟩ = some (.int .i64 sl))
    (first
      | go_keep
      | (exact cut9drop (hC4.at_ bx3 nb))
      | (exact cut9drop (hC4.at_ bx3 nr))
      | (exact cut9drop bx3))
    (first
      | (go_at_call 33; (with_reducible refine (t1 _ b hA0).mono ?_); rintro e W3 ⟨rfl, hA3, hC3⟩; have bx3 := hC3.at_ bxd nb; have hR3 := hR0.chgA hA0 hC3)
      | (go_at_call 57; (with_reducible refine (t2 _ r bo bt hR0).mono ?_); rintro e W3 ⟨rfl, hR3, hC3⟩; have bx3 := hC3.at_ bxd nr; have hA3 := hA0.chgR hR0 hC3)
      | (go_at_call 57; (with_reducible refine (t2 _ r bo bt hR3).mono ?_); rintro e W4 ⟨rfl, hR4, hC4⟩; have hend : Duo W4 b r bo bt n := ⟨_, _, _, _, _, hP', hA3.chgR hR3 hC4, hR4⟩; have hCC : Chg [b, r, bo, bt] w W4 := (hC0.nil.trans (hC3.mono (by simp))).trans (hC4.mono (by simp)))
      | (go_at_call 33; (with_reducible refine (t1 _ b hA3).mono ?_); rintro e W4 ⟨rfl, hA4, hC4⟩; have hend : Duo W4 b r bo bt n := ⟨_, _, _, _, _, hP', hA4, hR3.chgA hA3 hC4⟩; have hCC : Chg [b, r, bo, bt] w W4 := (hC0.nil.trans (hC3.mono (by simp))).trans (hC4.mono (by simp))))
  all_goals
    clear hC4 hC3 hR3 hA3 hA0 hR0 t1 t2 hP hP'
    go_wp2
    go_ret
    exact ⟨by simp, hend, hCC⟩

set_option maxRecDepth 100000 in
set_option maxHeartbeats 2000000 in
theorem act09_set (w : World) (b r bo bt n : Nat) (h : Duo w b r bo bt n) (sl : Int) (x : Nat → Int) :
    Calls Try.prog 27 #[.pointer (some ⟨b, 0, none⟩), .pointer (some ⟨r, 0, none⟩), .agg (b9 2 sl x)] w fun e w' => e = .returned (.bool true) ∧ Duo w' b r bo bt n ∧ Chg [b, r, bo, bt] w w' := by
  obtain ⟨c, o, T, D, m, hP, hA, hR⟩ := h
  obtain ⟨q, c', o', T', D', m', hP', t1, t2⟩ := both_set hP sl x
  have hC0 := (Chg.alloc [] w (.cells (b9 2 sl x) 62)).trans (Chg.drew [] _)
  have bx : (w.alloc (.cells (b9 2 sl x) 62)).heap[w.heap.size]? = some (.cells (b9 2 sl x) 62 (0, 0)) := heap_alloc_new w _
  have bxd : (w.alloc (.cells (b9 2 sl x) 62)).drew.heap[w.heap.size]? = some (.cells (b9 2 sl x) 62 (0, 0)) := bx
  have hA0 := hA.chg hC0 (by simp)
  have hR0 := hR.chg hC0
  obtain ⟨x0, x1, x2, x3, x4, x5, x6, x7, x8⟩ := blk9 bx
  have hlt := hA.lt
  have ltr := hR.lt
  have lto := hR.os.lt
  have ltt := hR.ts.lt
  have nb : w.heap.size ∉ [b] := by simp; omega
  have nr : w.heap.size ∉ [r, bo, bt] := by simp; omega
  unfold oV at t1 t2
  unfold b9 at *
  clear hA hR
  go_enter Try.func27, Try.ntmps27
  go_wp2_with fail
  go_region_held3 (fun w' => w'.cell? ⟨w.heap.size, 1, none⟩ = some (.int .i64 sl) ∧ w'.cell? ⟨w.heap.size, 2, none⟩ = some (.int .i64 (x 0)) ∧ w'.cell? ⟨w.heap.size, 3, none⟩ = some (.int .i64 (x 1)) ∧ w'.cell? ⟨w.heap.size, 4, none⟩ = some (.int .i64 (x 2)) ∧ w'.cell? ⟨w.heap.size, 5, none⟩ = some (.int .i64 (x 3)) ∧ w'.cell? ⟨w.heap.size, 6, none⟩ = some (.int .i64 (x 4)) ∧ w'.cell? ⟨w.heap.size, 7, none⟩ = some (.int .i64 (x 5)) ∧ w'.cell? ⟨w.heap.size, 8, none⟩ = some (.int .i64 (x 6)))
    (first
      | go_keep
      | (exact cut9set (hC4.at_ bx3 nb))
      | (exact cut9set (hC4.at_ bx3 nr))
      | (exact cut9set bx3))
    (first
      | (go_at_call 34; (with_reducible refine (t1 _ b hA0).mono ?_); rintro e W3 ⟨rfl, hA3, hC3⟩; have bx3 := hC3.at_ bxd nb; have hR3 := hR0.chgA hA0 hC3)
      | (go_at_call 58; (with_reducible refine (t2 _ r bo bt hR0).mono ?_); rintro e W3 ⟨rfl, hR3, hC3⟩; have bx3 := hC3.at_ bxd nr; have hA3 := hA0.chgR hR0 hC3)
      | (go_at_call 58; (with_reducible refine (t2 _ r bo bt hR3).mono ?_); rintro e W4 ⟨rfl, hR4, hC4⟩; have hend : Duo W4 b r bo bt n := ⟨_, _, _, _, _, hP', hA3.chgR hR3 hC4, hR4⟩; have hCC : Chg [b, r, bo, bt] w W4 := (hC0.nil.trans (hC3.mono (by simp))).trans (hC4.mono (by simp)))
      | (go_at_call 34; (with_reducible refine (t1 _ b hA3).mono ?_); rintro e W4 ⟨rfl, hA4, hC4⟩; have hend : Duo W4 b r bo bt n := ⟨_, _, _, _, _, hP', hA4, hR3.chgA hA3 hC4⟩; have hCC : Chg [b, r, bo, bt] w W4 := (hC0.nil.trans (hC3.mono (by simp))).trans (hC4.mono (by simp))))
  all_goals
    clear hC4 hC3 hR3 hA3 hA0 hR0 t1 t2 hP hP'
    go_wp2
    go_ret
    exact ⟨by simp, hend, hCC⟩

theorem act09_any (w : World) (b r bo bt n : Nat) (h : Duo w b r bo bt n) (kd sl : Int) (x : Nat → Int) :
    Calls Try.prog 27 #[.pointer (some ⟨b, 0, none⟩), .pointer (some ⟨r, 0, none⟩), .agg (b9 kd sl x)] w fun e w' => e = .returned (.bool true) ∧ Duo w' b r bo bt n ∧ Chg [b, r, bo, bt] w w' := by
  by_cases k0 : kd = 0
  · subst k0; exact act09_take w b r bo bt n h sl x
  · by_cases k1 : kd = 1
    · subst k1; exact act09_drop w b r bo bt n h sl x
    · by_cases k2 : kd = 2
      · subst k2; exact act09_set w b r bo bt n h sl x
      · exact act09_get w b r bo bt n h kd sl x k0 k1 k2
end Go.Proofs.Ytdcjfaplgpeonaa
