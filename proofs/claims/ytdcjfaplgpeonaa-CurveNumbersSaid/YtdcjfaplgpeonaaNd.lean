/-
  The ladder: Put.
-/
import Derived.Test.YtdcjfaplgpeonaaNc
namespace Go.Proofs.Ytdcjfaplgpeonaa
open Go.RowKit Go.Dm

theorem ins_any (w : World) (D : Nat) (v : Value) (lv : List Lvl) (i : Nat) (x : Lvl) (vb : Nat) (hv : SlAt 167 4 lvE w v lv) (hne : vb ∉ ownL v) (hx : w.heap[vb]? = some (.cells (lvE x).toArray 167 (0, 0))) (hi : i ≤ lv.length) (hlen : lv.length ≤ 1000) :
    Calls Try.prog 100 #[v, .int .i64 i, .slice (some ⟨vb, 0, none⟩) 1 1] w (InsPost w D v lv i x) := by
  by_cases he : i = lv.length
  · subst he; exact ins_end w D v lv x vb hv hx hlen
  · obtain ⟨A, c, rfl, _, hA⟩ := hv.form
    obtain ⟨g, rfl⟩ := hA (by omega)
    have hg : vb ≠ g := by simpa [ownL, Value.ownBlock] using hne
    by_cases hc : lv.length + 1 ≤ c
    · exact ins_room w D g c lv i x vb hv hg hx (by omega) hc
    · exact ins_grow w D g c lv i x vb hv hg hx (by omega) (by omega) hlen

theorem blk4v {w : World} {b : Nat} {u0 u1 u2 u3 : Value} {t : TypeId} {fr : Nat × Nat} (h : w.heap[b]? = some (.cells #[u0, u1, u2, u3] t fr)) :
    w.cell? ⟨b, 0, none⟩ = some u0 ∧ w.cell? ⟨b, 1, none⟩ = some u1 ∧ w.cell? ⟨b, 2, none⟩ = some u2 ∧ w.cell? ⟨b, 3, none⟩ = some u3 := by
  simp [World.cell?, h]
def PutPost (w : World) (r : Nat) (sd : Int) (v : Value) (lv' : List Lvl) (k : Nat) (q : Nat) (e : Ending) (w' : World) : Prop :=
  ∃ v', e = .returned (.tuple #[.int .i64 q, .int .i64 0]) ∧ LdBlk w' r sd v' (ones k) ∧ SlAt 167 4 lvE w' v' lv' ∧ Chg (r :: ownL v) w w' ∧ (v'.ownBlock = v.ownBlock ∨ ∃ g, v'.ownBlock = some g ∧ w.heap.size ≤ g)

set_option maxRecDepth 100000 in
set_option maxHeartbeats 4000000 in
theorem lput_new (w : World) (r : Nat) (sd : Int) (lv : List Lvl) (v : Value) (hb : LdBlk w r sd v (ones lv.length)) (hv : SlAt 167 4 lvE w v lv) (hl : LvPr lv) (hs : lv.Pairwise (fun a b => keyS sd a.p < keyS sd b.p)) (hlen : lv.length < 60) (p q : Int) (hp : PrOk p) (hq : 1 ≤ q) (hno : ∀ x ∈ lv, x.p ≠ p) (s : List Nat) :
    Calls Try.prog 82 #[.pointer (some ⟨r, 0, none⟩), .int .i64 p, .int .i64 q] w fun e w' => ∃ i, IsPos sd lv (keyS sd p) i ∧ PutPost w r sd v (insL lv i ⟨p, q, 1, lv.length, s⟩) (lv.length + 1) lv.length e w' := by
  have hpl := place98 w r sd _ lv ⟨v, hb, hv⟩ hl hs (by omega) p hp
  obtain ⟨p0, p1⟩ := hp
  have d1 : decide (p < 1) = false := decide_eq_false (by omega)
  have d2 : decide (q < 1) = false := decide_eq_false (by omega)
  have d3 : decide ((lv.length : Int) ≥ 60) = false := decide_eq_false (by omega)
  obtain ⟨A, c, rfl, _, _⟩ := hv.form
  go_enter Try.func82, Try.ntmps82
  go_wp2_with fail
  refine hpl.mono ?_
  rintro e W ⟨⟨i, rfl, hi⟩, hC⟩
  have hat : isAt sd lv (keyS sd p) i = false := by
    unfold isAt
    cases hx : lv[i]? with
    | none => rfl
    | some x =>
      have := hno x (List.mem_of_getElem? hx)
      simp only [Option.any_some, decide_eq_false_iff_not]
      intro h
      apply this
      unfold keyS at h
      split at h <;> omega
  have HI := Lib.hid (And.intro hi hno)
  rw [hat]
  have hb1 := hC.at_ hb (by simp)
  have hv1 := hv.chg hC (by simp)
  obtain ⟨_, c1, c2, _⟩ := blk7v hb1
  clear hpl hi hat hno hb hv
  go_wp2_with fail
  go_quiet (fail)
  have hCd : Chg [] W (W.drewN nq) := Chg.drewN _ _ _
  obtain ⟨W0, hW0⟩ : ∃ W0, W0 = W.drewN nq := ⟨_, rfl⟩
  rw [← hW0] at hCd ⊢
  clear hW0
  have hC0 := hC.trans hCd
  have hb2 := hCd.at_ hb1 (by simp)
  have hv2 := hv1.chg hCd (by simp)
  have hq := queue99 W0 r sd _ lv.length hlen hb2
  clear c1 c2 hC hCd hb1 hv1
  go_wp2_with fail
  refine hq.mono ?_
  rintro e W1 ⟨rfl, hb3, hC1⟩
  have hr2 := blk_lt hb2
  have hv3 := hv2.chg hC1 (fun g hg hm => by
    have := hv2.ne hb2 (by decide) (r := r)
    simp at hm; subst hm; exact this hg)
  have hro : r ∉ ownL (.slice A lv.length c) := by
    have := hv2.ne hb2 (by decide) (r := r)
    simpa [ownL] using this
  clear hq
  obtain ⟨x, hx⟩ : ∃ x : Lvl, x = ⟨p, q, 1, lv.length, s⟩ := ⟨_, rfl⟩
  have hA := Chg.alloc [] W1 (.cells #[.int .i64 p, .int .i64 q, .int .i64 1, .int .i64 (lv.length : Nat)] 167)
  have hx0 := heap_alloc_new W1 (.cells #[.int .i64 p, .int .i64 q, .int .i64 1, .int .i64 (lv.length : Nat)] 167)
  have hb4 := hA.at_ hb3 (by simp)
  have hv4 := hv3.chg hA (by simp)
  obtain ⟨W2, hW2⟩ : ∃ W2, W2 = W1.alloc (.cells #[.int .i64 p, .int .i64 q, .int .i64 1, .int .i64 (lv.length : Nat)] 167) := ⟨_, rfl⟩
  have hz2 : W2.heap.size = W1.heap.size + 1 := by rw [hW2]; simp
  obtain ⟨_, _, y2, _⟩ := blk7v hb4
  obtain ⟨x0, x1, x2, x3⟩ := blk4v hx0
  go_wp2_with fail
  rw [← hW2] at hA hx0 hb4 hv4 y2 x0 x1 x2 x3 ⊢
  clear hW2
  refine wp_cutR (Chg (ownL (.slice A lv.length c)) W2) 9 (by kernel_rfl) (by kernel_rfl) (fun _ h => Chg.nil h) (fun W hW hS => ?_)
  simp only [List.take_succ_cons, List.take_zero, List.drop_succ_cons, List.drop_zero]
  have hv5 := hv4.chg hW (by simp)
  have hW1sz : W1.heap.size < W2.heap.size := by omega
  have x1n : W1.heap.size ∉ ownL (.slice A lv.length c) := by
    intro hm
    have := hv3.lt (g := W1.heap.size) (by simpa [ownL] using hm)
    omega
  have HA := Lib.hid (And.intro hA (And.intro hW (And.intro hv5 hx)))
  clear hA hW hv5 hx hx0
  refine takeH 0 (v := ?vv99) rfl (by kernel_rfl) (by kernel_rfl) (by kernel_rfl) (fun _ _ _ h => h) (by kernel_rfl) (fun Wx hSx => ?hy99) (by assumption) ?hrest99
  case hy99 => go_simp; (try with_reducible rfl)
  simp only [Act.put, List.setIfInBounds_toArray]
  refine takeH 1 (v := ?vv102) rfl (by kernel_rfl) (by kernel_rfl) (by kernel_rfl) (fun _ _ _ h => h) (by kernel_rfl) (fun Wx hSx => ?hy102) (by assumption) ?hrest102
  case hy102 => go_simp; (try with_reducible rfl)
  simp only [Act.put]
  refine takeH 2 (v := ?vv105) rfl (by kernel_rfl) (by kernel_rfl) (by kernel_rfl) (fun _ _ _ h => h) (by kernel_rfl) (fun Wx hSx => ?hy105) (by assumption) ?hrest105
  case hy105 => go_simp; (try with_reducible rfl)
  simp only [Act.put]
  refine takeH 3 (v := ?vv108) rfl (by kernel_rfl) (by kernel_rfl) (by kernel_rfl) (fun _ _ _ h => h) (by kernel_rfl) (fun Wx hSx => ?hy108) (by assumption) ?hrest108
  case hy108 => go_simp; (try with_reducible rfl)
  simp only [Act.put]
  refine takeH 4 (v := ?vv111) rfl (by kernel_rfl) (by kernel_rfl) (by kernel_rfl) (fun _ _ _ h => h) (by kernel_rfl) (fun Wx hSx => ?hy111) (by assumption) ?hrest111
  case hy111 => have q0 := hSx.cell y2 hro; go_simp; (try with_reducible rfl)
  simp only [Act.put]
  refine takeH 5 (v := ?vv114) rfl (by kernel_rfl) (by kernel_rfl) (by kernel_rfl) (fun _ _ _ h => h) (by kernel_rfl) (fun Wx hSx => ?hy114) (by assumption) ?hrest114
  case hy114 => go_simp; (try with_reducible rfl)
  simp only [Act.put]
  refine takeH 6 (v := ?vv117) rfl (by kernel_rfl) (by kernel_rfl) (by kernel_rfl) (fun _ _ _ h => h) (by kernel_rfl) (fun Wx hSx => ?hy117) (by assumption) ?hrest117
  case hy117 => have q0 := hSx.cell x0 x1n; have q1 := hSx.cell x1 x1n; have q2 := hSx.cell x2 x1n; have q3 := hSx.cell x3 x1n; go_simp; (try with_reducible rfl)
  simp only [Act.put]
  have hB := Chg.alloc [] W (.cells #[.int .i64 p, .int .i64 q, .int .i64 1, .int .i64 (lv.length : Nat)] 167)
  have hB0 := heap_alloc_new W (.cells #[.int .i64 p, .int .i64 q, .int .i64 1, .int .i64 (lv.length : Nat)] 167)
  obtain ⟨W3, hW3⟩ : ∃ W3, W3 = W.alloc (.cells #[.int .i64 p, .int .i64 q, .int .i64 1, .int .i64 (lv.length : Nat)] 167) := ⟨_, rfl⟩
  rw [← hW3] at hB hB0
  have HB := Lib.hid (And.intro hB hB0)
  have HE := Lib.hid hW3
  clear hB hB0 hW3
  refine wpAnyH_ready (rs := [7]) (by kernel_rfl) (by simp) ?_
  refine (AllReadyH.cons rfl (fun K hK => ?_) AllReadyH.nil)
  all_goals try simp only [List.getElem_toArray, List.getElem_cons_succ, List.getElem_cons_zero]
  go_simp
  refine hK.out _ _ (hS.trans (Chg.alloc _ W _)) (fun hHeld => ?_)
  clear hK K
  try simp only [Act.put, List.getElem_toArray, List.getElem_cons_succ, List.getElem_cons_zero, List.setIfInBounds_toArray, List.set_cons_zero, List.set_cons_succ]
  rw [← HE.out] at hHeld ⊢
  have hin := ins_any W3 0 (.slice A lv.length c) lv i x W.heap.size (HA.out.2.2.1.chg HB.out.1 (by simp)) (fun hm => by
    have := HA.out.2.2.1.lt (g := W.heap.size) (by simpa [ownL] using hm)
    omega) (by rw [HA.out.2.2.2]; exact HB.out.2) HI.out.1.1 (by omega)
  refine wpAnyH_ready (rs := [8]) (by kernel_rfl) (by simp) ?_
  refine (AllReadyH.cons rfl (fun K hK => ?_) AllReadyH.nil)
  all_goals try simp only [List.getElem_toArray, List.getElem_cons_succ, List.getElem_cons_zero]
  go_simp
  refine hin.mono ?_
  rintro e W4 ⟨v', rfl, hs', hC4, ho'⟩
  obtain ⟨A', c', rfl, _, _⟩ := hs'.form
  go_simp
  refine hK.out _ _ (hHeld.trans hC4) (fun hHeld => ?_)
  clear hK K
  try simp only [Act.put, List.getElem_toArray, List.getElem_cons_succ, List.getElem_cons_zero, List.setIfInBounds_toArray, List.set_cons_zero, List.set_cons_succ]
  refine wpAnyH_done (by kernel_rfl) ?_ _
  simp only [cutQ]
  have hro4 : LdBlk W4 r sd (.slice A lv.length c) (ones (lv.length + 1)) := hC4.at_ (HB.out.1.at_ (HA.out.2.1.at_ hb4 (by simp)) (by simp)) hro
  obtain ⟨z0, z1, z2, _⟩ := blk7v hro4
  have fz : W4.frozen? ⟨r, 2, none⟩ = false := by simp [World.frozen?, show W4.heap[r]? = _ from hro4]
  have lz := blk_lt (show W4.heap[r]? = _ from hro4)
  have x1n3 : W1.heap.size < W3.heap.size := by have := HB.out.1.size; have := HA.out.2.1.size; omega
  have w3 := hC4.cell (HB.out.1.cell (HA.out.2.1.cell x3 (by simp)) (by simp)) x1n
  have hrn : r ≠ W1.heap.size := by have := hC1.size; omega
  have hrn2 : W1.heap.size ≠ r := fun h => hrn h.symm
  have hall : Chg (r :: ownL (.slice A lv.length c)) w W4 := by
    have t1 : Chg (r :: ownL (.slice A lv.length c)) w W1 := hC0.nil.trans (hC1.mono (by simp))
    have t2 : Chg (r :: ownL (.slice A lv.length c)) W1 W3 := (HA.out.1.trans (HA.out.2.1.trans HB.out.1)).nil
    exact (t1.trans t2).trans (hC4.mono (fun k hk => .inl (List.mem_cons_of_mem _ hk)))
  have hown' : (Value.slice A' (insL lv i x).length c').ownBlock = (Value.slice A lv.length c).ownBlock ∨ ∃ g, (Value.slice A' (insL lv i x).length c').ownBlock = some g ∧ w.heap.size ≤ g ∧ g ≠ r := by
    rcases ho' with h | ⟨g, h, hg⟩
    · exact .inl h
    · refine .inr ⟨g, h, ?_, ?_⟩
      · have := hC0.size; have := hC1.size; have := x1n3; omega
      · have := hC1.size; omega
  have hsl : SlAt 167 4 lvE (W4.setCell ⟨r, 2, none⟩ (.slice A' (insL lv i x).length c')) (.slice A' (insL lv i x).length c') (insL lv i x) := hs'.chg (Chg.setCell (S := [r]) W4 _ _ (by simp)) (fun g hg hm => by
    simp at hm
    subst hm
    rcases hown' with h | ⟨g', h, _, hne⟩
    · rw [h] at hg; exact hro (by simp [ownL, hg])
    · rw [h] at hg; cases hg; exact hne rfl)
  have HZ := Lib.hid (And.intro hall (And.intro hown' (And.intro hsl (And.intro hro4 HA.out.2.2.2))))
  clear hall hown' hsl hro4 ho' hs' hC4 hin hHeld hS hro x1n HA HB HE hb4 hv4 hv3 hb3 hb2 hv2 hC1 hC0 y2 x0 x1 x2 x3 hl hs hq
  go_wp2
  go_ret2
  obtain ⟨h1, h2, h3, h4, h5⟩ := HZ.out
  subst h5
  refine ⟨i, HI.out.1, _, rfl, ?_, h3, h1.trans (Chg.setCell W4 _ _ (by simp)), h2.imp id (fun ⟨g, ha, hb, _⟩ => ⟨g, ha, hb⟩)⟩
  unfold LdBlk
  rw [blk_set h4]
  simp

/-- A level with more in it. -/
def more (x : Lvl) (q : Int) (s : List Nat) : Lvl := ⟨x.p, x.q + q, wrap64 (x.n + 1), x.u, s⟩
theorem lv_set {w : World} {g c n : Nat} {lv : List Lvl} (h : SlAt 167 4 lvE w (.slice (some ⟨g, 0, none⟩) n c) lv) {i : Nat} {x : Lvl} (hx : lv[i]? = some x) (y : Lvl) (hy : y.p = x.p) (hu : y.u = x.u) :
    SlAt 167 4 lvE ((w.setCell ⟨g, i * 4 + 1, none⟩ (.int .i64 y.q)).setCell ⟨g, i * 4 + 2, none⟩ (.int .i64 y.n)) (.slice (some ⟨g, 0, none⟩) n c) (lv.set i y) := by
  obtain ⟨cur, hg, hn, hc, hm, hs, ht⟩ := h.row
  have hi : i < lv.length := (List.getElem?_eq_some_iff.1 hx).1
  refine SlAt.mk lvR (blk_set (blk_set hg _ _) _ _) (by simpa using hn) (by simpa using hc) hm (by simpa using hs) ?_
  apply List.ext_getElem?
  intro j
  have hF := flat_len lvR (lv.set i y)
  have hF0 := flat_len lvR lv
  rw [List.length_set] at hF
  by_cases hj : j < lv.length * 4
  · rw [List.getElem?_take, List.length_set, if_pos hj]
    have hjm : j = (j / 4) * 4 + j % 4 := by omega
    have hj4 : j % 4 < 4 := Nat.mod_lt _ (by omega)
    have hjd : j / 4 < lv.length := by omega
    have hcur : cur.toList[j]? = (lv.flatMap lvE)[j]? := by rw [← ht, List.getElem?_take, if_pos hj]
    by_cases he : j / 4 = i
    · have hset : (lv.set i y)[j / 4]? = some y := by rw [he]; simp [hi]
      have h1 := flat_get lvR (lv.set i y) (j / 4) (j % 4) y hset hj4
      have h2 := flat_get lvR lv (j / 4) (j % 4) x (by rw [he]; exact hx) hj4
      rw [← hjm] at h1 h2
      rw [h1]
      rw [h2] at hcur
      have hsz : j < cur.size := by have : lv.length * 4 ≤ cur.size := by omega
                                    omega
      simp only [Array.toList_setIfInBounds]
      rw [List.getElem?_set, List.getElem?_set]
      have h4 : j % 4 = 0 ∨ j % 4 = 1 ∨ j % 4 = 2 ∨ j % 4 = 3 := by omega
      rcases h4 with h4 | h4 | h4 | h4
      · rw [if_neg (by omega), if_neg (by omega), hcur, h4]; simp [lvE, hy]
      · have h5 : i * 4 + 1 = j := by omega
        rw [if_neg (by omega), h5, if_pos rfl, if_pos (by simpa using hsz), h4]; simp [lvE]
      · have h5 : i * 4 + 2 = j := by omega
        rw [h5, if_pos rfl, if_pos (by simpa using hsz), h4]; simp [lvE]
      · rw [if_neg (by omega), if_neg (by omega), hcur, h4]; simp [lvE, hu]
    · obtain ⟨z, hz⟩ : ∃ z, lv[j / 4]? = some z := ⟨lv[j / 4], by simp [hjd]⟩
      have h1 := flat_get lvR (lv.set i y) (j / 4) (j % 4) z (by rw [List.getElem?_set_ne (fun h => he h.symm)]; exact hz) hj4
      have h2 := flat_get lvR lv (j / 4) (j % 4) z hz hj4
      rw [← hjm] at h1 h2
      rw [h1, ← h2, ← hcur]
      simp only [Array.toList_setIfInBounds]
      rw [List.getElem?_set, List.getElem?_set, if_neg (by omega), if_neg (by omega)]
  · rw [List.getElem?_eq_none (by simp; omega), List.getElem?_eq_none (by rw [hF]; omega)]

set_option maxRecDepth 100000 in
set_option maxHeartbeats 4000000 in
theorem lput_old (w : World) (r : Nat) (sd : Int) (lv : List Lvl) (v : Value) (hb : LdBlk w r sd v (ones lv.length)) (hv : SlAt 167 4 lvE w v lv) (hl : LvPr lv) (hs : lv.Pairwise (fun a b => keyS sd a.p < keyS sd b.p)) (hlen : lv.length < 60) (q : Int) (hq : 1 ≤ q) (hq2 : q ≤ 1000000000000) (j : Nat) (x : Lvl) (hx : lv[j]? = some x) (hx0 : 0 ≤ x.q) (hx1 : x.q ≤ 1000000000000) (s : List Nat) :
    Calls Try.prog 82 #[.pointer (some ⟨r, 0, none⟩), .int .i64 x.p, .int .i64 q] w (PutPost w r sd v (lv.set j (more x q s)) lv.length x.u) := by
  have hp : PrOk x.p := hl x (List.mem_of_getElem? hx)
  have hpl := place98 w r sd _ lv ⟨v, hb, hv⟩ hl hs (by omega) x.p hp
  obtain ⟨p0, p1⟩ := hp
  have d1 : decide (x.p < 1) = false := decide_eq_false (by omega)
  have d2 : decide (q < 1) = false := decide_eq_false (by omega)
  have hj : j < lv.length := (List.getElem?_eq_some_iff.1 hx).1
  obtain ⟨A, c, rfl, _, hA⟩ := hv.form
  obtain ⟨g, rfl⟩ := hA (by omega)
  go_enter Try.func82, Try.ntmps82
  go_wp2_with fail
  refine hpl.mono ?_
  rintro e W ⟨⟨i, rfl, hi⟩, hC⟩
  have hij : i = j := by
    rcases Nat.lt_trichotomy i j with h | h | h
    · exfalso
      have hil : i < lv.length := by omega
      have h1 := hi.2.2 i (lv[i]) (by simp [hil]) (Nat.le_refl _)
      have h2 := List.pairwise_iff_getElem.1 hs i j hil hj h
      rw [(List.getElem?_eq_some_iff.1 hx).2] at h2
      omega
    · exact h
    · exfalso
      have := hi.2.1 j x hx h
      omega
  subst hij
  have hat : isAt sd lv (keyS sd x.p) i = true := by simp [isAt, hx]
  rw [hat]
  have hb1 := hC.at_ hb (by simp)
  have hv1 := hv.chg hC (by simp)
  obtain ⟨_, _, c2, _⟩ := blk7v hb1
  obtain ⟨e0, e1, e2, e3⟩ := lvs_at hv1 hx
  have f1 := hv1.free (i * 4 + 1)
  have f2 := hv1.free (i * 4 + 2)
  have hgl := hv1.lt (g := g) rfl
  have i0 : (0 : Int) ≤ (i : Int) := Int.natCast_nonneg _
  have i1 : (i : Int) < (lv.length : Int) := by omega
  have hfa := fadd101 W x.q q hx0 (by omega) hx1 hq2
  have hrg : r ≠ g := by
    have := hv1.ne hb1 (by decide) (r := r)
    intro e; subst e; exact this rfl
  have hset := lv_set hv1 hx (more x q s) rfl rfl
  have hC2 : Chg (r :: ownL (.slice (some ⟨g, 0, none⟩) lv.length c)) w ((W.setCell ⟨g, i * 4 + 1, none⟩ (.int .i64 (more x q s).q)).setCell ⟨g, i * 4 + 2, none⟩ (.int .i64 (more x q s).n)) :=
    hC.nil.trans ((Chg.setCell W _ _ (by simp [ownL, Value.ownBlock])).trans (Chg.setCell _ _ _ (by simp [ownL, Value.ownBlock])))
  have hbf : LdBlk ((W.setCell ⟨g, i * 4 + 1, none⟩ (.int .i64 (more x q s).q)).setCell ⟨g, i * 4 + 2, none⟩ (.int .i64 (more x q s).n)) r sd (.slice (some ⟨g, 0, none⟩) lv.length c) (ones lv.length) :=
    ((Chg.setCell (S := [g]) W ⟨g, i * 4 + 1, none⟩ _ (by simp)).trans (Chg.setCell _ ⟨g, i * 4 + 2, none⟩ _ (by simp))).at_ hb1 (by simp [hrg])
  have HZ := Lib.hid (And.intro hset (And.intro hC2 hbf))
  unfold more at HZ
  clear hpl hi hat hb hv hs hl hset hC2 hbf hb1 hv1 hx hC
  go_wp2_with fail
  refine hfa.mono ?_
  clear hfa
  rintro e w' ⟨rfl, rfl⟩
  go_wp2
  go_ret2
  exact ⟨_, rfl, HZ.out.2.2, HZ.out.1, HZ.out.2.1, .inl rfl⟩
end Go.Proofs.Ytdcjfaplgpeonaa
