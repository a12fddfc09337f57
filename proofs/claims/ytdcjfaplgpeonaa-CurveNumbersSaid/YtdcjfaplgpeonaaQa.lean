/-
  The program's book: Add, an order that is refused; Add.
-/
import Derived.Test.YtdcjfaplgpeonaaQ9
namespace Go.Proofs.Ytdcjfaplgpeonaa
open Go.RowKit Go.Dm

set_option maxRecDepth 100000 in
set_option maxHeartbeats 4000000 in
theorem badd_side (w : World) (b : Nat) (o : Ord) (h0 : o 2 ≠ 0) (h1 : o 2 ≠ 1) :
    Calls Try.prog 66 #[.pointer (some ⟨b, 0, none⟩), oV o] w fun e w' => e = .returned (.int .i64 1) ∧ Chg [] w w' := by
  have hA0 := Chg.alloc [] w (.cells #[.int .i64 (o 0), .int .i64 (o 1), .int .i64 (o 2), .int .i64 (o 3), .int .i64 (o 4), .int .i64 (o 5), .int .i64 (o 6)] 52)
  obtain ⟨W0, hW0⟩ : ∃ W0, W0 = w.alloc (.cells #[.int .i64 (o 0), .int .i64 (o 1), .int .i64 (o 2), .int .i64 (o 3), .int .i64 (o 4), .int .i64 (o 5), .int .i64 (o 6)] 52) := ⟨_, rfl⟩
  have hof1 := of79_no W0 b (o 2) h0 h1
  rw [← hW0] at hA0
  unfold oV
  clear h0 h1
  go_enter Try.func66, Try.ntmps66
  go_wp2_with fail
  rw [← hW0]
  refine hof1.mono ?_
  rintro e w' ⟨rfl, rfl⟩
  clear hof1
  go_wp2
  go_ret
  rw [← hW0]
  exact ⟨rfl, hA0⟩

set_option maxRecDepth 100000 in
set_option maxHeartbeats 4000000 in
theorem badd_range (w : World) (b off : Nat) (sd : Int) (hof : OfIs b off sd) (o : Ord) (ho : o 2 = sd) (hrg : (o 3 < 1 ∨ o 3 > 1099511627776) ∨ (o 4 < 1 ∨ o 4 > 4294967296)) :
    Calls Try.prog 66 #[.pointer (some ⟨b, 0, none⟩), oV o] w fun e w' => e = .returned (.int .i64 9) ∧ Chg [] w w' := by
  have hA0 := Chg.alloc [] w (.cells #[.int .i64 (o 0), .int .i64 (o 1), .int .i64 (o 2), .int .i64 (o 3), .int .i64 (o 4), .int .i64 (o 5), .int .i64 (o 6)] 52)
  have bx0 : (w.alloc (.cells #[.int .i64 (o 0), .int .i64 (o 1), .int .i64 (o 2), .int .i64 (o 3), .int .i64 (o 4), .int .i64 (o 5), .int .i64 (o 6)] 52)).heap[w.heap.size]? = some (.cells (oCs o) 52 (0, 0)) := heap_alloc_new w _
  obtain ⟨W0, hW0⟩ : ∃ W0, W0 = w.alloc (.cells #[.int .i64 (o 0), .int .i64 (o 1), .int .i64 (o 2), .int .i64 (o 3), .int .i64 (o 4), .int .i64 (o 5), .int .i64 (o 6)] 52) := ⟨_, rfl⟩
  have hof1 := hof W0
  rw [← ho] at hof1
  rw [← hW0] at hA0 bx0
  obtain ⟨x0, x1, x2, x3, x4, x5, x6⟩ := blk7 (o := o) bx0
  unfold oV
  have fin : ∃ p1 p2 p3 p4 : Bool, decide (o 3 < 1) = p1 ∧ decide (o 3 > 1099511627776) = p2 ∧ decide (o 4 < 1) = p3 ∧ decide (o 4 > 4294967296) = p4 ∧ (p1 || p2 || p3 || p4) = true := ⟨_, _, _, _, rfl, rfl, rfl, rfl, by simp; omega⟩
  obtain ⟨p1, p2, p3, p4, h1, h2, h3, h4, hp⟩ := fin
  clear hrg ho
  cases p1 <;> cases p2 <;> cases p3 <;> cases p4 <;> first | (exact absurd hp (by decide)) | skip
  all_goals
    clear hp
    go_enter Try.func66, Try.ntmps66
    go_wp2_with fail
    rw [← hW0]
    refine hof1.mono ?_
    rintro e w' ⟨rfl, rfl⟩
    clear hof1
    go_wp2
    go_ret
    rw [← hW0]
    exact ⟨rfl, hA0⟩

set_option maxRecDepth 100000 in
set_option maxHeartbeats 4000000 in
theorem badd_twice (w : World) (b off ar x m1 m2 : Nat) (S : Sdb) (sd : Int) (hB : BC w b off ar x S) (hof : OfIs b off sd) (il : IL) (hX : XAt w x m1 m2 il) (o : Ord) (ho : o 2 = sd) (hok : okO o = true) (hid : (mLook il (0, o 0)).isSome = true) :
    Calls Try.prog 66 #[.pointer (some ⟨b, 0, none⟩), oV o] w fun e w' => e = .returned (.int .i64 6) ∧ Chg [] w w' := by
  have hA0 := Chg.alloc [] w (.cells #[.int .i64 (o 0), .int .i64 (o 1), .int .i64 (o 2), .int .i64 (o 3), .int .i64 (o 4), .int .i64 (o 5), .int .i64 (o 6)] 52)
  have bx0 : (w.alloc (.cells #[.int .i64 (o 0), .int .i64 (o 1), .int .i64 (o 2), .int .i64 (o 3), .int .i64 (o 4), .int .i64 (o 5), .int .i64 (o 6)] 52)).heap[w.heap.size]? = some (.cells (oCs o) 52 (0, 0)) := heap_alloc_new w _
  obtain ⟨W0, hW0⟩ : ∃ W0, W0 = w.alloc (.cells #[.int .i64 (o 0), .int .i64 (o 1), .int .i64 (o 2), .int .i64 (o 3), .int .i64 (o 4), .int .i64 (o 5), .int .i64 (o 6)] 52) := ⟨_, rfl⟩
  rw [← hW0] at hA0 bx0
  have hok2 := hok
  simp only [okO, Bool.and_eq_true, decide_eq_true_eq] at hok2
  obtain ⟨_, ⟨⟨hp1, hp2⟩, hq1⟩, hq2⟩ := hok2
  have g1 : decide (o 3 < 1) = false := decide_eq_false (by omega)
  have g2 : decide (o 3 > 1099511627776) = false := decide_eq_false (by omega)
  have g3 : decide (o 4 < 1) = false := decide_eq_false (by omega)
  have g4 : decide (o 4 > 4294967296) = false := decide_eq_false (by omega)
  have hof1 := hof W0
  rw [← ho] at hof1
  unfold oV
  have B0 := hB.chg hA0 (by simp)
  have X0 := hX.chg hA0 (by simp) (by simp) (by simp)
  obtain ⟨x0, x1, x2, x3, x4, x5, x6⟩ := blk7 (o := o) bx0
  have HI := Lib.hid hid
  clear ho hok hid hB hX hq1 hq2 hp1 hp2
  go_enter Try.func66, Try.ntmps66
  go_wp2_with fail
  rw [← hW0]
  refine hof1.mono ?_
  rintro e w' ⟨rfl, rfl⟩
  clear hof1
  go_wp2_with fail
  have hx5 := B0.c5
  rw [← hW0]
  refine wp_cutR (Chg [] W0) 12 (by kernel_rfl) (by kernel_rfl) (fun _ h => Chg.nil h) (fun W hW hS => ?_)
  simp only [List.take_succ_cons, List.take_zero, List.drop_succ_cons, List.drop_zero]
  have HW := Lib.hid hW
  clear hW
  refine takeH 0 (v := ?vv93) rfl (by kernel_rfl) (by kernel_rfl) (by kernel_rfl) (fun _ _ _ h => h) (by kernel_rfl) (fun Wx hSx => ?hy93) (by assumption) ?hrest93
  case hy93 => go_simp; (try with_reducible rfl)
  simp only [Act.put, List.setIfInBounds_toArray]
  refine takeH 1 (v := ?vv96) rfl (by kernel_rfl) (by kernel_rfl) (by kernel_rfl) (fun _ _ _ h => h) (by kernel_rfl) (fun Wx hSx => ?hy96) (by assumption) ?hrest96
  case hy96 => go_simp; (try with_reducible rfl)
  simp only [Act.put]
  refine takeH 2 (v := ?vv99) rfl (by kernel_rfl) (by kernel_rfl) (by kernel_rfl) (fun _ _ _ h => h) (by kernel_rfl) (fun Wx hSx => ?hy99) (by assumption) ?hrest99
  case hy99 => go_simp; (try with_reducible rfl)
  simp only [Act.put]
  refine takeH 3 (v := ?vv102) rfl (by kernel_rfl) (by kernel_rfl) (by kernel_rfl) (fun _ _ _ h => h) (by kernel_rfl) (fun Wx hSx => ?hy102) (by assumption) ?hrest102
  case hy102 => have q0 := hSx.cell hx5 (by simp); go_simp; (try with_reducible rfl)
  simp only [Act.put]
  refine takeH 4 (v := ?vv105) rfl (by kernel_rfl) (by kernel_rfl) (by kernel_rfl) (fun _ _ _ h => h) (by kernel_rfl) (fun Wx hSx => ?hy105) (by assumption) ?hrest105
  case hy105 => go_simp; (try with_reducible rfl)
  simp only [Act.put]
  refine takeH 5 (v := ?vv108) rfl (by kernel_rfl) (by kernel_rfl) (by kernel_rfl) (fun _ _ _ h => h) (by kernel_rfl) (fun Wx hSx => ?hy108) (by assumption) ?hrest108
  case hy108 => have q0 := hSx.cell x0 (by simp); go_simp; (try with_reducible rfl)
  simp only [Act.put]
  refine wpAnyH_ready (rs := [6]) (by kernel_rfl) (by simp) ?_
  refine (AllReadyH.cons rfl (fun K hK => ?_) AllReadyH.nil)
  all_goals try simp only [List.getElem_toArray, List.getElem_cons_succ, List.getElem_cons_zero]
  go_simp
  refine (key80 _ _).mono ?_
  rintro e W1 ⟨rfl, hC1⟩
  go_simp
  refine hK.out _ _ (hS.trans hC1) (fun hHeld => ?_)
  clear hK K
  try simp only [Act.put, List.getElem_toArray, List.getElem_cons_succ, List.getElem_cons_zero, List.setIfInBounds_toArray, List.set_cons_zero, List.set_cons_succ]
  have hg := get_any W1 x m1 m2 il (X0.chg hHeld (by simp) (by simp) (by simp)) 0 (o 0)
  rw [HI.out] at hg
  refine wpAnyH_ready (rs := [7]) (by kernel_rfl) (by simp) ?_
  refine (AllReadyH.cons rfl (fun K hK => ?_) AllReadyH.nil)
  all_goals try simp only [List.getElem_toArray, List.getElem_cons_succ, List.getElem_cons_zero]
  go_simp
  refine hg.mono ?_
  rintro e W2 ⟨rfl, hC2⟩
  go_simp
  refine hK.out _ _ (hHeld.trans hC2) (fun hHeld => ?_)
  clear hK K
  try simp only [Act.put, List.getElem_toArray, List.getElem_cons_succ, List.getElem_cons_zero, List.setIfInBounds_toArray, List.set_cons_zero, List.set_cons_succ]
  clear hC2 hg hC1 hS HW
  refine takeH 8 (v := ?vv134) rfl (by kernel_rfl) (by kernel_rfl) (by kernel_rfl) (fun _ _ _ h => h) (by kernel_rfl) (fun Wx hSx => ?hy134) (by assumption) ?hrest134
  case hy134 => go_simp; (try with_reducible rfl)
  simp only [Act.put, List.setIfInBounds_toArray]
  refine takeH 9 (v := ?vv137) rfl (by kernel_rfl) (by kernel_rfl) (by kernel_rfl) (fun _ _ _ h => h) (by kernel_rfl) (fun Wx hSx => ?hy137) (by assumption) ?hrest137
  case hy137 => go_simp; (try with_reducible rfl)
  simp only [Act.put]
  refine takeH 10 (v := ?vv140) rfl (by kernel_rfl) (by kernel_rfl) (by kernel_rfl) (fun _ _ _ h => h) (by kernel_rfl) (fun Wx hSx => ?hy140) (by assumption) ?hrest140
  case hy140 => go_simp; (try with_reducible rfl)
  simp only [Act.put]
  refine takeH 11 (v := ?vv143) rfl (by kernel_rfl) (by kernel_rfl) (by kernel_rfl) (fun _ _ _ h => h) (by kernel_rfl) (fun Wx hSx => ?hy143) (by assumption) ?hrest143
  case hy143 => go_simp; (try with_reducible rfl)
  simp only [Act.put]
  refine wpAnyH_done (by kernel_rfl) ?_ _
  simp only [cutQ]
  have hA2 := hA0.trans hHeld
  clear B0 X0 bx0 hA0 hHeld x0 x1 x2 x3 x4 x5 x6 hx5
  go_wp2
  go_ret
  exact ⟨rfl, hA2⟩

theorem PB.apart {w : World} {D : Nat} {B : Bkb} {L : List Ord} {lv0 lv1 : List Lvl} {v0 v1 : Value} (h : PB w D B L lv0 lv1 v0 v1) {w' : World} (hC : Chg [] w w') : PB w' D B L lv0 lv1 v0 v1 := by
  obtain ⟨c, ha, hh⟩ := h.ar
  obtain ⟨il, hx, hi, hl⟩ := h.ix
  exact ⟨hC.at_ h.blk (by simp), ⟨c, ha.chg hC (by simp), hh⟩, ⟨il, hx.chg hC (by simp) (by simp) (by simp), hi, hl⟩, h.s0.chg hC (by simp) (by simp) (by simp) (by simp) (by simp), h.s1.chg hC (by simp) (by simp) (by simp) (by simp) (by simp),
    h.al, h.aq, h.an, h.ae, h.av, h.db, h.da, h.dx, h.d1, h.d2⟩
theorem PB.bc0 {w : World} {D : Nat} {B : Bkb} {L : List Ord} {lv0 lv1 : List Lvl} {v0 v1 : Value} (h : PB w D B L lv0 lv1 v0 v1) : BC w B.b 1 B.ar B.x B.s0 := by
  obtain ⟨c0, c1, c2, c3, c4, c5⟩ := blk6 h.blk
  exact ⟨⟨_, h.blk⟩, c0, c5, c1, c2⟩
theorem PB.bc1 {w : World} {D : Nat} {B : Bkb} {L : List Ord} {lv0 lv1 : List Lvl} {v0 v1 : Value} (h : PB w D B L lv0 lv1 v0 v1) : BC w B.b 3 B.ar B.x B.s1 := by
  obtain ⟨c0, c1, c2, c3, c4, c5⟩ := blk6 h.blk
  exact ⟨⟨_, h.blk⟩, c0, c5, c3, c4⟩
end Go.Proofs.Ytdcjfaplgpeonaa

/-
  The program's book: Add, whatever the order; a new book.
-/
namespace Go.Proofs.Ytdcjfaplgpeonaa
open Go.RowKit Go.Dm

theorem other_side {w w' : World} {D ar m1 m2 : Nat} {S S' : Sdb} {sd' : Int} {L : List Ord} {lv : List Lvl} {v v' : Value} {o : Ord} (h : SdAt w D sd' S' L lv v') (hC : Chg (ar :: m1 :: m2 :: S.l :: S.n :: S.e :: ownL v) w w')
    (Ka : KindIs w ar 115) (K1 : MapIs w m1) (K2 : MapIs w m2) (Kl : KindIs w S.l 179) (Kn : KindIs w S.n 185) (Ke : KindIs w S.e 188) (Kv : ∀ k ∈ ownL v, KindIs w k 167)
    (al : S'.l ≠ S.l) (an : S'.n ≠ S.n) (ae : S'.e ≠ S.e) (av : ∀ g, v'.ownBlock = some g → v.ownBlock ≠ some g) (ho : o 2 ≠ sd') : SdAt w' D sd' S' (L ++ [o]) lv v' := by
  obtain ⟨nf, ef, hf, hq⟩ := h.ff
  have L1 : KindIs w S'.l 179 := ⟨_, h.ld⟩
  have L2 : KindIs w S'.q 183 := ⟨_, hf.blk⟩
  have L3 := hf.nds.kind
  have L4 := hf.eds.kind
  have own : ∀ {z t : Nat}, KindIs w z t → t ≠ 167 → z ∉ ownL v := fun hz ht hm => hz.ne (Kv _ hm) ht rfl
  have h2 := h.chg hC (by simpa using ⟨L1.ne Ka (by decide), L1.ne' K1, L1.ne' K2, al, L1.ne Kn (by decide), L1.ne Ke (by decide), own L1 (by decide)⟩)
    (by simpa using ⟨L2.ne Ka (by decide), L2.ne' K1, L2.ne' K2, L2.ne Kl (by decide), L2.ne Kn (by decide), L2.ne Ke (by decide), own L2 (by decide)⟩)
    (by simpa using ⟨L3.ne Ka (by decide), L3.ne' K1, L3.ne' K2, L3.ne Kl (by decide), an, L3.ne Ke (by decide), own L3 (by decide)⟩)
    (by simpa using ⟨L4.ne Ka (by decide), L4.ne' K1, L4.ne' K2, L4.ne Kl (by decide), L4.ne Kn (by decide), ae, own L4 (by decide)⟩)
    (fun g hg => by
      have Lg := h.sl.kind hg
      have hn : g ∉ ownL v := fun hm => av g hg (by simpa [ownL] using hm)
      simpa using ⟨Lg.ne Ka (by decide), Lg.ne' K1, Lg.ne' K2, Lg.ne Kl (by decide), Lg.ne Kn (by decide), Lg.ne Ke (by decide), hn⟩)
  obtain ⟨nf2, ef2, hf2, hq2⟩ := h2.ff
  exact ⟨h2.ld, h2.sl, h2.fr, ⟨nf2, ef2, hf2, by rw [List.length_append]; exact qs_other hq2⟩, ok_other h2.ok ho, h2.dl, h2.dq, h2.dn, h2.de⟩

/-- What Add may touch: blocks of the book, none of them the reference's. -/
def Touch (D : Nat) (w w' : World) : Prop := ∃ T, Chg T w w' ∧ ∀ k ∈ T, D ≤ k ∧ k < w.heap.size ∧ ¬ KindIs w k 52 ∧ ¬ KindIs w k 127
theorem Touch.of_nil {D : Nat} {w w' : World} (h : Chg [] w w') : Touch D w w' := ⟨[], h, by simp⟩
theorem Touch.below {D : Nat} {w w' : World} (h : Touch D w w') (hD : D ≤ w.heap.size) : Below D w w' := by
  obtain ⟨T, hC, hT⟩ := h
  exact hC.below hD (fun k hk => (hT k hk).1)
theorem KindIs.lt {w : World} {k t : Nat} (h : KindIs w k t) : k < w.heap.size := by obtain ⟨_, h⟩ := h; exact blk_lt h
theorem MapIs.lt {w : World} {k : Nat} (h : MapIs w k) : k < w.heap.size := by obtain ⟨_, _, h⟩ := h; exact blk_lt h
theorem KindIs.not {w : World} {k t u : Nat} (h : KindIs w k t) (hn : t ≠ u) : ¬ KindIs w k u := fun h2 => h.ne h2 hn rfl
theorem MapIs.not {w : World} {k u : Nat} (h : MapIs w k) : ¬ KindIs w k u := fun h2 => h2.ne' h rfl

theorem touch_of {w w' : World} {D ar m1 m2 : Nat} {S : Sdb} {sd : Int} {L : List Ord} {lv : List Lvl} {v : Value} (h : SdAt w D sd S L lv v) (hC : Chg (ar :: m1 :: m2 :: S.l :: S.n :: S.e :: ownL v) w w')
    (Ka : KindIs w ar 115) (K1 : MapIs w m1) (K2 : MapIs w m2) (da : D ≤ ar) (d1 : D ≤ m1) (d2 : D ≤ m2) : Touch D w w' := by
  obtain ⟨nf, ef, hf, hq⟩ := h.ff
  have Kl : KindIs w S.l 179 := ⟨_, h.ld⟩
  refine ⟨_, hC, fun k hk => ?_⟩
  simp only [List.mem_cons] at hk
  rcases hk with rfl | rfl | rfl | rfl | rfl | rfl | hk
  · exact ⟨da, Ka.lt, Ka.not (by decide), Ka.not (by decide)⟩
  · exact ⟨d1, K1.lt, K1.not, K1.not⟩
  · exact ⟨d2, K2.lt, K2.not, K2.not⟩
  · exact ⟨h.dl, Kl.lt, Kl.not (by decide), Kl.not (by decide)⟩
  · exact ⟨h.dn, hf.nds.kind.lt, hf.nds.kind.not (by decide), hf.nds.kind.not (by decide)⟩
  · exact ⟨h.de, hf.eds.kind.lt, hf.eds.kind.not (by decide), hf.eds.kind.not (by decide)⟩
  · have Kv := h.sl.kind (g := k) (by simpa [ownL] using hk)
    exact ⟨h.fr k (by simpa [ownL] using hk), Kv.lt, Kv.not (by decide), Kv.not (by decide)⟩

theorem badd (w : World) (D : Nat) (B : Bkb) (L : List Ord) (lv0 lv1 : List Lvl) (v0 v1 : Value) (h : PB w D B L lv0 lv1 v0 v1) (hD : D ≤ w.heap.size) (hlen : L.length < 60) (o : Ord) :
    Calls Try.prog 66 #[.pointer (some ⟨B.b, 0, none⟩), oV o] w fun e w' => (∃ n : Int, e = .returned (.int .i64 n)) ∧ (∃ lv0' lv1' v0' v1', PB w' D B (addL L o) lv0' lv1' v0' v1') ∧ Touch D w w' := by
  obtain ⟨c, hA, hH⟩ := h.ar
  obtain ⟨il, hX, hI, hl⟩ := h.ix
  have no : ∀ n : Int, takes L o = false → ∀ e w', (e = Ending.returned (.int .i64 n) ∧ Chg [] w w') → (∃ n : Int, e = .returned (.int .i64 n)) ∧ (∃ lv0' lv1' v0' v1', PB w' D B (addL L o) lv0' lv1' v0' v1') ∧ Touch D w w' := by
    rintro n ht e w' ⟨rfl, hC⟩
    have : addL L o = L := by simp [addL, ht]
    rw [this]
    exact ⟨⟨_, rfl⟩, ⟨_, _, _, _, h.apart hC⟩, Touch.of_nil hC⟩
  by_cases h0 : o 2 = 0 ∨ o 2 = 1
  · have hof : ∃ off, OfIs B.b off (o 2) := by
      rcases h0 with h0 | h0
      · exact ⟨1, fun w => by rw [h0]; exact of79_0 w B.b⟩
      · exact ⟨3, fun w => by rw [h0]; exact of79_1 w B.b⟩
    by_cases hrg : (o 3 < 1 ∨ o 3 > 1099511627776) ∨ (o 4 < 1 ∨ o 4 > 4294967296)
    · obtain ⟨off, hof⟩ := hof
      exact (badd_range w B.b off (o 2) hof o rfl hrg).mono (no 9 (by simp [takes, okO]; omega))
    · have hok : okO o = true := by simp [okO]; omega
      by_cases hid : hasId L (o 0) = true
      · have hid2 : (mLook il (0, o 0)).isSome = true := by rw [hI]; exact hid
        have ht : takes L o = false := by simp [takes, hid]
        rcases h0 with h0 | h0
        · exact (badd_twice w B.b 1 B.ar B.x B.m1 B.m2 B.s0 (o 2) h.bc0 (fun w => by rw [h0]; exact of79_0 w B.b) il hX o rfl hok hid2).mono (no 6 ht)
        · exact (badd_twice w B.b 3 B.ar B.x B.m1 B.m2 B.s1 (o 2) h.bc1 (fun w => by rw [h0]; exact of79_1 w B.b) il hX o rfl hok hid2).mono (no 6 ht)
      · have hid' : hasId L (o 0) = false := by simpa using hid
        have ht : addL L o = L ++ [o] := by simp [addL, takes, hok, hid']
        rw [ht]
        have Ka := hA.kind
        have K1 := hX.map1
        have K2 := hX.map2
        rcases h0 with h0 | h0
        · obtain ⟨nf, ef, hf, _⟩ := h.s0.ff
          have Kl : KindIs w B.s0.l 179 := ⟨_, h.s0.ld⟩
          have Kv : ∀ k ∈ ownL v0, KindIs w k 167 := fun k hk => h.s0.sl.kind (by simpa [ownL] using hk)
          refine (badd_yes w B.b 1 B.ar B.x B.m1 B.m2 B.s0 0 h.bc0 (fun w => of79_0 w B.b) D hD L lv0 v0 h.s0 hlen c hA hH il hX hI hl o h0 hok hid').mono ?_
          rintro e w' ⟨rfl, A⟩
          obtain ⟨lv', v', hs, hv⟩ := A.hsd
          have hs1 := other_side h.s1 A.hch Ka K1 K2 Kl hf.nds.kind hf.eds.kind Kv (Ne.symm h.al) (Ne.symm h.an) (Ne.symm h.ae) (fun g hg e => h.av g e hg) (o := o) (by omega)
          have hbk := A.hch.at_ h.blk (by
            have Kb : KindIs w B.b 151 := ⟨_, h.blk⟩
            simpa using ⟨Kb.ne Ka (by decide), Kb.ne' K1, Kb.ne' K2, Kb.ne Kl (by decide), Kb.ne hf.nds.kind (by decide), Kb.ne hf.eds.kind (by decide), fun hm => Kb.ne (Kv _ hm) (by decide) rfl⟩)
          refine ⟨⟨_, rfl⟩, ⟨lv', lv1, v', v1, hbk, A.har, A.hix, hs, hs1, h.al, h.aq, h.an, h.ae, fun g hg e => ?_, h.db, h.da, h.dx, h.d1, h.d2⟩, touch_of h.s0 A.hch Ka K1 K2 h.da h.d1 h.d2⟩
          rcases hv with hv | ⟨g', hv, hg'⟩
          · exact h.av g (hv ▸ hg) e
          · rw [hv] at hg; cases hg
            have := h.s1.sl.lt e
            omega
        · obtain ⟨nf, ef, hf, _⟩ := h.s1.ff
          have Kl : KindIs w B.s1.l 179 := ⟨_, h.s1.ld⟩
          have Kv : ∀ k ∈ ownL v1, KindIs w k 167 := fun k hk => h.s1.sl.kind (by simpa [ownL] using hk)
          refine (badd_yes w B.b 3 B.ar B.x B.m1 B.m2 B.s1 1 h.bc1 (fun w => of79_1 w B.b) D hD L lv1 v1 h.s1 hlen c hA hH il hX hI hl o h0 hok hid').mono ?_
          rintro e w' ⟨rfl, A⟩
          obtain ⟨lv', v', hs, hv⟩ := A.hsd
          have hs1 := other_side h.s0 A.hch Ka K1 K2 Kl hf.nds.kind hf.eds.kind Kv h.al h.an h.ae h.av (o := o) (by omega)
          have hbk := A.hch.at_ h.blk (by
            have Kb : KindIs w B.b 151 := ⟨_, h.blk⟩
            simpa using ⟨Kb.ne Ka (by decide), Kb.ne' K1, Kb.ne' K2, Kb.ne Kl (by decide), Kb.ne hf.nds.kind (by decide), Kb.ne hf.eds.kind (by decide), fun hm => Kb.ne (Kv _ hm) (by decide) rfl⟩)
          refine ⟨⟨_, rfl⟩, ⟨lv0, lv', v0, v', hbk, A.har, A.hix, hs1, hs, h.al, h.aq, h.an, h.ae, fun g hg e => ?_, h.db, h.da, h.dx, h.d1, h.d2⟩, touch_of h.s1 A.hch Ka K1 K2 h.da h.d1 h.d2⟩
          rcases hv with hv | ⟨g', hv, hg'⟩
          · exact h.av g hg (hv ▸ e)
          · rw [hv] at e; cases e
            have := h.s0.sl.lt hg
            omega
  · refine (badd_side w B.b o (fun e => h0 (.inl e)) (fun e => h0 (.inr e))).mono (no 1 (by simp [takes, okO]; omega))
end Go.Proofs.Ytdcjfaplgpeonaa

/-
  A new book.
-/
namespace Go.Proofs.Ytdcjfaplgpeonaa
open Go.RowKit Go.Dm

set_option maxHeartbeats 1000000 in
theorem lnew2 (w : World) (sd : Int) (hs : sd = 0 ∨ sd = 1) :
    Calls Try.prog 77 #[.int .i64 sd, .int .i64 60] w fun e w' => e = .returned (.tuple #[.pointer (some ⟨w.heap.size, 0, none⟩), .int .i64 0]) ∧ LdBlk w' w.heap.size sd (.slice none 0 0) 0 ∧ Chg [] w w' := by
  rcases hs with rfl | rfl
  all_goals
    go_enter Try.func77, Try.ntmps77
    go_wp2
    go_ret2
    exact ⟨rfl, heap_alloc_new w _, Chg.alloc _ _ _⟩

theorem sd_new {w : World} {D : Nat} {sd : Int} {S : Sdb} (hl : LdBlk w S.l sd (.slice none 0 0) 0) (hf : FfAt w S.q S.n S.e (newNf 60) (newEf 60)) (dl : D ≤ S.l) (dq : D ≤ S.q) (dn : D ≤ S.n) (de : D ≤ S.e) : SdAt w D sd S [] [] (.slice none 0 0) :=
  ⟨hl, SlAt.nil _ _ _ _, Fresh.none, ⟨_, _, hf, ⟨by simp, fun i _ h6 => ⟨by simp [newNf]; omega, by simp [newNf]; omega, by simp [newNf]; omega⟩, fun u _ h6 => by
      unfold newEf; rw [if_pos (by omega)]⟩⟩,
   ⟨by simp, by simp, by simp, by simp, by simp, by simp, by simp, by simp, fun x hx => by cases hx⟩, dl, dq, dn, de⟩

def BnRel (w : World) (D ar b x m1 m2 : Nat) (m : Nat) (i : Value) (wr : World) : Prop :=
  ∃ (k : Nat) (s0 s1 : Sdb) (p0 p1 p2 p3 : Value), k ≤ 2 ∧ m = 2 - k + 1 ∧ i = .int .i64 k ∧ wr.heap[b]? = some (.cells #[.pointer (some ⟨ar, 0, none⟩), p0, p1, p2, p3, .pointer (some ⟨x, 0, none⟩)] 151 (0, 0)) ∧
    (1 ≤ k → p0 = .pointer (some ⟨s0.l, 0, none⟩) ∧ p1 = .pointer (some ⟨s0.q, 0, none⟩) ∧ SdAt wr D 0 s0 [] [] (.slice none 0 0)) ∧
    (2 ≤ k → p2 = .pointer (some ⟨s1.l, 0, none⟩) ∧ p3 = .pointer (some ⟨s1.q, 0, none⟩) ∧ SdAt wr D 1 s1 [] [] (.slice none 0 0) ∧ s0.l ≠ s1.l ∧ s0.q ≠ s1.q ∧ s0.n ≠ s1.n ∧ s0.e ≠ s1.e) ∧
    ArAt wr ar (newC 60) ∧ XAt wr x m1 m2 [] ∧ Chg [] w wr

set_option maxRecDepth 100000 in
set_option maxHeartbeats 4000000 in
theorem bnew (w : World) (D : Nat) (hD : D ≤ w.heap.size) :
    Calls Try.prog 64 #[.int .i64 60, .int .i64 60] w fun e w' => ∃ B, e = .returned (.tuple #[.pointer (some ⟨B.b, 0, none⟩), .int .i64 0]) ∧ PB w' D B [] [] [] (.slice none 0 0) (.slice none 0 0) ∧ Chg [] w w' := by
  go_enter Try.func64, Try.ntmps64
  go_wp2_with fail
  refine (new09 w 60 (by omega) (by omega)).mono ?_
  rintro e W1 ⟨rfl, hA1, hC1⟩
  go_wp2_with fail
  refine (new_any W1).mono ?_
  rintro e W2 ⟨x, m1, m2, rfl, hX2, hC2, hx1, hx2, hx3⟩
  have hA2 := hA1.chg hC2 (by simp)
  have hA3 := Chg.alloc [] W2 (.cells #[.pointer (some ⟨w.heap.size, 0, none⟩), .pointer none, .pointer none, .pointer none, .pointer none, .pointer (some ⟨x, 0, none⟩)] 151)
  have hb3 := heap_alloc_new W2 (.cells #[.pointer (some ⟨w.heap.size, 0, none⟩), .pointer none, .pointer none, .pointer none, .pointer none, .pointer (some ⟨x, 0, none⟩)] 151)
  have hX3 := hX2.chg hA3 (by simp) (by simp) (by simp)
  have hA4 := hA2.chg hA3 (by simp)
  have hC3 := (hC1.trans hC2).trans hA3
  have z1 := hC1.size
  have z2 := hC2.size
  go_wp2_with fail
  go_loopg [26] 3 (fun m i wr => BnRel w D w.heap.size W2.heap.size x m1 m2 m i wr)
  case atStart => exact ⟨0, ⟨0, 0, 0, 0⟩, ⟨0, 0, 0, 0⟩, _, _, _, _, by omega, rfl, rfl, hb3, fun h => by omega, fun h => by omega, hA4, hX3, hC3⟩
  case round =>
    clear hA1 hX2 hA2 hA3 hb3 hX3 hA4 hC3
    obtain ⟨k, s0, s1, p0, p1, p2, p3, hk, hm, rfl, hb, h1, h2, hA, hX, hC⟩ := hrel
    have Hm := Lib.hid hm
    clear hm
    have hk3 : k = 0 ∨ k = 1 ∨ k = 2 := by omega
    rcases hk3 with hk0 | hk0 | hk0
    · obtain rfl : k = 0 := by omega
      have hl := lnew2 wr 0 (by omega)
      go_wp2_with fail
      refine hl.mono ?_
      rintro e W5 ⟨rfl, hL5, hC5⟩
      clear hl
      go_wp2_with fail
      refine (fnew W5).mono ?_
      rintro e W6 ⟨q, nb, eb, rfl, hF6, hC6, hq1, hq2, hq3⟩
      have hC56 := hC5.trans hC6
      have z5 : wr.heap.size < W5.heap.size := blk_lt (show W5.heap[wr.heap.size]? = _ from hL5)
      have hb6 := hC56.at_ hb (by simp)
      obtain ⟨c0, c1, c2, c3, c4, c5⟩ := blk6 hb6
      have fb : ∀ j, W6.frozen? ⟨W2.heap.size, j, none⟩ = false := fun j => by simp [World.frozen?, hb6]
      have f1 := fb 1
      have f2 := fb 2
      have bl := blk_lt hb6
      have hset : ((W6.setCell ⟨W2.heap.size, 1, none⟩ (.pointer (some ⟨wr.heap.size, 0, none⟩))).setCell ⟨W2.heap.size, 2, none⟩ (.pointer (some ⟨q, 0, none⟩))).heap[W2.heap.size]? = some (.cells #[.pointer (some ⟨w.heap.size, 0, none⟩), .pointer (some ⟨wr.heap.size, 0, none⟩), .pointer (some ⟨q, 0, none⟩), p2, p3, .pointer (some ⟨x, 0, none⟩)] 151 (0, 0)) := by
        rw [blk_set (blk_set hb6 _ _)]
        rfl
      have hCS : Chg [W2.heap.size] W6 ((W6.setCell ⟨W2.heap.size, 1, none⟩ (.pointer (some ⟨wr.heap.size, 0, none⟩))).setCell ⟨W2.heap.size, 2, none⟩ (.pointer (some ⟨q, 0, none⟩))) := (Chg.setCell W6 _ _ (by simp)).trans (Chg.setCell _ _ _ (by simp))
      have hCA := hC56.nil.trans hCS
      have w2l : W2.heap.size < wr.heap.size := blk_lt hb
      have hX' := hX.chg hCA (by
        have Kx := hX.kind
        have Kb : KindIs wr W2.heap.size 151 := ⟨_, hb⟩
        simpa using Kx.ne Kb (by decide)) (by
        have Kb : KindIs wr W2.heap.size 151 := ⟨_, hb⟩
        simpa using Ne.symm (Kb.ne' hX.map1)) (by
        have Kb : KindIs wr W2.heap.size 151 := ⟨_, hb⟩
        simpa using Ne.symm (Kb.ne' hX.map2))
      have hA' := hA.chg hCA (by
        have Kb : KindIs wr W2.heap.size 151 := ⟨_, hb⟩
        simpa using hA.kind.ne Kb (by decide))
      have hC' : Chg [] w ((W6.setCell ⟨W2.heap.size, 1, none⟩ (.pointer (some ⟨wr.heap.size, 0, none⟩))).setCell ⟨W2.heap.size, 2, none⟩ (.pointer (some ⟨q, 0, none⟩))) := hC.trans' hCA (by simp) (by simp; omega)
      have H := Lib.hid (And.intro hset (And.intro (show LdBlk _ wr.heap.size 0 (.slice none 0 0) 0 from hCS.at_ (hC6.at_ hL5 (by simp)) (by simp; omega)) (And.intro (hF6.chg hCS (by simp; omega) (by simp; omega) (by simp; omega)) (And.intro hA' (And.intro hX' hC')))))
      clear hset hCS hCA hX' hA' hC' hb hA hX hL5 hC5 hF6 hC6 hC56 hb6 fb h1 h2
      go_wp2
      go_roundg (2 - (0 + 1) + 1)
      case measure => rw [Hm.out]; omega
      case rel => refine ⟨1, ⟨wr.heap.size, q, nb, eb⟩, s1, _, _, p2, p3, by omega, rfl, by go_num, H.out.1, fun _ => ⟨rfl, rfl, sd_new H.out.2.1 H.out.2.2.1 (by have := H.out.2.2.2.2.2; have := hC.size; show D ≤ wr.heap.size; omega) (by show D ≤ q; have := hC.size; omega) (by show D ≤ nb; have := hC.size; omega) (by show D ≤ eb; have := hC.size; omega)⟩, fun h => by omega, H.out.2.2.2.1, H.out.2.2.2.2.1, H.out.2.2.2.2.2⟩
    · obtain rfl : k = 1 := by omega
      obtain ⟨rfl, rfl, hS0⟩ := h1 (by omega)
      have n0 := hS0.ld
      obtain ⟨nf0, ef0, hf0, _⟩ := hS0.ff
      have hl := lnew2 wr 1 (by omega)
      go_wp2_with fail
      refine hl.mono ?_
      rintro e W5 ⟨rfl, hL5, hC5⟩
      clear hl
      go_wp2_with fail
      refine (fnew W5).mono ?_
      rintro e W6 ⟨q, nb, eb, rfl, hF6, hC6, hq1, hq2, hq3⟩
      have hC56 := hC5.trans hC6
      have z5 : wr.heap.size < W5.heap.size := blk_lt (show W5.heap[wr.heap.size]? = _ from hL5)
      have hb6 := hC56.at_ hb (by simp)
      obtain ⟨c0, c1, c2, c3, c4, c5⟩ := blk6 hb6
      have fb : ∀ j, W6.frozen? ⟨W2.heap.size, j, none⟩ = false := fun j => by simp [World.frozen?, hb6]
      have f1 := fb 3
      have f2 := fb 4
      have bl := blk_lt hb6
      have hset : ((W6.setCell ⟨W2.heap.size, 3, none⟩ (.pointer (some ⟨wr.heap.size, 0, none⟩))).setCell ⟨W2.heap.size, 4, none⟩ (.pointer (some ⟨q, 0, none⟩))).heap[W2.heap.size]? = some (.cells #[.pointer (some ⟨w.heap.size, 0, none⟩), .pointer (some ⟨s0.l, 0, none⟩), .pointer (some ⟨s0.q, 0, none⟩), .pointer (some ⟨wr.heap.size, 0, none⟩), .pointer (some ⟨q, 0, none⟩), .pointer (some ⟨x, 0, none⟩)] 151 (0, 0)) := by
        rw [blk_set (blk_set hb6 _ _)]
        rfl
      have hCS : Chg [W2.heap.size] W6 ((W6.setCell ⟨W2.heap.size, 3, none⟩ (.pointer (some ⟨wr.heap.size, 0, none⟩))).setCell ⟨W2.heap.size, 4, none⟩ (.pointer (some ⟨q, 0, none⟩))) := (Chg.setCell W6 _ _ (by simp)).trans (Chg.setCell _ _ _ (by simp))
      have hCA := hC56.nil.trans hCS
      have w2l : W2.heap.size < wr.heap.size := blk_lt hb
      have hX' := hX.chg hCA (by
        have Kx := hX.kind
        have Kb : KindIs wr W2.heap.size 151 := ⟨_, hb⟩
        simpa using Kx.ne Kb (by decide)) (by
        have Kb : KindIs wr W2.heap.size 151 := ⟨_, hb⟩
        simpa using Ne.symm (Kb.ne' hX.map1)) (by
        have Kb : KindIs wr W2.heap.size 151 := ⟨_, hb⟩
        simpa using Ne.symm (Kb.ne' hX.map2))
      have hA' := hA.chg hCA (by
        have Kb : KindIs wr W2.heap.size 151 := ⟨_, hb⟩
        simpa using hA.kind.ne Kb (by decide))
      have hC' : Chg [] w ((W6.setCell ⟨W2.heap.size, 3, none⟩ (.pointer (some ⟨wr.heap.size, 0, none⟩))).setCell ⟨W2.heap.size, 4, none⟩ (.pointer (some ⟨q, 0, none⟩))) := hC.trans' hCA (by simp) (by simp; omega)
      have H := Lib.hid (And.intro hset (And.intro (show LdBlk _ wr.heap.size 1 (.slice none 0 0) 0 from hCS.at_ (hC6.at_ hL5 (by simp)) (by simp; omega)) (And.intro (hF6.chg hCS (by simp; omega) (by simp; omega) (by simp; omega)) (And.intro hA' (And.intro hX' hC')))))
      have Kb0 : KindIs wr W2.heap.size 151 := ⟨_, hb⟩
      have l0 := blk_lt (show wr.heap[s0.l]? = _ from n0)
      have lq0 := blk_lt hf0.blk
      have ln0 := hf0.nds.lt
      have le0 := hf0.eds.lt
      have H2 := Lib.hid (And.intro (hS0.chg hCA (by simpa using KindIs.ne ⟨_, n0⟩ Kb0 (by decide)) (by simpa using KindIs.ne ⟨_, hf0.blk⟩ Kb0 (by decide)) (by simpa using hf0.nds.kind.ne Kb0 (by decide)) (by simpa using hf0.eds.kind.ne Kb0 (by decide)) (by simp [Value.ownBlock])) (show s0.l ≠ wr.heap.size ∧ s0.q ≠ q ∧ s0.n ≠ nb ∧ s0.e ≠ eb from ⟨by omega, by omega, by omega, by omega⟩))
      clear n0 hf0 hS0 l0 lq0 ln0 le0 Kb0
      clear hset hCS hCA hX' hA' hC' hb hA hX hL5 hC5 hF6 hC6 hC56 hb6 fb h1 h2
      go_wp2
      go_roundg (2 - (1 + 1) + 1)
      case measure => rw [Hm.out]; omega
      case rel => refine ⟨2, s0, ⟨wr.heap.size, q, nb, eb⟩, _, _, _, _, by omega, rfl, by go_num, H.out.1, fun _ => ⟨rfl, rfl, H2.out.1⟩, fun _ => ⟨rfl, rfl, sd_new H.out.2.1 H.out.2.2.1 (by show D ≤ wr.heap.size; have := hC.size; omega) (by show D ≤ q; have := hC.size; omega) (by show D ≤ nb; have := hC.size; omega) (by show D ≤ eb; have := hC.size; omega), H2.out.2⟩, H.out.2.2.2.1, H.out.2.2.2.2.1, H.out.2.2.2.2.2⟩
    · obtain rfl : k = 2 := by omega
      obtain ⟨rfl, rfl, hS0⟩ := h1 (by omega)
      obtain ⟨rfl, rfl, hS1, a1, a2, a3, a4⟩ := h2 (by omega)
      clear h1 h2
      go_wp2
      go_ret2
      exact ⟨⟨W2.heap.size, w.heap.size, x, m1, m2, s0, s1⟩, rfl, ⟨hb, ⟨_, hA, hold_new 60 (by omega) (by omega) []⟩, ⟨[], hX, fun id => by simp [mLook, hasId], by simp⟩, hS0, hS1, a1, a2, a3, a4, by simp [Value.ownBlock], by show D ≤ W2.heap.size; omega, hD, by show D ≤ x; omega, by show D ≤ m1; omega, by show D ≤ m2; omega⟩, hC⟩
end Go.Proofs.Ytdcjfaplgpeonaa

/-
  The books of some orders: the program's and the reference's.
-/
namespace Go.Proofs.Ytdcjfaplgpeonaa
open Go.RowKit Go.Dm

/-- The orders that are taken. -/
def bookL (l : List Ord) : List Ord := l.foldl addL []
theorem bookL_succ (l : List Ord) (k : Nat) (o : Ord) (h : l[k]? = some o) : bookL (l.take (k + 1)) = addL (bookL (l.take k)) o := by
  unfold bookL
  have hk := (List.getElem?_eq_some_iff.1 h).1
  rw [List.take_succ_eq_append_getElem hk, List.foldl_append, (List.getElem?_eq_some_iff.1 h).2]
  rfl
theorem addL_len (l : List Ord) (o : Ord) : (addL l o).length ≤ l.length + 1 := by unfold addL; split <;> simp
theorem bookL_len' : ∀ (l acc : List Ord), (l.foldl addL acc).length ≤ acc.length + l.length
  | [], acc => by simp
  | o :: l, acc => by
    have h1 := bookL_len' l (addL acc o)
    have h2 := addL_len acc o
    simp only [List.foldl_cons, List.length_cons]
    omega
theorem bookL_len (l : List Ord) : (bookL l).length ≤ l.length := by have := bookL_len' l []; simpa [bookL] using this
theorem bookL_ok' : ∀ (l acc : List Ord), (∀ o ∈ acc, okO o = true) → ∀ o ∈ l.foldl addL acc, okO o = true
  | [], acc, h => h
  | p :: l, acc, h => by
    simp only [List.foldl_cons]
    refine bookL_ok' l (addL acc p) fun o ho => ?_
    unfold addL at ho
    split at ho
    · rename_i ht
      rcases List.mem_append.1 ho with ho | ho
      · exact h o ho
      · simp at ho; subst ho
        simp only [takes, Bool.and_eq_true] at ht
        exact ht.1
    · exact h o ho
theorem bookL_ok (l : List Ord) : ∀ o ∈ bookL l, okO o = true := bookL_ok' l [] (by simp)

theorem BkR.kind {w : World} {r : Nat} {l : List Ord} (h : BkR w r l) : KindIs w r 127 := by obtain ⟨v, h, _⟩ := h; exact ⟨_, h⟩
theorem BkR.touch {w w' : World} {D r : Nat} {l : List Ord} (h : BkR w r l) (hT : Touch D w w') : BkR w' r l := by
  obtain ⟨T, hC, hk⟩ := hT
  refine h.chg hC (fun hm => (hk r hm).2.2.2 h.kind) (fun k hm => .inr ?_)
  obtain ⟨_, h2, h3, _⟩ := hk k hm
  exact ⟨w.heap[k], by simp [h2], fun cs e => h3 ⟨cs, by rw [← e]; simp [h2]⟩⟩
theorem PB.keep {w w' : World} {D r : Nat} {B : Bkb} {L : List Ord} {lv0 lv1 : List Lvl} {v0 v1 : Value} (h : PB w D B L lv0 lv1 v0 v1) (hC : Chg [r] w w') (hk : KindIs w r 127) : PB w' D B L lv0 lv1 v0 v1 := by
  obtain ⟨c, ha, hh⟩ := h.ar
  obtain ⟨il, hx, hi, hl⟩ := h.ix
  have one : ∀ {z t : Nat}, KindIs w z t → t ≠ 127 → z ∉ [r] := fun hz ht => by simpa using hz.ne hk ht
  have sd : ∀ {sd : Int} {S : Sdb} {lv : List Lvl} {v : Value}, SdAt w D sd S L lv v → SdAt w' D sd S L lv v := fun hs => by
    obtain ⟨nf, ef, hf, _⟩ := hs.ff
    exact hs.chg hC (one ⟨_, hs.ld⟩ (by decide)) (one ⟨_, hf.blk⟩ (by decide)) (one hf.nds.kind (by decide)) (one hf.eds.kind (by decide)) (fun g hg => one (hs.sl.kind hg) (by decide))
  exact ⟨hC.at_ h.blk (one ⟨_, h.blk⟩ (by decide)), ⟨c, ha.chg hC (one ha.kind (by decide)), hh⟩,
    ⟨il, hx.chg hC (one hx.kind (by decide)) (by simpa using Ne.symm (hk.ne' hx.map1)) (by simpa using Ne.symm (hk.ne' hx.map2)), hi, hl⟩, sd h.s0, sd h.s1,
    h.al, h.aq, h.an, h.ae, h.av, h.db, h.da, h.dx, h.d1, h.d2⟩

def BooksRel (w : World) (l : List Ord) (B : Bkb) (r : Nat) (m : Nat) (i : Value) (wr : World) : Prop :=
  ∃ k : Nat, k ≤ l.length ∧ m = l.length - k + 1 ∧ i = .int .i64 k ∧ (∃ lv0 lv1 v0 v1, PB wr w.heap.size B (bookL (l.take k)) lv0 lv1 v0 v1) ∧ BkR wr r (bookL (l.take k)) ∧ Chg [] w wr

set_option maxRecDepth 100000 in
set_option maxHeartbeats 4000000 in
theorem books42 (w : World) (A : Option Addr) (cap : Nat) (l : List Ord) (h : OrdsAt w A l) (hlen : l.length ≤ 60) :
    Calls Try.prog 42 #[.slice A l.length cap] w fun e w' => ∃ B r, e = .returned (.tuple #[.pointer (some ⟨B.b, 0, none⟩), .pointer (some ⟨r, 0, none⟩)]) ∧
      (∃ lv0 lv1 v0 v1, PB w' w.heap.size B (bookL l) lv0 lv1 v0 v1) ∧ BkR w' r (bookL l) ∧ Chg [] w w' ∧ w.heap.size ≤ r := by
  go_enter Try.func42, Try.ntmps42
  go_wp2_with fail
  refine (bnew w w.heap.size (Nat.le_refl _)).mono ?_
  rintro e W1 ⟨B, rfl, hP1, hC1⟩
  go_wp2_with fail
  refine (rbnew W1).mono ?_
  rintro e W2 ⟨rfl, hR2, hC2⟩
  have hP2 := hP1.apart hC2
  have hC12 := hC1.trans hC2
  have z1 := hC1.size
  clear hP1 hC1 hC2
  go_wp2_with fail
  go_loopg [8] (l.length + 1) (fun m i wr => BooksRel w l B W1.heap.size m i wr)
  case atStart => exact ⟨0, Nat.zero_le _, rfl, rfl, ⟨_, _, _, _, hP2⟩, hR2, hC12⟩
  case round =>
    clear hP2 hR2 hC12
    obtain ⟨k, hk, hm, rfl, ⟨lv0, lv1, v0, v1, hP⟩, hR, hC⟩ := hrel
    have Hm := Lib.hid hm
    clear hm
    by_cases hlt : k < l.length
    · rcases h with h | ⟨b, off, rfl, hbl, hcells⟩
      · subst h; simp at hlt
      obtain ⟨o, ho⟩ : ∃ o, l[k]? = some o := ⟨l[k], by simp [hlt]⟩
      have hb9 : b < wr.heap.size := by have := hC.size; omega
      have c0 : wr.cell? ⟨b, off + k * 7, none⟩ = some (.int .i64 (o 0)) := hC.cell (hcells k o ho 0 (by omega)) (by simp)
      have c1 := hC.cell (hcells k o ho 1 (by omega)) (by simp)
      have c2 := hC.cell (hcells k o ho 2 (by omega)) (by simp)
      have c3 := hC.cell (hcells k o ho 3 (by omega)) (by simp)
      have c4 := hC.cell (hcells k o ho 4 (by omega)) (by simp)
      have c5 := hC.cell (hcells k o ho 5 (by omega)) (by simp)
      have c6 := hC.cell (hcells k o ho 6 (by omega)) (by simp)
      have k0 : (0 : Int) ≤ (k : Int) := Int.natCast_nonneg _
      have k1 : (k : Int) < (l.length : Int) := by omega
      have hbl9 : (bookL (l.take k)).length < 60 := by
        have := bookL_len (l.take k)
        have := List.length_take_le k l
        omega
      have hHC := Lib.hid hcells
      have HO := Lib.hid ho
      have hadd := badd wr w.heap.size B _ lv0 lv1 v0 v1 hP hC.size hbl9 o
      unfold oV at hadd
      clear hcells ho
      go_wp2_with fail
      refine hadd.mono ?_
      rintro e W4 ⟨⟨n4, rfl⟩, ⟨lv0', lv1', v0', v1', hP4⟩, hT4⟩
      have hR4 := hR.touch hT4
      have hC4 : Chg [] w W4 := by
        obtain ⟨T, hCT, hk⟩ := hT4
        exact hC.trans' hCT (by simp) (fun i hi => .inr (hk i hi).1)
      clear hadd c0 c1 c2 c3 c4 c5 c6 hP hT4 hC hb9
      have hb9 : b < W4.heap.size := by have := hC4.size; omega
      have c0 : W4.cell? ⟨b, off + k * 7, none⟩ = some (.int .i64 (o 0)) := hC4.cell (hHC.out k o HO.out 0 (by omega)) (by simp)
      have c1 := hC4.cell (hHC.out k o HO.out 1 (by omega)) (by simp)
      have c2 := hC4.cell (hHC.out k o HO.out 2 (by omega)) (by simp)
      have c3 := hC4.cell (hHC.out k o HO.out 3 (by omega)) (by simp)
      have c4 := hC4.cell (hHC.out k o HO.out 4 (by omega)) (by simp)
      have c5 := hC4.cell (hHC.out k o HO.out 5 (by omega)) (by simp)
      have c6 := hC4.cell (hHC.out k o HO.out 6 (by omega)) (by simp)
      have hrb := rbadd W4 W1.heap.size _ hR4 o hbl9
      unfold oV at hrb
      go_wp2_with fail
      refine hrb.mono ?_
      rintro e W5 ⟨⟨n5, rfl⟩, hR5, hC5⟩
      have hP5 := hP4.keep hC5 hR4.kind
      have hC6 : Chg [] w W5 := hC4.trans' hC5 (by simp) (by simp; omega)
      rw [← bookL_succ l k o HO.out] at hP5 hR5
      clear hrb c0 c1 c2 c3 c4 c5 c6 hP4 hR4 hC4 hC5 hR hb9
      go_wp2_with fail
      go_roundg (l.length - (k + 1) + 1)
      case measure => rw [Hm.out]; omega
      case rel => exact ⟨k + 1, by omega, rfl, by go_num, ⟨_, _, _, _, hP5⟩, hR5, hC6⟩
    · obtain rfl : k = l.length := by omega
      rw [List.take_length] at hP hR
      go_wp2
      go_ret2
      exact ⟨B, W1.heap.size, rfl, ⟨_, _, _, _, hP⟩, hR, hC, z1⟩
end Go.Proofs.Ytdcjfaplgpeonaa
