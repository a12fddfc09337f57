/-
  The ladder: keys, and where a price stands.
-/
import Derived.Laws.EntriesVeiled
import Derived.WalkSmall
import Derived.Laws.Bits64b
import Derived.Test.YtdcjfaplgpeonaaQ5
namespace Go.Proofs.Ytdcjfaplgpeonaa
open Go.RowKit Go.Dm

/-- A price as a number of which the less is better. -/
def keyS (sd p : Int) : Int := if sd = 0 then -p else p
theorem blk7v {w : World} {b : Nat} {u0 u1 u2 u3 u4 u5 u6 : Value} {t : TypeId} {fr : Nat × Nat} (h : w.heap[b]? = some (.cells #[u0, u1, u2, u3, u4, u5, u6] t fr)) :
    w.cell? ⟨b, 0, none⟩ = some u0 ∧ w.cell? ⟨b, 1, none⟩ = some u1 ∧ w.cell? ⟨b, 2, none⟩ = some u2 ∧ w.cell? ⟨b, 3, none⟩ = some u3 ∧ w.cell? ⟨b, 4, none⟩ = some u4 ∧ w.cell? ⟨b, 5, none⟩ = some u5 ∧ w.cell? ⟨b, 6, none⟩ = some u6 := by
  simp [World.cell?, h]
def PrOk (p : Int) : Prop := 1 ≤ p ∧ p ≤ 1099511627776

set_option maxHeartbeats 1000000 in
theorem key120 (w : World) (r : Nat) (sd : Int) (v : Value) (u : Nat) (h : LdBlk w r sd v u) (p : Int) (hp : PrOk p) :
    Calls Try.prog 120 #[.pointer (some ⟨r, 0, none⟩), .int .i64 p] w fun e w' => e = .returned (.int .i64 (keyS sd p)) ∧ w = w' := by
  obtain ⟨c0, _⟩ := blk7v h
  obtain ⟨p0, p1⟩ := hp
  by_cases hs : sd = 0
  · subst hs
    go_enter Try.func120, Try.ntmps120
    go_wp2
    go_ret
    exact ⟨rfl, rfl⟩
  · have t1 : (sd == 0) = false := by simpa using hs
    have HK := Lib.hid (show keyS sd p = p by simp [keyS, hs])
    clear hs
    go_enter Try.func120, Try.ntmps120
    go_wp2
    go_ret
    refine ⟨?_, rfl⟩
    rw [HK.out]
    rfl

/-- How a level lies to a key. -/
def cmpK (sd p k : Int) : Int := if keyS sd p < k then -1 else if k < keyS sd p then 1 else 0
/-- The closure's box: the key of this ladder. -/
def KeyBox (w : World) (bx r : Nat) : Prop := w.heap[bx]? = some (.cells #[.func (.func 120) #[.pointer (some ⟨r, 0, none⟩)] #[]] 212 (0, 0))

set_option maxRecDepth 100000 in
set_option maxHeartbeats 2000000 in
theorem cmp122 (w : World) (bx r : Nat) (sd : Int) (v : Value) (u : Nat) (h : LdBlk w r sd v u) (hb : KeyBox w bx r) (p q n m k : Int) (hp : PrOk p) :
    Calls Try.prog 122 #[.agg #[.int .i64 p, .int .i64 q, .int .i64 n, .int .i64 m], .int .i64 k, .pointer (some ⟨bx, 0, none⟩)] w fun e w' => e = .returned (.int .i64 (cmpK sd p k)) ∧ Chg [] w w' := by
  have hC := Chg.alloc [] w (.cells #[.int .i64 p, .int .i64 q, .int .i64 n, .int .i64 m] 167)
  have c0 := blk1 (hC.at_ hb (by simp))
  have hk := key120 _ r sd v u (hC.at_ h (by simp)) p hp
  by_cases h1 : keyS sd p < k
  · have hc : cmpK sd p k = -1 := by simp [cmpK, h1]
    rw [hc]
    have d1 : decide (keyS sd p < k) = true := decide_eq_true h1
    clear hc h1
    go_enter Try.func122, Try.ntmps122
    go_wp2_with fail
    refine hk.mono ?_
    rintro e w' ⟨rfl, rfl⟩
    clear hk
    go_wp2
    go_ret
    exact ⟨rfl, hC⟩
  · have d1 : decide (keyS sd p < k) = false := decide_eq_false h1
    by_cases h2 : k < keyS sd p
    · have hc : cmpK sd p k = 1 := by simp [cmpK, h1, h2]
      rw [hc]
      have d2 : decide (k < keyS sd p) = true := decide_eq_true h2
      clear hc h1 h2
      go_enter Try.func122, Try.ntmps122
      go_wp2_with fail
      refine hk.mono ?_
      rintro e w' ⟨rfl, rfl⟩
      clear hk
      go_wp2
      go_ret
      exact ⟨rfl, hC⟩
    · have hc : cmpK sd p k = 0 := by simp [cmpK, h1, h2]
      rw [hc]
      have d2 : decide (k < keyS sd p) = false := decide_eq_false h2
      clear hc h1 h2
      go_enter Try.func122, Try.ntmps122
      go_wp2_with fail
      refine hk.mono ?_
      rintro e w' ⟨rfl, rfl⟩
      clear hk
      go_wp2
      go_ret
      exact ⟨rfl, hC⟩

/-- Where a key stands among the levels: those ahead of i lie below it, those from i on do not. -/
def IsPos (sd : Int) (lv : List Lvl) (k : Int) (i : Nat) : Prop := i ≤ lv.length ∧ (∀ j x, lv[j]? = some x → j < i → keyS sd x.p < k) ∧ (∀ j x, lv[j]? = some x → i ≤ j → k ≤ keyS sd x.p)
def isAt (sd : Int) (lv : List Lvl) (k : Int) (i : Nat) : Bool := (lv[i]?).any (fun x => decide (keyS sd x.p = k))
def LvPr (lv : List Lvl) : Prop := ∀ x ∈ lv, PrOk x.p

def BsRel (sd : Int) (lv : List Lvl) (k : Int) (w : World) (m : Nat) (a b : Value) (wr : World) : Prop :=
  ∃ i j : Nat, i ≤ j ∧ j ≤ lv.length ∧ m = j - i + 1 ∧ a = .int .i64 i ∧ b = .int .i64 j ∧ (∀ t x, lv[t]? = some x → t < i → keyS sd x.p < k) ∧ (∀ t x, lv[t]? = some x → j ≤ t → k ≤ keyS sd x.p) ∧ Chg [] w wr
theorem cmpK_lt {sd p k : Int} : cmpK sd p k < 0 ↔ keyS sd p < k := by
  unfold cmpK; split <;> (try split) <;> omega
theorem cmpK_eq {sd p k : Int} : cmpK sd p k = 0 ↔ keyS sd p = k := by
  unfold cmpK; split <;> (try split) <;> omega

set_option maxRecDepth 100000 in
set_option maxHeartbeats 4000000 in
theorem bsf121 (w : World) (bx r : Nat) (sd : Int) (v : Value) (u : Nat) (lv : List Lvl) (h : LdBlk w r sd v u) (hb : KeyBox w bx r) (hv : SlAt 167 4 lvE w v lv) (hl : LvPr lv) (hs : lv.Pairwise (fun a b => keyS sd a.p < keyS sd b.p)) (hlen : lv.length ≤ 1000) (k : Int) :
    Calls Try.prog 121 #[v, .int .i64 k, .func (.func 122) #[] #[.pointer (some ⟨bx, 0, none⟩)]] w fun e w' => (∃ i, e = .returned (.tuple #[.int .i64 (i : Nat), .bool (isAt sd lv k i)]) ∧ IsPos sd lv k i) ∧ Chg [] w w' := by
  obtain ⟨A, c, rfl, _, hA⟩ := hv.form
  go_enter Try.func121, Try.ntmps121
  go_wp2_with fail
  go_loopg [9, 10] (lv.length + 1) (fun m a b wr => BsRel sd lv k w m a b wr)
  case atStart => exact ⟨0, lv.length, Nat.zero_le _, Nat.le_refl _, rfl, rfl, rfl, fun t x hx ht => by omega, fun t x hx ht => by have := (List.getElem?_eq_some_iff.1 hx).1; omega, Chg.refl _ _⟩
  case round =>
    obtain ⟨i, j, hij, hj, hm, rfl, rfl, hlo, hhi, hC⟩ := hrel
    have Hm := Lib.hid hm
    have HL := Lib.hid (And.intro hlo hhi)
    have HS := Lib.hid hs
    have HP := Lib.hid hl
    clear hm hlo hhi hs hl
    by_cases hlt : i < j
    · have i0 : (0 : Int) ≤ (i : Int) := Int.natCast_nonneg _
      have j0 : (0 : Int) ≤ (j : Int) := Int.natCast_nonneg _
      have j1 : (j : Int) ≤ 1000 := by omega
      have ij : (i : Int) < (j : Int) := by omega
      have t0 : (0 : Int) ≤ ((i : Int) + (j : Int)) / 2 := by omega
      have t1 : ((i : Int) + (j : Int)) / 2 < (lv.length : Int) := by omega
      have tn : (i + j) / 2 < lv.length := by omega
      obtain ⟨g, rfl⟩ := hA (by omega)
      obtain ⟨x, hx⟩ : ∃ p, lv[(i + j) / 2]? = some p := ⟨lv[(i + j) / 2], by simp [tn]⟩
      have hvr := hv.chg hC (by simp)
      obtain ⟨e0, e1, e2, e3⟩ := lvs_at hvr hx
      have hg := hvr.lt (g := g) rfl
      have hc := cmp122 wr bx r sd _ u (hC.at_ h (by simp)) (hC.at_ hb (by simp)) x.p x.q x.n x.u k (HP.out x (List.mem_of_getElem? hx))
      have HX := Lib.hid hx
      clear hx hvr
      by_cases hlow : keyS sd x.p < k
      · have d1 : decide (cmpK sd x.p k < 0) = true := decide_eq_true (cmpK_lt.2 hlow)
        have HW := Lib.hid hlow
        clear hlow
        go_wp2_with fail
        refine hc.mono ?_
        rintro e w' ⟨rfl, hC2⟩
        clear hc e0 e1 e2 e3 hg
        go_wp2_with fail
        go_roundg (j - ((i + j) / 2 + 1) + 1)
        case measure => rw [Hm.out]; omega
        case rel =>
          refine ⟨(i + j) / 2 + 1, j, by omega, by omega, rfl, by go_num, rfl, fun t y hy ht => ?_, HL.out.2, hC.trans hC2⟩
          by_cases e : t = (i + j) / 2
          · subst e; rw [HX.out] at hy; cases hy; exact HW.out
          · have hp := List.pairwise_iff_getElem.1 HS.out t ((i + j) / 2) (List.getElem?_eq_some_iff.1 hy).1 tn (by omega)
            rw [(List.getElem?_eq_some_iff.1 hy).2, (List.getElem?_eq_some_iff.1 HX.out).2] at hp
            exact Int.lt_trans hp HW.out
      · have d1 : decide (cmpK sd x.p k < 0) = false := decide_eq_false (fun h => hlow (cmpK_lt.1 h))
        have HW := Lib.hid hlow
        clear hlow
        go_wp2_with fail
        refine hc.mono ?_
        rintro e w' ⟨rfl, hC2⟩
        clear hc e0 e1 e2 e3 hg
        go_wp2_with fail
        go_roundg ((i + j) / 2 - i + 1)
        case measure => rw [Hm.out]; omega
        case rel =>
          refine ⟨i, (i + j) / 2, by omega, by omega, rfl, rfl, by go_num, HL.out.1, fun t y hy ht => ?_, hC.trans hC2⟩
          by_cases e : t = (i + j) / 2
          · subst e; rw [HX.out] at hy; cases hy; have := HW.out; omega
          · have hp := List.pairwise_iff_getElem.1 HS.out ((i + j) / 2) t tn (List.getElem?_eq_some_iff.1 hy).1 (by omega)
            rw [(List.getElem?_eq_some_iff.1 hy).2, (List.getElem?_eq_some_iff.1 HX.out).2] at hp
            have := HW.out
            omega
    · have hij2 : i = j := by omega
      subst hij2
      clear hlt hij
      have hpos : IsPos sd lv k i := ⟨hj, HL.out.1, HL.out.2⟩
      have i0 : (0 : Int) ≤ (i : Int) := Int.natCast_nonneg _
      by_cases hin : i < lv.length
      · have i1 : (i : Int) < (lv.length : Int) := by omega
        obtain ⟨g, rfl⟩ := hA (by omega)
        obtain ⟨x, hx⟩ : ∃ p, lv[i]? = some p := ⟨lv[i], by simp [hin]⟩
        have hvr := hv.chg hC (by simp)
        obtain ⟨e0, e1, e2, e3⟩ := lvs_at hvr hx
        have hg := hvr.lt (g := g) rfl
        have hc := cmp122 wr bx r sd _ u (hC.at_ h (by simp)) (hC.at_ hb (by simp)) x.p x.q x.n x.u k (HP.out x (List.mem_of_getElem? hx))
        have hia : isAt sd lv k i = decide (keyS sd x.p = k) := by simp [isAt, hx]
        have HX := Lib.hid hia
        have HQ := Lib.hid hpos
        clear hx hvr hia hpos
        by_cases heq : keyS sd x.p = k
        · have d1 : (cmpK sd x.p k == 0) = true := by rw [beq_iff_eq]; exact cmpK_eq.2 heq
          have HE := Lib.hid heq
          clear heq
          go_wp2_with fail
          refine hc.mono ?_
          rintro e w' ⟨rfl, hC2⟩
          clear hc e0 e1 e2 e3 hg
          go_wp2
          go_ret2
          refine ⟨⟨i, ?_, HQ.out⟩, hC.trans hC2⟩
          rw [HX.out, decide_eq_true HE.out]
          rfl
        · have d1 : (cmpK sd x.p k == 0) = false := by rw [beq_eq_false_iff_ne]; exact fun h => heq (cmpK_eq.1 h)
          have HE := Lib.hid heq
          clear heq
          go_wp2_with fail
          refine hc.mono ?_
          rintro e w' ⟨rfl, hC2⟩
          clear hc e0 e1 e2 e3 hg
          go_wp2
          go_ret2
          refine ⟨⟨i, ?_, HQ.out⟩, hC.trans hC2⟩
          rw [HX.out, decide_eq_false HE.out]
          rfl
      · have hi2 : i = lv.length := by omega
        have HQ := Lib.hid hpos
        have hia : isAt sd lv k i = false := by simp [isAt, hi2]
        have HX := Lib.hid hia
        subst hi2
        clear hin hia hpos
        go_wp2
        go_ret2
        refine ⟨⟨lv.length, ?_, HQ.out⟩, hC⟩
        rw [HX.out]
        rfl

set_option maxRecDepth 100000 in
set_option maxHeartbeats 2000000 in
theorem place98 (w : World) (r : Nat) (sd : Int) (u : Nat) (lv : List Lvl) (h : LdAt w r sd lv u) (hl : LvPr lv) (hs : lv.Pairwise (fun a b => keyS sd a.p < keyS sd b.p)) (hlen : lv.length ≤ 1000) (p : Int) (hp : PrOk p) :
    Calls Try.prog 98 #[.pointer (some ⟨r, 0, none⟩), .int .i64 p] w fun e w' => (∃ i, e = .returned (.tuple #[.int .i64 (i : Nat), .bool (isAt sd lv (keyS sd p) i)]) ∧ IsPos sd lv (keyS sd p) i) ∧ Chg [] w w' := by
  obtain ⟨v, hb, hv⟩ := h
  have hA := Chg.alloc [] w (.cells #[.func (.func 120) #[.pointer (some ⟨r, 0, none⟩)] #[]] 212)
  have hbx : KeyBox (w.alloc (.cells #[.func (.func 120) #[.pointer (some ⟨r, 0, none⟩)] #[]] 212)) w.heap.size r := heap_alloc_new w _
  obtain ⟨W0, hW0⟩ : ∃ W0, W0 = w.alloc (.cells #[.func (.func 120) #[.pointer (some ⟨r, 0, none⟩)] #[]] 212) := ⟨_, rfl⟩
  have hz : W0.heap.size = w.heap.size + 1 := by rw [hW0]; simp
  go_enter Try.func98, Try.ntmps98
  go_wp2_with fail
  rw [← hW0] at hA hbx ⊢
  clear hW0
  have hb1 : LdBlk W0 r sd v u := hA.at_ hb (by simp)
  obtain ⟨_, _, c2, _⟩ := blk7v hb1
  have cx := blk1 hbx
  refine wp_cutR (Chg [] W0) 11 (by kernel_rfl) (by kernel_rfl) (fun _ h => h) (fun W hW hS => ?_)
  simp only [List.take_succ_cons, List.take_zero, List.drop_succ_cons, List.drop_zero]
  have hk := key120 W r sd v u (hS.at_ hb1 (by simp)) p hp
  have hbs := bsf121 W w.heap.size r sd v u lv (hS.at_ hb1 (by simp)) (hS.at_ hbx (by simp)) ((hv.chg hA (by simp)).chg hS (by simp)) hl hs hlen (keyS sd p)
  have HH := Lib.hid (And.intro hk hbs)
  have HW := Lib.hid hW
  clear hk hbs hW
  refine takeH 0 (v := ?vv245) rfl (by kernel_rfl) (by kernel_rfl) (by kernel_rfl) (fun _ _ _ h => h) (by kernel_rfl) (fun Wx hSx => ?hy245) (by assumption) ?hrest245
  case hy245 => go_simp; (try with_reducible rfl)
  simp only [Act.put, List.setIfInBounds_toArray]
  refine takeH 1 (v := ?vv248) rfl (by kernel_rfl) (by kernel_rfl) (by kernel_rfl) (fun _ _ _ h => h) (by kernel_rfl) (fun Wx hSx => ?hy248) (by assumption) ?hrest248
  case hy248 => go_simp; (try with_reducible rfl)
  simp only [Act.put]
  refine takeH 2 (v := ?vv251) rfl (by kernel_rfl) (by kernel_rfl) (by kernel_rfl) (fun _ _ _ h => h) (by kernel_rfl) (fun Wx hSx => ?hy251) (by assumption) ?hrest251
  case hy251 => go_simp; (try with_reducible rfl)
  simp only [Act.put]
  refine takeH 3 (v := ?vv254) rfl (by kernel_rfl) (by kernel_rfl) (by kernel_rfl) (fun _ _ _ h => h) (by kernel_rfl) (fun Wx hSx => ?hy254) (by assumption) ?hrest254
  case hy254 => have q0 := hSx.cell c2 (by simp); go_simp; (try with_reducible rfl)
  simp only [Act.put]
  refine takeH 4 (v := ?vv257) rfl (by kernel_rfl) (by kernel_rfl) (by kernel_rfl) (fun _ _ _ h => h) (by kernel_rfl) (fun Wx hSx => ?hy257) (by assumption) ?hrest257
  case hy257 => have q0 := hSx.cell cx (by simp); go_simp; (try with_reducible rfl)
  simp only [Act.put]
  refine takeH 5 (v := ?vv260) rfl (by kernel_rfl) (by kernel_rfl) (by kernel_rfl) (fun _ _ _ h => h) (by kernel_rfl) (fun Wx hSx => ?hy260) (by assumption) ?hrest260
  case hy260 => go_simp; (try with_reducible rfl)
  simp only [Act.put]
  refine takeH 7 (v := ?vv263) rfl (by kernel_rfl) (by kernel_rfl) (by kernel_rfl) (fun _ _ _ h => h) (by kernel_rfl) (fun Wx hSx => ?hy263) (by assumption) ?hrest263
  case hy263 => go_simp; (try with_reducible rfl)
  simp only [Act.put]
  refine wpAnyH_ready (rs := [6]) (by kernel_rfl) (by simp) ?_
  refine (AllReadyH.cons rfl (fun K hK => ?_) AllReadyH.nil)
  all_goals try simp only [List.getElem_toArray, List.getElem_cons_succ, List.getElem_cons_zero]
  go_simp
  refine HH.out.1.mono ?_
  rintro e w' ⟨rfl, rfl⟩
  go_simp
  refine hK.out _ _ (hS) (fun hHeld => ?_)
  clear hK K
  try simp only [Act.put, List.getElem_toArray, List.getElem_cons_succ, List.getElem_cons_zero, List.setIfInBounds_toArray, List.set_cons_zero, List.set_cons_succ]
  refine wpAnyH_ready (rs := [8]) (by kernel_rfl) (by simp) ?_
  refine (AllReadyH.cons rfl (fun K hK => ?_) AllReadyH.nil)
  all_goals try simp only [List.getElem_toArray, List.getElem_cons_succ, List.getElem_cons_zero]
  go_simp
  refine HH.out.2.mono ?_
  rintro e W2 ⟨⟨i, rfl, hi⟩, hC⟩
  go_simp
  refine hK.out _ _ (hS.trans hC) (fun hHeld => ?_)
  clear hK K
  try simp only [Act.put, List.getElem_toArray, List.getElem_cons_succ, List.getElem_cons_zero, List.setIfInBounds_toArray, List.set_cons_zero, List.set_cons_succ]
  refine takeH 9 (v := ?vv286) rfl (by kernel_rfl) (by kernel_rfl) (by kernel_rfl) (fun _ _ _ h => h) (by kernel_rfl) (fun Wx hSx => ?hy286) (by assumption) ?hrest286
  case hy286 => go_simp; (try with_reducible rfl)
  simp only [Act.put, List.setIfInBounds_toArray]
  refine takeH 10 (v := ?vv289) rfl (by kernel_rfl) (by kernel_rfl) (by kernel_rfl) (fun _ _ _ h => h) (by kernel_rfl) (fun Wx hSx => ?hy289) (by assumption) ?hrest289
  case hy289 => go_simp; (try with_reducible rfl)
  simp only [Act.put]
  refine wpAnyH_done (by kernel_rfl) ?_ _
  simp only [cutQ]
  have HI := Lib.hid hi
  clear hi
  go_wp2
  go_ret2
  exact ⟨⟨i, rfl, HI.out⟩, hA.trans hHeld⟩

set_option maxRecDepth 100000 in
set_option maxHeartbeats 2000000 in
theorem fits119 (w : World) (r : Nat) (sd : Int) (u : Nat) (lv : List Lvl) (h : LdAt w r sd lv u) (hl : LvPr lv) (hs : lv.Pairwise (fun a b => keyS sd a.p < keyS sd b.p)) (hlen : lv.length < 60) (p : Int) (hp : PrOk p) :
    Calls Try.prog 119 #[.pointer (some ⟨r, 0, none⟩), .int .i64 p] w fun e w' => e = .returned (.bool true) ∧ Chg [] w w' := by
  have hpl := place98 w r sd u lv h hl hs (by omega) p hp
  obtain ⟨v, hb, hv⟩ := h
  obtain ⟨A, c, rfl, _, hA⟩ := hv.form
  have d1 : decide ((lv.length : Int) < 60) = true := by simp; omega
  go_enter Try.func119, Try.ntmps119
  go_wp2_with fail
  refine hpl.mono ?_
  rintro e W ⟨⟨i, rfl, hi⟩, hC⟩
  obtain ⟨_, c1, c2, _⟩ := blk7v (hC.at_ hb (by simp))
  clear hpl hi
  cases hf : isAt sd lv (keyS sd p) i with
  | true =>
    go_wp2_with fail
    go_quiet (fail)
    go_wp2
    go_ret
    exact ⟨rfl, hC.trans (Chg.drewN _ _ _)⟩
  | false =>
    go_wp2_with fail
    go_quiet (fail)
    go_wp2
    go_ret
    exact ⟨rfl, hC.trans (Chg.drewN _ _ _)⟩
end Go.Proofs.Ytdcjfaplgpeonaa

/-
  The ladder: the least free queue; sums.
-/
namespace Go.Proofs.Ytdcjfaplgpeonaa
open Go.RowKit Go.Dm

/-- The bits of k queues. -/
def ones (k : Nat) : Nat := 2 ^ k - 1

theorem ones_div {k j : Nat} (h : j ≤ k) : ones k / 2 ^ j = 2 ^ (k - j) - 1 := by
  unfold ones
  have e : 2 ^ k = 2 ^ j * 2 ^ (k - j) := by rw [← Nat.pow_add]; congr 1; omega
  have hp : 0 < 2 ^ j := Nat.pow_pos (by omega)
  have hq : 0 < 2 ^ (k - j) := Nat.pow_pos (by omega)
  rw [e]
  generalize 2 ^ j = a at *
  generalize 2 ^ (k - j) = b at *
  obtain ⟨b', rfl⟩ : ∃ b', b = b' + 1 := ⟨b - 1, by omega⟩
  rw [Nat.mul_add, Nat.mul_one, Nat.add_sub_assoc (by omega), Nat.add_sub_cancel, Nat.mul_add_div hp, Nat.div_eq_of_lt (by omega)]
  rfl
theorem ones_lt {k : Nat} (h : k < 60) : ones k < 2 ^ 60 := by
  have : 2 ^ k < 2 ^ 60 := Nat.pow_lt_pow_right (by omega) h
  unfold ones; omega
theorem bit_yes {k j : Nat} (hk : k < 60) (h : j < k) : bits BinOp.and IntKind.u64 ((ones k : Int) / 2 ^ j) 1 = 1 := by
  have e : ((ones k : Int) / 2 ^ j) = ((2 ^ (k - j) - 1 : Nat) : Int) := by
    rw [← ones_div (by omega : j ≤ k)]; push_cast; rfl
  have hl : 2 ^ (k - j) ≤ 2 ^ 60 := Nat.pow_le_pow_right (by omega) (by omega)
  have hq : 2 ^ (k - j) = 2 * 2 ^ (k - j - 1) := by rw [← Nat.pow_succ']; congr 1; omega
  have hp : 0 < 2 ^ (k - j - 1) := Nat.pow_pos (by omega)
  rw [e, and_one_u64 _ (by omega) (by omega)]
  omega
theorem bit_no {k : Nat} (_hk : k < 60) : bits BinOp.and IntKind.u64 ((ones k : Int) / 2 ^ k) 1 = 0 := by
  have e : ((ones k : Int) / 2 ^ k) = 0 := by
    have h := ones_div (Nat.le_refl k)
    have : ((ones k / 2 ^ k : Nat) : Int) = 0 := by rw [h]; simp
    rw [← this]; push_cast; rfl
  rw [e, and_one_u64 _ (by omega) (by omega)]
  rfl
theorem ones_or (k : Nat) : ones k ||| 2 ^ k = ones (k + 1) := by
  unfold ones
  apply Nat.eq_of_testBit_eq
  intro i
  rw [Nat.testBit_or, Nat.testBit_two_pow_sub_one, Nat.testBit_two_pow, Nat.testBit_two_pow_sub_one]
  rw [Bool.eq_iff_iff]
  simp
  omega
theorem or_bit {k : Nat} (hk : k < 60) : bits BinOp.or IntKind.u64 (ones k : Int) (IntKind.u64.wrap (2 ^ k)) = (ones (k + 1) : Int) := by
  have h2 : 2 ^ k < 2 ^ 60 := Nat.pow_lt_pow_right (by omega) hk
  have e : IntKind.u64.wrap ((2 : Int) ^ k) = ((2 ^ k : Nat) : Int) := by
    rw [IntKind.wrap_u64]
    have : ((2 : Int) ^ k) = ((2 ^ k : Nat) : Int) := by push_cast; rfl
    rw [this]
    revert h2
    generalize (2 ^ k : Nat) = m
    intro h2
    omega
  have := ones_lt hk
  rw [e, bits_or_u64_nat _ _ (by omega) (by omega), ones_or]

set_option maxRecDepth 100000 in
set_option maxHeartbeats 2000000 in
theorem queue99 (w : World) (r : Nat) (sd : Int) (v : Value) (k : Nat) (hk : k < 60) (h : LdBlk w r sd v (ones k)) :
    Calls Try.prog 99 #[.pointer (some ⟨r, 0, none⟩)] w fun e w' => e = .returned (.int .i64 k) ∧ LdBlk w' r sd v (ones (k + 1)) ∧ Chg [r] w w' := by
  obtain ⟨c0, c1, c2, c3, c4, c5, c6⟩ := blk7v h
  have k0 : (0 : Int) ≤ (k : Int) := Int.natCast_nonneg _
  have k1 : (k : Int) < 60 := by omega
  have f3 : w.frozen? ⟨r, 3, none⟩ = false := by simp [World.frozen?, show w.heap[r]? = _ from h]
  have hr := blk_lt (show w.heap[r]? = _ from h)
  have t1 : ((ones k : Int) == 18446744073709551615) = false := by
    rw [beq_eq_false_iff_ne]
    have : 2 ^ k < 2 ^ 60 := Nat.pow_lt_pow_right (by omega) hk
    unfold ones
    omega
  go_enter Try.func99, Try.ntmps99
  go_wp2_with fail
  go_loopg [6] 1 (fun m i wr => i = .int .i64 0 ∧ wr = w)
  case atStart => exact ⟨rfl, rfl⟩
  case round =>
    obtain ⟨rfl, rfl⟩ := hrel
    obtain ⟨wo, rfl⟩ : ∃ wo : World, wo = wr := ⟨_, rfl⟩
    go_wp2_with fail
    go_loopg [5] (k + 1) (fun m b wr => ∃ j : Nat, j ≤ k ∧ m = k - j + 1 ∧ b = .int .i64 j ∧ wr = wo)
    case atStart => exact ⟨0, Nat.zero_le _, rfl, rfl, rfl⟩
    case round =>
      obtain ⟨j, hj, hm, rfl, rfl⟩ := hrel
      have Hm := Lib.hid hm
      clear hm
      have j0 : (0 : Int) ≤ (j : Int) := Int.natCast_nonneg _
      have j1 : (j : Int) < 64 := by omega
      by_cases hjk : j < k
      · have hb := bit_yes hk hjk
        have t2 : ((1 : Int) == 1) = true := rfl
        clear hj
        go_wp2_with fail
        go_roundg (k - (j + 1) + 1)
        case measure => rw [Hm.out]; omega
        case rel => exact ⟨j + 1, by omega, rfl, by go_num, rfl⟩
      · have hjk2 : j = k := by omega
        subst hjk2
        have hb := bit_no hk
        have hor := or_bit hk
        go_wp2_with fail
        refine wp_tail 11 (by kernel_rfl) (by kernel_rfl) ?_
        intro W hW
        have c3 := hW.cell c3 (by simp)
        have f3 : W.frozen? ⟨r, 3, none⟩ = false := by simp [World.frozen?, hW.at_ (show wr.heap[r]? = _ from h) (by simp)]
        have hr := blk_lt (hW.at_ (show wr.heap[r]? = _ from h) (by simp))
        have h2 := hW.at_ (show wr.heap[r]? = _ from h) (by simp)
        simp only [List.take_succ_cons, List.take_zero, List.drop_succ_cons, List.drop_zero]
        repeat still_step
        refine wpStill_nil ?_
        clear c0 c1 c2 c4 c5 c6
        have H := Lib.hid (And.intro h2 hW)
        clear h2 hW h
        go_wp2
        go_ret
        refine ⟨rfl, ?_, H.out.2.nil.trans (Chg.setCell W _ _ (by simp))⟩
        unfold LdBlk
        rw [blk_set H.out.1]
        simp

theorem xor_i64 (a b : Nat) (ha : a < 2 ^ 62) (hb : b < 2 ^ 62) : bits .xor .i64 (a : Int) (b : Int) = ((a ^^^ b : Nat) : Int) ∧ a ^^^ b < 2 ^ 62 := by
  have hx : a ^^^ b < 2 ^ 62 := Nat.xor_lt_two_pow ha hb
  have h1 : (BitVec.ofInt 64 (a : Int)).toNat = a := by
    rw [BitVec.ofInt_natCast, BitVec.toNat_ofNat]; exact Nat.mod_eq_of_lt (by omega)
  have h2 : (BitVec.ofInt 64 (b : Int)).toNat = b := by
    rw [BitVec.ofInt_natCast, BitVec.toNat_ofNat]; exact Nat.mod_eq_of_lt (by omega)
  refine ⟨?_, hx⟩
  show IntKind.i64.wrap ((BitVec.ofInt 64 (a : Int) ^^^ BitVec.ofInt 64 (b : Int)).toNat : Int) = _
  rw [BitVec.toNat_xor, h1, h2]
  exact IntWalk.i64_in _ (by omega)
theorem and_i64 (a b : Nat) (ha : a < 2 ^ 62) (hb : b < 2 ^ 62) : bits .and .i64 (a : Int) (b : Int) = ((a &&& b : Nat) : Int) := by
  have hx : a &&& b < 2 ^ 62 := Nat.and_lt_two_pow _ hb
  have h1 : (BitVec.ofInt 64 (a : Int)).toNat = a := by
    rw [BitVec.ofInt_natCast, BitVec.toNat_ofNat]; exact Nat.mod_eq_of_lt (by omega)
  have h2 : (BitVec.ofInt 64 (b : Int)).toNat = b := by
    rw [BitVec.ofInt_natCast, BitVec.toNat_ofNat]; exact Nat.mod_eq_of_lt (by omega)
  show IntKind.i64.wrap ((BitVec.ofInt 64 (a : Int) &&& BitVec.ofInt 64 (b : Int)).toNat : Int) = _
  rw [BitVec.toNat_and, h1, h2]
  exact IntWalk.i64_in _ (by omega)
theorem no_over (a b : Int) (ha : 0 ≤ a) (hb : 0 ≤ b) (ha2 : a ≤ 1000000000000) (hb2 : b ≤ 1000000000000) :
    decide (bits BinOp.and IntKind.i64 (bits BinOp.xor IntKind.i64 a (a + b)) (bits BinOp.xor IntKind.i64 b (a + b)) < 0) = false := by
  obtain ⟨m, rfl⟩ := Int.eq_ofNat_of_zero_le ha
  obtain ⟨n, rfl⟩ := Int.eq_ofNat_of_zero_le hb
  have e : ((m : Int) + (n : Int)) = ((m + n : Nat) : Int) := by push_cast; rfl
  have x1 := xor_i64 m (m + n) (by omega) (by omega)
  have x2 := xor_i64 n (m + n) (by omega) (by omega)
  rw [e, x1.1, x2.1, and_i64 _ _ x1.2 x2.2]
  simp

set_option maxHeartbeats 1000000 in
theorem fadd101 (w : World) (a b : Int) (ha : 0 ≤ a) (hb : 0 ≤ b) (ha2 : a ≤ 1000000000000) (hb2 : b ≤ 1000000000000) :
    Calls Try.prog 101 #[.int .i64 a, .int .i64 b] w fun e w' => e = .returned (.tuple #[.int .i64 (a + b), .bool true]) ∧ w = w' := by
  have hno := no_over a b ha hb ha2 hb2
  go_enter Try.func101, Try.ntmps101
  go_wp2
  go_ret2
  exact ⟨rfl, rfl⟩
end Go.Proofs.Ytdcjfaplgpeonaa
