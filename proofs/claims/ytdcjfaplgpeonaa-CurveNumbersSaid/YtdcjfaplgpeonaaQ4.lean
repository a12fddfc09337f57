/-
  The reference's book (a list of orders): New, Find, Fits, Room, Add.
-/
import Derived.Deep.CutBlock
import Derived.Deep.DeepCutAuto
import Derived.Test.YtdcjfaplgpeonaaQ3
import Derived.Test.YtdcjfaplgpeonaaQ1
namespace Go.Proofs.Ytdcjfaplgpeonaa
open Go.RowKit Go.Dm

abbrev Ord := Nat → Int
def oE (o : Ord) : List Value := [.int .i64 (o 0), .int .i64 (o 1), .int .i64 (o 2), .int .i64 (o 3), .int .i64 (o 4), .int .i64 (o 5), .int .i64 (o 6)]
theorem oR : REnc 7 oE := ⟨fun _ => rfl, fun a u hu => by simp [oE] at hu; rcases hu with rfl | rfl | rfl | rfl | rfl | rfl | rfl <;> rfl⟩
theorem elem43 : ElemIs Try.prog 43 52 7 56 := ⟨Try.underlying43, by
  obtain ⟨i, hi, hz, h1, h2⟩ := info_parts (show (Try.prog.info? 52).map (fun i => (i.zero, i.size, i.bytes)) = some (some (.agg #[.int .i64 0, .int .i64 0, .int .i64 0, .int .i64 0, .int .i64 0, .int .i64 0, .int .i64 0]), 7, 56) by kernel_rfl)
  exact ⟨i, _, hi, hz, h1, h2, rfl⟩, by decide⟩
theorem ords_at {w : World} {g n c : Nat} {l : List Ord} (h : SlAt 52 7 oE w (.slice (some ⟨g, 0, none⟩) n c) l) {k : Nat} {o : Ord} (hp : l[k]? = some o) :
    w.cell? ⟨g, k * 7, none⟩ = some (.int .i64 (o 0)) ∧ w.cell? ⟨g, k * 7 + 1, none⟩ = some (.int .i64 (o 1)) ∧ w.cell? ⟨g, k * 7 + 2, none⟩ = some (.int .i64 (o 2)) ∧ w.cell? ⟨g, k * 7 + 3, none⟩ = some (.int .i64 (o 3)) ∧
    w.cell? ⟨g, k * 7 + 4, none⟩ = some (.int .i64 (o 4)) ∧ w.cell? ⟨g, k * 7 + 5, none⟩ = some (.int .i64 (o 5)) ∧ w.cell? ⟨g, k * 7 + 6, none⟩ = some (.int .i64 (o 6)) :=
  ⟨h.at_ oR hp (j := 0) (by omega), h.at_ oR hp (j := 1) (by omega), h.at_ oR hp (j := 2) (by omega), h.at_ oR hp (j := 3) (by omega), h.at_ oR hp (j := 4) (by omega), h.at_ oR hp (j := 5) (by omega), h.at_ oR hp (j := 6) (by omega)⟩

/-- The reference's book in block r: 60 slots, 60 levels, these orders. -/
def BkR (w : World) (r : Nat) (l : List Ord) : Prop := ∃ v, w.heap[r]? = some (.cells #[.int .i64 60, .int .i64 60, v] 127 (0, 0)) ∧ SlAt 52 7 oE w v l
theorem BkR.lt {w : World} {r : Nat} {l : List Ord} (h : BkR w r l) : r < w.heap.size := by obtain ⟨v, h, _⟩ := h; exact blk_lt h
theorem BkR.chg {w w' : World} {r : Nat} {l : List Ord} {S : List Nat} (h : BkR w r l) (hc : Chg S w w') (h0 : r ∉ S) (h1 : ∀ k ∈ S, w.heap.size ≤ k ∨ ∃ o, w.heap[k]? = some o ∧ ∀ cs, o ≠ .cells cs 52 (0, 0)) : BkR w' r l := by
  obtain ⟨v, h, hs⟩ := h
  refine ⟨v, hc.at_ h h0, hs.chg hc fun g hg hm => ?_⟩
  obtain ⟨cur, hcur⟩ := hs.typed hg
  rcases h1 g hm with h | ⟨o, ho, hne⟩
  · have := hs.lt hg; omega
  · rw [hcur] at ho; cases ho; exact hne _ rfl
theorem blk3 {w : World} {b : Nat} {u v x : Value} {t : TypeId} {fr : Nat × Nat} (h : w.heap[b]? = some (.cells #[u, v, x] t fr)) : w.cell? ⟨b, 0, none⟩ = some u ∧ w.cell? ⟨b, 1, none⟩ = some v ∧ w.cell? ⟨b, 2, none⟩ = some x := by
  simp [World.cell?, h]

set_option maxHeartbeats 1000000 in
theorem rbnew (w : World) : Calls Try.prog 65 #[.int .i64 60, .int .i64 60] w fun e w' => e = .returned (.tuple #[.pointer (some ⟨w.heap.size, 0, none⟩), .int .i64 0]) ∧ BkR w' w.heap.size [] ∧ Chg [] w w' := by
  go_enter Try.func65, Try.ntmps65
  go_wp2
  go_ret2
  exact ⟨rfl, ⟨_, heap_alloc_new w _, SlAt.nil _ _ _ _⟩, Chg.alloc _ _ _⟩

set_option maxHeartbeats 1000000 in
theorem sided_any (w : World) (n : Int) : Calls Try.prog 84 #[.int .i64 n] w fun e w' => e = .returned (.bool (decide (n = 0 ∨ n = 1))) ∧ w = w' := by
  by_cases h0 : n = 0
  · subst h0
    go_enter Try.func84, Try.ntmps84
    go_wp2
    go_ret
    exact ⟨rfl, rfl⟩
  · have t0 : (n == 0) = false := by simpa using h0
    by_cases h1 : n = 1
    · subst h1
      clear h0 t0
      go_enter Try.func84, Try.ntmps84
      go_wp2
      go_ret
      exact ⟨rfl, rfl⟩
    · have t1 : (n == 1) = false := by simpa using h1
      have hd : decide (n = 0 ∨ n = 1) = false := by simp [h0, h1]
      rw [hd]
      clear h0 h1 hd
      go_enter Try.func84, Try.ntmps84
      go_wp2
      go_ret
      exact ⟨rfl, rfl⟩

/-- Has an order of these that ID? -/
def hasId (l : List Ord) (id : Int) : Bool := l.any (fun o => decide (o 0 = id))

set_option maxHeartbeats 1000000 in
theorem rbfind (w : World) (r : Nat) (l : List Ord) (h : BkR w r l) (id : Int) (hlen : l.length ≤ 1000) :
    Calls Try.prog 85 #[.pointer (some ⟨r, 0, none⟩), .int .i64 id] w fun e w' => (∃ n : Int, e = .returned (.int .i64 n) ∧ decide (n ≥ 0) = hasId l id) ∧ w = w' := by
  obtain ⟨v, hb, hs⟩ := h
  obtain ⟨A, c, rfl, _, hA⟩ := hs.form
  obtain ⟨_, _, c2⟩ := blk3 hb
  go_enter Try.func85, Try.ntmps85
  go_wp2
  go_loop [5] (fun i => ∃ k : Nat, k ≤ l.length ∧ i = .int .i64 k ∧ ∀ j, j < k → ∀ p, l[j]? = some p → p 0 ≠ id) (fun i => l.length - (intOf i).toNat)
  case atStart => exact ⟨0, Nat.zero_le _, rfl, fun j hj => by omega⟩
  case round =>
    obtain ⟨k, hk, rfl, hno⟩ := hrel
    have A1 := Lib.hid hno
    clear hno
    by_cases hlt : k < l.length
    · obtain ⟨g, rfl⟩ := hA (by omega)
      obtain ⟨o, hp⟩ : ∃ p, l[k]? = some p := ⟨l[k], by simp [hlt]⟩
      obtain ⟨e0, _⟩ := ords_at hs hp
      have B := Lib.hid hp
      clear hp hs
      by_cases h1 : o 0 = id
      · have t1 : (o 0 == id) = true := by rw [beq_iff_eq]; exact h1
        have C := Lib.hid h1
        clear h1
        go_wp2
        go_ret
        refine ⟨⟨_, rfl, ?_⟩, rfl⟩
        have : hasId l id = true := List.any_eq_true.2 ⟨o, List.mem_of_getElem? B.out, by simp [C.out]⟩
        rw [this]; simp
      · have t1 : (o 0 == id) = false := by rw [beq_eq_false_iff_ne]; exact h1
        have C := Lib.hid h1
        clear h1
        go_wp2
        go_round
        case rel =>
          refine ⟨k + 1, by omega, by go_num, fun j hj p hp => ?_⟩
          by_cases e : j = k
          · subst e; rw [B.out] at hp; cases hp; exact C.out
          · exact A1.out j (by omega) p hp
        case measure => simp [intOf]; omega
    · go_wp2
      go_ret
      refine ⟨⟨_, rfl, ?_⟩, rfl⟩
      have : hasId l id = false := by
        rw [hasId, List.any_eq_false]
        intro o ho
        obtain ⟨j, hj⟩ := List.mem_iff_getElem?.1 ho
        simpa using A1.out j (by have := (List.getElem?_eq_some_iff.1 hj).1; omega) o hj
      rw [this]; simp
end Go.Proofs.Ytdcjfaplgpeonaa

/-
  The reference's book: Fits, Room, Add.
-/
namespace Go.Proofs.Ytdcjfaplgpeonaa
open Go.RowKit Go.Dm

def FitRel (l : List Ord) (w : World) (m : Nat) (ps i : Value) (wr : World) : Prop :=
  ∃ (k : Nat) (l2 : List Int), k ≤ l.length ∧ m = l.length - k + 1 ∧ i = .int .i64 k ∧ SlAt 2 1 idE wr ps l2 ∧ l2.length ≤ k ∧ Fresh w.heap.size ps ∧ Chg [] w wr

set_option maxRecDepth 100000 in
set_option maxHeartbeats 4000000 in
theorem rbfits (w : World) (r : Nat) (l : List Ord) (h : BkR w r l) (sd pr : Int) (hlen : l.length < 60) :
    Calls Try.prog 104 #[.pointer (some ⟨r, 0, none⟩), .int .i64 sd, .int .i64 pr] w fun e w' => e = .returned (.bool true) ∧ Chg [] w w' := by
  have hr := h.lt
  obtain ⟨v, hb, hs⟩ := h
  obtain ⟨A, c, rfl, _, hA⟩ := hs.form
  go_enter Try.func104, Try.ntmps104
  go_wp2
  go_loopg [7, 8] (l.length + 1) (fun m ps i wr => FitRel l w m ps i wr)
  case atStart => exact ⟨0, [], Nat.zero_le _, rfl, rfl, SlAt.nil _ _ _ _, Nat.le_refl _, Fresh.none, Chg.refl _ _⟩
  case round =>
    obtain ⟨k, l2, hk, hm, rfl, hs2, hl2, hF, hC⟩ := hrel
    have Hm := Lib.hid hm
    clear hm
    have hbr := hC.at_ hb (by simp)
    obtain ⟨_, c1, c2⟩ := blk3 hbr
    have hrr := blk_lt hbr
    have hl60 : l2.length < 60 := by omega
    obtain ⟨A2, cc2, rfl, _, hA2⟩ := hs2.form
    by_cases hlt : k < l.length
    · obtain ⟨g, rfl⟩ := hA (by omega)
      obtain ⟨o, hp⟩ : ∃ p, l[k]? = some p := ⟨l[k], by simp [hlt]⟩
      obtain ⟨e0, e1, e2, e3, _⟩ := ords_at (hs.chg hC (by simp)) hp
      have Hp := Lib.hid hp
      clear hp
      have k0 : (0 : Int) ≤ (k : Int) := Int.natCast_nonneg _
      have k1 : (k : Int) < (l.length : Int) := by omega
      obtain ⟨wo, rfl⟩ : ∃ wo : World, wo = wr := ⟨_, rfl⟩
      go_upto_block 2 with fail
      go_cut [9] from 20 to 41 (fun u9 W => ∃ (b : Bool) (m : Nat), u9 = .bool b ∧ W = wo.drewN m)
      case first =>
        go_wp2
        go_loopg [9, 10] (l2.length + 1) (fun n u9 i W => ∃ (b : Bool) (j m : Nat), j ≤ l2.length ∧ n = l2.length - j + 1 ∧ u9 = .bool b ∧ i = .int .i64 j ∧ W = wo.drewN m)
        case atStart => exact ⟨false, 0, 0, Nat.zero_le _, rfl, rfl, rfl, rfl⟩
        case round =>
          obtain ⟨b, j, m, hj, hn, rfl, rfl, rfl⟩ := hrel
          have Hj := Lib.hid hn
          clear hn
          by_cases hjl : j < l2.length
          · obtain ⟨g5, rfl⟩ := hA2 (by omega)
            obtain ⟨q, hq⟩ : ∃ q, l2[j]? = some q := ⟨l2[j], by simp [hjl]⟩
            have d0 := hs2.at_ idR hq (j := 0) (by omega)
            simp only [Nat.mul_one, Nat.add_zero, idE, List.getElem?_cons_zero] at d0
            have Hq := Lib.hid hq
            clear hq
            have j0 : (0 : Int) ≤ (j : Int) := Int.natCast_nonneg _
            have j1 : (j : Int) < (l2.length : Int) := by omega
            cases b with
            | true =>
              go_wp2
              go_quiet (fail)
              go_wp2
              go_roundg (l2.length - (j + 1) + 1)
              case measure => rw [Hj.out]; omega
              case rel => exact ⟨true, j + 1, m + nq, by omega, rfl, rfl, by go_num, rfl⟩
            | false =>
              go_wp2
              go_quiet (fail)
              go_wp2
              go_roundg (l2.length - (j + 1) + 1)
              case measure => rw [Hj.out]; omega
              case rel => exact ⟨_, j + 1, m + nq, by omega, rfl, rfl, by go_num, rfl⟩
          · go_wp2_with fail
            go_meet
            exact ⟨b, m, rfl, rfl⟩
      case rest =>
        obtain ⟨b, m, rfl, rfl⟩ := hcut
        have hCb := hC.trans (Chg.drewN [] wo m)
        have hsb := hs2.chg (Chg.drewN [] wo m) (by simp)
        have f1 := (Chg.drewN [] wo m).cell c1 (by simp)
        have f2 := (Chg.drewN [] wo m).cell c2 (by simp)
        have g2 := (Chg.drewN [] wo m).cell e2 (by simp)
        have g3 := (Chg.drewN [] wo m).cell e3 (by simp)
        obtain ⟨wb, hwb⟩ : ∃ wb, wb = wo.drewN m := ⟨_, rfl⟩
        rw [← hwb] at hCb hsb f1 f2 g2 g3 ⊢
        clear hwb hC hs2 c1 c2 e0 e1 e2 e3 hbr hrr
        have hbr := hCb.at_ hb (by simp)
        have hrb := blk_lt hbr
        by_cases hsd : o 2 = sd
        · have t1 : (o 2 == sd) = true := by rw [beq_iff_eq]; exact hsd
          clear hsd
          by_cases hpr : o 3 = pr
          · have t2 : (o 3 == pr) = true := by rw [beq_iff_eq]; exact hpr
            clear hpr
            cases b with
            | true =>
              go_wp2
              go_ret
              exact ⟨rfl, hCb⟩
            | false =>
              go_wp2_with (at_builtin; go_must (refine wpL_append' rfl _ _ 91 rfl idR elem91 (w0 := w) (l2 := [o 3]) (hCb.trans (Chg.alloc [] wb (.cells #[.int .i64 (o 3)] 2))) (hsb.chg (Chg.alloc [] wb (.cells #[.int .i64 (o 3)] 2)) (by simp)) hF (SrcAt.one (renc := idE) (a := o 3) (t := 2) (fr := (0, 0)) (by exact heap_alloc_new wb (.cells #[.int .i64 (o 3)] 2)) 1) rfl rfl (by simp; omega) (by omega) ?_))
              intro v2 W2 hs3 hC3 hF3 _
              have hbr3 := hC3.at_ hb (by simp)
              obtain ⟨_, c1, c2⟩ := blk3 hbr3
              obtain ⟨e0, e1, e2, e3, _⟩ := ords_at (hs.chg hC3 (by simp)) Hp.out
              clear hsb f1 f2 g2 g3 hCb hF
              go_wp2
              go_ret
              exact ⟨rfl, hC3⟩
          · have t2 : (o 3 == pr) = false := by rw [beq_eq_false_iff_ne]; exact hpr
            clear hpr
            cases b with
            | true =>
              go_wp2
              go_roundg (l.length - (k + 1) + 1)
              case measure => rw [Hm.out]; omega
              case rel => exact ⟨k + 1, l2, by omega, rfl, by go_num, hsb, by omega, hF, hCb⟩
            | false =>
              go_wp2_with (at_builtin; go_must (refine wpL_append' rfl _ _ 91 rfl idR elem91 (w0 := w) (l2 := [o 3]) (hCb.trans (Chg.alloc [] wb (.cells #[.int .i64 (o 3)] 2))) (hsb.chg (Chg.alloc [] wb (.cells #[.int .i64 (o 3)] 2)) (by simp)) hF (SrcAt.one (renc := idE) (a := o 3) (t := 2) (fr := (0, 0)) (by exact heap_alloc_new wb (.cells #[.int .i64 (o 3)] 2)) 1) rfl rfl (by simp; omega) (by omega) ?_))
              intro v2 W2 hs3 hC3 hF3 _
              have hbr3 := hC3.at_ hb (by simp)
              obtain ⟨_, c1, c2⟩ := blk3 hbr3
              obtain ⟨e0, e1, e2, e3, _⟩ := ords_at (hs.chg hC3 (by simp)) Hp.out
              clear hsb f1 f2 g2 g3 hCb hF
              go_wp2
              go_roundg (l.length - (k + 1) + 1)
              case measure => rw [Hm.out]; omega
              case rel => exact ⟨k + 1, _, by omega, rfl, by go_num, hs3, by simp; omega, hF3, hC3⟩
        · have t1 : (o 2 == sd) = false := by rw [beq_eq_false_iff_ne]; exact hsd
          clear hsd
          go_wp2
          go_roundg (l.length - (k + 1) + 1)
          case measure => rw [Hm.out]; omega
          case rel => exact ⟨k + 1, l2, by omega, rfl, by go_num, hsb, by omega, hF, hCb⟩
    · have k1 : decide ((k : Int) < (l.length : Int)) = false := by simp; omega
      have k2 : decide ((l2.length : Int) < 60) = true := by simp; omega
      go_wp2
      go_ret
      exact ⟨rfl, hC⟩

set_option maxRecDepth 100000 in
set_option maxHeartbeats 2000000 in
theorem rbroom (w : World) (r : Nat) (l : List Ord) (h : BkR w r l) (sd pr : Int) (hlen : l.length < 60) :
    Calls Try.prog 86 #[.pointer (some ⟨r, 0, none⟩), .int .i64 sd, .int .i64 pr] w fun e w' => e = .returned (.bool true) ∧ Chg [] w w' := by
  have hr := h.lt
  obtain ⟨v, hb, hs⟩ := id h
  obtain ⟨A, c, rfl, _, hA⟩ := hs.form
  obtain ⟨c0, c1, c2⟩ := blk3 hb
  have k2 : decide ((l.length : Int) < 60) = true := by simp; omega
  go_enter Try.func86, Try.ntmps86
  go_wp2_with fail
  refine wp_tail 14 (by kernel_rfl) (by kernel_rfl) ?_
  intro W hW
  have hf := rbfits W r l (h.chg hW (by simp) (by simp)) sd pr hlen
  have c0 := hW.cell c0 (by simp)
  have c2 := hW.cell c2 (by simp)
  simp only [List.take_succ_cons, List.take_zero, List.drop_succ_cons, List.drop_zero]
  repeat still_step
  refine wpStill_nil ?_
  go_wp2_with fail
  refine hf.mono ?_
  rintro e w' ⟨rfl, hC⟩
  go_wp2
  go_ret
  exact ⟨rfl, hW.trans hC⟩

end Go.Proofs.Ytdcjfaplgpeonaa

/-
  The reference's book: Add.
-/
namespace Go.Proofs.Ytdcjfaplgpeonaa
open Go.RowKit Go.Dm

/-- What the book takes. -/
def okO (o : Ord) : Bool := decide (o 2 = 0 ∨ o 2 = 1) && (decide (1 ≤ o 3) && decide (o 3 ≤ 1099511627776) && decide (1 ≤ o 4) && decide (o 4 ≤ 4294967296))
def takes (l : List Ord) (o : Ord) : Bool := okO o && !hasId l (o 0)
def addL (l : List Ord) (o : Ord) : List Ord := if takes l o then l ++ [o] else l

theorem rb_end {w wb W : World} {r : Nat} {v0 v : Value} {l : List Ord} (hr : r < w.heap.size) (hCb : Chg [] w wb) (hC : Chg [] wb W) (hb : W.heap[r]? = some (.cells #[.int .i64 60, .int .i64 60, v0] 127 (0, 0))) (hs : SlAt 52 7 oE W v l) (hF : Fresh wb.heap.size v) :
    (∃ n : Int, Ending.returned (.int .i64 0) = .returned (.int .i64 n)) ∧ BkR (W.setCell ⟨r, 2, none⟩ v) r l ∧ Chg [r] w (W.setCell ⟨r, 2, none⟩ v) := by
  have hC2 : Chg [r] W (W.setCell ⟨r, 2, none⟩ v) := Chg.setCell W _ _ (by simp)
  refine ⟨⟨_, rfl⟩, ⟨v, by rw [blk_set hb]; simp, hs.chg hC2 fun g hg hm => ?_⟩, (hCb.nil.trans hC.nil).trans hC2⟩
  have := hF g hg
  have := hCb.size
  simp at hm
  omega

set_option maxRecDepth 100000 in
set_option maxHeartbeats 4000000 in
theorem rbadd (w : World) (r : Nat) (l : List Ord) (h : BkR w r l) (o : Ord) (hlen : l.length < 60) :
    Calls Try.prog 67 #[.pointer (some ⟨r, 0, none⟩), oV o] w fun e w' => (∃ n : Int, e = .returned (.int .i64 n)) ∧ BkR w' r (addL l o) ∧ Chg [r] w w' := by
  have hr := h.lt
  have hA0 := Chg.alloc [] w (.cells (oCs o) 52)
  have bx0 : (w.alloc (.cells (oCs o) 52)).heap[w.heap.size]? = some (.cells (oCs o) 52 (0, 0)) := heap_alloc_new w _
  have h0 := h.chg hA0 (by simp) (by simp)
  unfold oV
  unfold oCs at hA0 bx0 h0
  obtain ⟨x0, x1, x2, x3, x4, x5, x6⟩ := blk7 (o := o) bx0
  obtain ⟨w0, hw0⟩ : ∃ w0, w0 = w.alloc (.cells #[.int .i64 (o 0), .int .i64 (o 1), .int .i64 (o 2), .int .i64 (o 3), .int .i64 (o 4), .int .i64 (o 5), .int .i64 (o 6)] 52) := ⟨_, rfl⟩
  have hs := sided_any w0 (o 2)
  have hf := rbfind w0 r l (hw0 ▸ h0) (o 0) (by omega)
  have hR := rbroom w0 r l (hw0 ▸ h0) (o 2) (o 3) hlen
  by_cases hsd : o 2 = 0 ∨ o 2 = 1
  · have t1 : decide (o 2 = 0 ∨ o 2 = 1) = true := decide_eq_true hsd
    rw [t1] at hs
    by_cases hrg : (o 3 < 1 ∨ o 3 > 1099511627776) ∨ (o 4 < 1 ∨ o 4 > 4294967296)
    · have hn : addL l o = l := by
        have : takes l o = false := by simp [takes, okO]; omega
        simp [addL, this]
      rw [hn]
      clear hn hsd t1 hR hf
      have fin : ∃ p1 p2 p3 p4 : Bool, decide (o 3 < 1) = p1 ∧ decide (o 3 > 1099511627776) = p2 ∧ decide (o 4 < 1) = p3 ∧ decide (o 4 > 4294967296) = p4 ∧ (p1 || p2 || p3 || p4) = true := ⟨_, _, _, _, rfl, rfl, rfl, rfl, by simp; omega⟩
      obtain ⟨p1, p2, p3, p4, h1, h2, h3, h4, hp⟩ := fin
      clear hrg
      cases p1 <;> cases p2 <;> cases p3 <;> cases p4 <;> first | (exact absurd hp (by decide)) | skip
      all_goals
        clear hp
        go_enter Try.func67, Try.ntmps67
        go_wp2_with fail
        rw [← hw0]
        refine hs.mono ?_
        rintro e w' ⟨rfl, rfl⟩
        subst hw0
        go_wp2
        go_ret
        exact ⟨⟨_, rfl⟩, h0, hA0.nil⟩
    · have hok : okO o = true := by simp [okO]; omega
      have h1 : decide (o 3 < 1) = false := by simp; omega
      have h2 : decide (o 3 > 1099511627776) = false := by simp; omega
      have h3 : decide (o 4 < 1) = false := by simp; omega
      have h4 : decide (o 4 > 4294967296) = false := by simp; omega
      clear hrg hsd t1
      cases hI : hasId l (o 0) with
      | true =>
        have hn : addL l o = l := by simp [addL, takes, hI]
        rw [hn]
        rw [hI] at hf
        clear hn hok hI
        go_enter Try.func67, Try.ntmps67
        go_wp2_with fail
        rw [← hw0]
        refine hs.mono ?_
        rintro e w' ⟨rfl, rfl⟩
        subst hw0
        go_wp2_with fail
        refine hf.mono ?_
        rintro e w' ⟨⟨n, rfl, hn⟩, rfl⟩
        go_wp2
        go_ret
        exact ⟨⟨_, rfl⟩, h0, hA0.nil⟩
      | false =>
        have hn : addL l o = [] ++ l ++ [o] := by simp [addL, takes, hI, hok]
        rw [hn]
        rw [hI] at hf
        clear hn hok hI
        go_enter Try.func67, Try.ntmps67
        go_wp2_with fail
        rw [← hw0]
        refine hs.mono ?_
        rintro e w' ⟨rfl, rfl⟩
        subst hw0
        go_wp2_with fail
        refine hf.mono ?_
        rintro e w' ⟨⟨n, rfl, hn⟩, rfl⟩
        go_wp2_with fail
        refine hR.mono ?_
        rintro e wb ⟨rfl, hC⟩
        have hb0 := h0.chg hC (by simp) (by simp)
        obtain ⟨v, hb, hsl⟩ := hb0
        obtain ⟨A, c, rfl, _, hA⟩ := hsl.form
        have f0 := (blk3 hb).2.2
        have hCb : Chg [] w wb := hA0.nil.trans hC
        have y0 := hC.cell x0 (by simp)
        have y1 := hC.cell x1 (by simp)
        have y2 := hC.cell x2 (by simp)
        have y3 := hC.cell x3 (by simp)
        have y4 := hC.cell x4 (by simp)
        have y5 := hC.cell x5 (by simp)
        have y6 := hC.cell x6 (by simp)
        clear hs hf hR h0 bx0 x0 x1 x2 x3 x4 x5 x6 hn h1 h2 h3 h4 hC
        have hwb : w.heap.size < wb.heap.size := World.block_lt_of_cell? wb ⟨w.heap.size, 0, none⟩ y0
        have hrb : r < wb.heap.size := blk_lt hb
        have hU := hsl.src
        have HU := Lib.hid hU
        have hl1 : ([] : List Ord).length + l.length ≤ 1000000 := by simp; omega
        have hl2 : ([] ++ l).length + [o].length ≤ 1000000 := by simp; omega
        clear hU hA
        have hne : r ≠ w.heap.size := by omega
        go_wp2_with fail
        refine wp_cutR (Chg [] wb) 10 (by kernel_rfl) (by kernel_rfl) (fun _ h => h) (fun W hW hS => ?_)
        simp only [List.take_succ_cons, List.take_zero, List.drop_succ_cons, List.drop_zero]
        have hA := Lib.hid hW
        clear hW
        refine takeH 0 (v := ?vv128) rfl (by kernel_rfl) (by kernel_rfl) (by kernel_rfl) (fun _ _ _ h => h) (by rfl) (fun Wx hSx => ?hy128) (by assumption) ?hrest128
        case hy128 => go_simp; (try with_reducible rfl)
        simp only [Act.put, List.setIfInBounds_toArray]
        refine takeH 2 (v := ?vv131) rfl (by kernel_rfl) (by kernel_rfl) (by kernel_rfl) (fun _ _ _ h => h) (by rfl) (fun Wx hSx => ?hy131) (by assumption) ?hrest131
        case hy131 => go_simp; (try with_reducible rfl)
        simp only [Act.put]
        refine takeH 3 (v := ?vv134) rfl (by kernel_rfl) (by kernel_rfl) (by kernel_rfl) (fun _ _ _ h => h) (by rfl) (fun Wx hSx => ?hy134) (by assumption) ?hrest134
        case hy134 => go_simp; (try with_reducible rfl)
        simp only [Act.put]
        refine takeH 4 (v := ?vv137) rfl (by kernel_rfl) (by kernel_rfl) (by kernel_rfl) (fun _ _ _ h => h) (by rfl) (fun Wx hSx => ?hy137) (by assumption) ?hrest137
        case hy137 => go_simp; (try with_reducible rfl)
        simp only [Act.put]
        refine takeH 5 (v := ?vv140) rfl (by kernel_rfl) (by kernel_rfl) (by kernel_rfl) (fun _ _ _ h => h) (by rfl) (fun Wx hSx => ?hy140) (by assumption) ?hrest140
        case hy140 => have q := hSx.cell f0 (by simp); go_simp; (try with_reducible rfl)
        simp only [Act.put]
        refine takeH 7 (v := ?vv143) rfl (by kernel_rfl) (by kernel_rfl) (by kernel_rfl) (fun _ _ _ h => h) (by rfl) (fun Wx hSx => ?hy143) (by assumption) ?hrest143
        case hy143 => have q0 := hSx.cell y0 (by simp); have q1 := hSx.cell y1 (by simp); have q2 := hSx.cell y2 (by simp); have q3 := hSx.cell y3 (by simp); have q4 := hSx.cell y4 (by simp); have q5 := hSx.cell y5 (by simp); have q6 := hSx.cell y6 (by simp); go_simp; (try with_reducible rfl)
        simp only [Act.put]
        have hz := hS.size
        have ha1 : (W.alloc (.cells #[] 52)).heap[W.heap.size]? = some (.cells #[] 52 (0, 0)) := heap_alloc_new W _
        have hb1 : (W.alloc (.cells #[.int .i64 (o 0), .int .i64 (o 1), .int .i64 (o 2), .int .i64 (o 3), .int .i64 (o 4), .int .i64 (o 5), .int .i64 (o 6)] 52)).heap[W.heap.size]? = some (.cells #[.int .i64 (o 0), .int .i64 (o 1), .int .i64 (o 2), .int .i64 (o 3), .int .i64 (o 4), .int .i64 (o 5), .int .i64 (o 6)] 52 (0, 0)) := heap_alloc_new W _
        have H1 := Lib.hid (And.intro ha1 hb1)
        clear ha1 hb1
        refine wpAnyH_ready (rs := [1, 8]) (by kernel_rfl) (by simp) ?_
        refine (AllReadyH.cons rfl (fun K hK => ?_) (AllReadyH.cons rfl (fun K hK => ?_) AllReadyH.nil))
        · go_simp
          refine hK.out _ _ (hS.trans (Chg.alloc [] W _)) (fun hHeld => ?_)
          clear hK K
          try simp only [Act.put, List.getElem_toArray, List.getElem_cons_succ, List.getElem_cons_zero, List.setIfInBounds_toArray, List.set_cons_zero, List.set_cons_succ]
          obtain ⟨W1, e1⟩ : ∃ W1, W1 = W.alloc (.cells #[] 52) := ⟨_, rfl⟩
          have ha1 := H1.out.1
          have g1 : W1.heap.size = W.heap.size + 1 := by rw [e1]; simp
          rw [← e1] at hHeld ha1 ⊢
          clear e1
          have HA := Lib.hid ha1
          clear ha1
          have hb2 : (W1.alloc (.cells #[.int .i64 (o 0), .int .i64 (o 1), .int .i64 (o 2), .int .i64 (o 3), .int .i64 (o 4), .int .i64 (o 5), .int .i64 (o 6)] 52)).heap[W1.heap.size]? = some (.cells #[.int .i64 (o 0), .int .i64 (o 1), .int .i64 (o 2), .int .i64 (o 3), .int .i64 (o 4), .int .i64 (o 5), .int .i64 (o 6)] 52 (0, 0)) := heap_alloc_new W1 _
          rw [g1] at hb2
          have H2 := Lib.hid hb2
          clear hb2
          refine wpAnyH_ready (rs := [6, 8]) (by kernel_rfl) (by simp) ?_
          refine (AllReadyH.cons rfl (fun K hK => ?_) (AllReadyH.cons rfl (fun K hK => ?_) AllReadyH.nil))
          · refine step_append' rfl _ _ 43 rfl oR elem43 hHeld (SlAt.empty HA.out rfl) (Fresh.of (by omega)) (HU.out.chg hHeld (by simp)) rfl rfl hl1 (by omega) ?_
            intro v1 W2 hs1 hC1 hF1 hg1
            refine hK.out _ _ (hC1) (fun hHeld => ?_)
            clear hK K
            try simp only [Act.put, List.getElem_toArray, List.getElem_cons_succ, List.getElem_cons_zero, List.setIfInBounds_toArray, List.set_cons_zero, List.set_cons_succ]
            have hb3 : (W2.alloc (.cells #[.int .i64 (o 0), .int .i64 (o 1), .int .i64 (o 2), .int .i64 (o 3), .int .i64 (o 4), .int .i64 (o 5), .int .i64 (o 6)] 52)).heap[W2.heap.size]? = some (.cells #[.int .i64 (o 0), .int .i64 (o 1), .int .i64 (o 2), .int .i64 (o 3), .int .i64 (o 4), .int .i64 (o 5), .int .i64 (o 6)] 52 (0, 0)) := heap_alloc_new W2 _
            have H3 := Lib.hid hb3
            clear hb3
            refine wpAnyH_ready (rs := [8]) (by kernel_rfl) (by simp) ?_
            refine (AllReadyH.cons rfl (fun K hK => ?_) AllReadyH.nil)
            go_simp
            refine hK.out _ _ (hC1.trans (Chg.alloc [] W2 _)) (fun hHeld => ?_)
            clear hK K
            try simp only [Act.put, List.getElem_toArray, List.getElem_cons_succ, List.getElem_cons_zero, List.setIfInBounds_toArray, List.set_cons_zero, List.set_cons_succ]
            refine wpAnyH_ready (rs := [9]) (by kernel_rfl) (by simp) ?_
            refine (AllReadyH.cons rfl (fun K hK => ?_) AllReadyH.nil)
            refine step_append' rfl _ _ 43 rfl oR elem43 (hC1.trans (Chg.alloc [] W2 _)) (hs1.chg (Chg.alloc [] W2 _) (by simp)) hF1 (SrcAt.one (renc := oE) (a := o) (t := 52) (fr := (0, 0)) H3.out 1) rfl rfl hl2 (by omega) ?_
            intro v2 W3 hs2 hC2 hF2 _
            refine hK.out _ _ (hC2) (fun hHeld => ?_)
            clear hK K
            try simp only [Act.put, List.getElem_toArray, List.getElem_cons_succ, List.getElem_cons_zero, List.setIfInBounds_toArray, List.set_cons_zero, List.set_cons_succ]
            refine wpAnyH_done (by kernel_rfl) ?_ _
            simp only [cutQ]
            have hb3 := hC2.at_ hb (by simp)
            have c3 := (blk3 hb3).2.2
            have z3 : W3.frozen? ⟨r, 2, none⟩ = false := by simp [World.frozen?, hb3]
            have lz := blk_lt hb3
            obtain ⟨A2, cp2, rfl, _, _⟩ := hs2.form
            have H := Lib.hid (And.intro hs2 (And.intro hC2 hF2))
            clear hs2 hC2 hF2 hs1 hC1 hF1 hg1 HA H2 H3 H1
            go_wp2
            go_ret
            exact rb_end hr hCb H.out.2.1 hb3 (by simpa using H.out.1) (by simpa using H.out.2.2)
          · go_simp
            have hC0 := hHeld.trans (Chg.alloc [] W1 (.cells #[.int .i64 (o 0), .int .i64 (o 1), .int .i64 (o 2), .int .i64 (o 3), .int .i64 (o 4), .int .i64 (o 5), .int .i64 (o 6)] 52))
            have hE := Lib.hid ((Chg.alloc [] W1 (.cells #[.int .i64 (o 0), .int .i64 (o 1), .int .i64 (o 2), .int .i64 (o 3), .int .i64 (o 4), .int .i64 (o 5), .int .i64 (o 6)] 52)).at_ HA.out (by simp))
            refine hK.out _ _ (hC0) (fun hHeld => ?_)
            clear hK K
            try simp only [Act.put, List.getElem_toArray, List.getElem_cons_succ, List.getElem_cons_zero, List.setIfInBounds_toArray, List.set_cons_zero, List.set_cons_succ]
            obtain ⟨W2, e2⟩ : ∃ W2, W2 = W1.alloc (.cells #[.int .i64 (o 0), .int .i64 (o 1), .int .i64 (o 2), .int .i64 (o 3), .int .i64 (o 4), .int .i64 (o 5), .int .i64 (o 6)] 52) := ⟨_, rfl⟩
            have hO := H2
            rw [← e2] at hC0 hHeld hE hO ⊢
            clear e2 H2 HA
            refine wpAnyH_ready (rs := [6]) (by kernel_rfl) (by simp) ?_
            refine (AllReadyH.cons rfl (fun K hK => ?_) AllReadyH.nil)
            refine step_append' rfl _ _ 43 rfl oR elem43 hC0 (SlAt.empty hE.out rfl) (Fresh.of (by omega)) (HU.out.chg hC0 (by simp)) rfl rfl hl1 (by omega) ?_
            intro v1 W3 hs1 hC1 hF1 hg1
            refine hK.out _ _ (hC1) (fun hHeld => ?_)
            clear hK K
            try simp only [Act.put, List.getElem_toArray, List.getElem_cons_succ, List.getElem_cons_zero, List.setIfInBounds_toArray, List.set_cons_zero, List.set_cons_succ]
            have hO2 := (hg1.block _ (blk_lt hO.out) (by simp [Value.ownBlock])).trans hO.out
            refine wpAnyH_ready (rs := [9]) (by kernel_rfl) (by simp) ?_
            refine (AllReadyH.cons rfl (fun K hK => ?_) AllReadyH.nil)
            refine step_append' rfl _ _ 43 rfl oR elem43 hC1 hs1 hF1 (SrcAt.one (renc := oE) (a := o) (t := 52) (fr := (0, 0)) hO2 1) rfl rfl hl2 (by omega) ?_
            intro v2 W4 hs2 hC2 hF2 _
            refine hK.out _ _ (hC2) (fun hHeld => ?_)
            clear hK K
            try simp only [Act.put, List.getElem_toArray, List.getElem_cons_succ, List.getElem_cons_zero, List.setIfInBounds_toArray, List.set_cons_zero, List.set_cons_succ]
            refine wpAnyH_done (by kernel_rfl) ?_ _
            simp only [cutQ]
            have hb3 := hC2.at_ hb (by simp)
            have c3 := (blk3 hb3).2.2
            have z3 : W4.frozen? ⟨r, 2, none⟩ = false := by simp [World.frozen?, hb3]
            have lz := blk_lt hb3
            obtain ⟨A2, cp2, rfl, _, _⟩ := hs2.form
            have H := Lib.hid (And.intro hs2 (And.intro hC2 hF2))
            clear hs2 hC2 hF2 hs1 hC1 hF1 hg1 hE hO H1 hO2 hC0
            go_wp2
            go_ret
            exact rb_end hr hCb H.out.2.1 hb3 (by simpa using H.out.1) (by simpa using H.out.2.2)
        · go_simp
          have hC1 := hS.trans (Chg.alloc [] W (.cells #[.int .i64 (o 0), .int .i64 (o 1), .int .i64 (o 2), .int .i64 (o 3), .int .i64 (o 4), .int .i64 (o 5), .int .i64 (o 6)] 52))
          refine hK.out _ _ (hC1) (fun hHeld => ?_)
          clear hK K
          try simp only [Act.put, List.getElem_toArray, List.getElem_cons_succ, List.getElem_cons_zero, List.setIfInBounds_toArray, List.set_cons_zero, List.set_cons_succ]
          obtain ⟨W1, e1⟩ : ∃ W1, W1 = W.alloc (.cells #[.int .i64 (o 0), .int .i64 (o 1), .int .i64 (o 2), .int .i64 (o 3), .int .i64 (o 4), .int .i64 (o 5), .int .i64 (o 6)] 52) := ⟨_, rfl⟩
          have ho1 := H1.out.2
          have g1 : W1.heap.size = W.heap.size + 1 := by rw [e1]; simp
          rw [← e1] at hHeld ho1 ⊢
          clear e1 hC1
          refine wpAnyH_ready (rs := [1]) (by kernel_rfl) (by simp) ?_
          refine (AllReadyH.cons rfl (fun K hK => ?_) AllReadyH.nil)
          go_simp
          have hC0 := hHeld.trans (Chg.alloc [] W1 (.cells #[] 52))
          have hO := Lib.hid ((Chg.alloc [] W1 (.cells #[] 52)).at_ ho1 (by simp))
          have hE := heap_alloc_new W1 (.cells #[] 52)
          rw [g1] at hE
          have hE := Lib.hid hE
          refine hK.out _ _ (hC0) (fun hHeld => ?_)
          clear hK K
          try simp only [Act.put, List.getElem_toArray, List.getElem_cons_succ, List.getElem_cons_zero, List.setIfInBounds_toArray, List.set_cons_zero, List.set_cons_succ]
          obtain ⟨W2, e2⟩ : ∃ W2, W2 = W1.alloc (.cells #[] 52) := ⟨_, rfl⟩
          rw [← e2] at hC0 hHeld hE hO ⊢
          clear e2 ho1
          refine wpAnyH_ready (rs := [6]) (by kernel_rfl) (by simp) ?_
          refine (AllReadyH.cons rfl (fun K hK => ?_) AllReadyH.nil)
          refine step_append' rfl _ _ 43 rfl oR elem43 hC0 (SlAt.empty hE.out rfl) (Fresh.of (by omega)) (HU.out.chg hC0 (by simp)) rfl rfl hl1 (by omega) ?_
          intro v1 W3 hs1 hC1 hF1 hg1
          refine hK.out _ _ (hC1) (fun hHeld => ?_)
          clear hK K
          try simp only [Act.put, List.getElem_toArray, List.getElem_cons_succ, List.getElem_cons_zero, List.setIfInBounds_toArray, List.set_cons_zero, List.set_cons_succ]
          have hO2 := (hg1.block _ (blk_lt hO.out) (by simp [Value.ownBlock])).trans hO.out
          refine wpAnyH_ready (rs := [9]) (by kernel_rfl) (by simp) ?_
          refine (AllReadyH.cons rfl (fun K hK => ?_) AllReadyH.nil)
          refine step_append' rfl _ _ 43 rfl oR elem43 hC1 hs1 hF1 (SrcAt.one (renc := oE) (a := o) (t := 52) (fr := (0, 0)) hO2 1) rfl rfl hl2 (by omega) ?_
          intro v2 W4 hs2 hC2 hF2 _
          refine hK.out _ _ (hC2) (fun hHeld => ?_)
          clear hK K
          try simp only [Act.put, List.getElem_toArray, List.getElem_cons_succ, List.getElem_cons_zero, List.setIfInBounds_toArray, List.set_cons_zero, List.set_cons_succ]
          refine wpAnyH_done (by kernel_rfl) ?_ _
          simp only [cutQ]
          have hb3 := hC2.at_ hb (by simp)
          have c3 := (blk3 hb3).2.2
          have z3 : W4.frozen? ⟨r, 2, none⟩ = false := by simp [World.frozen?, hb3]
          have lz := blk_lt hb3
          obtain ⟨A2, cp2, rfl, _, _⟩ := hs2.form
          have H := Lib.hid (And.intro hs2 (And.intro hC2 hF2))
          clear hs2 hC2 hF2 hs1 hC1 hF1 hg1 hE hO H1 hO2 hC0
          go_wp2
          go_ret
          exact rb_end hr hCb H.out.2.1 hb3 (by simpa using H.out.1) (by simpa using H.out.2.2)
  · have t1 : decide (o 2 = 0 ∨ o 2 = 1) = false := decide_eq_false hsd
    rw [t1] at hs
    have hn : addL l o = l := by
      have : takes l o = false := by simp [takes, okO]; omega
      simp [addL, this]
    rw [hn]
    clear hn hsd t1 hR hf
    go_enter Try.func67, Try.ntmps67
    go_wp2_with fail
    rw [← hw0]
    refine hs.mono ?_
    rintro e w' ⟨rfl, rfl⟩
    subst hw0
    go_wp2
    go_ret
    exact ⟨⟨_, rfl⟩, h0, hA0.nil⟩
end Go.Proofs.Ytdcjfaplgpeonaa
