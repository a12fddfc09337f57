/-
  A new book.
-/
import Derived.Test.YtdcjfaplgpeonaaPe
namespace Go.Proofs.Ytdcjfaplgpeonaa
open Go.RowKit Go.Dm

set_option maxHeartbeats 1000000 in
theorem lnew2 (w : World) (sd : Int) (hs : sd = 0 ∨ sd = 1) :
    Calls Try.prog 77 #[.int .i64 sd, .int .i64 60] w fun e w' => e = .returned (.tuple #[.pointer (some ⟨w.heap.size, 0, none⟩), .int .i64 0]) ∧ LdBlk w' w.heap.size sd (.slice none 0 0) 0 ∧ Chg [] w w' := by
  rcases hs with rfl | rfl
  all_goals
    go_enter Try.func77, Try.ntmps77
    go_wp2
    go_ret2
    exact ⟨rfl, heap_alloc_new w _, Chg.alloc _ _ _⟩

theorem sd_new {w : World} {D : Nat} {sd : Int} {S : Sdb} (hl : LdBlk w S.l sd (.slice none 0 0) 0) (hf : FfAt w S.q S.n S.e (newNf 60) (newEf 60)) (dl : D ≤ S.l) (dq : D ≤ S.q) (dn : D ≤ S.n) (de : D ≤ S.e) : SdAt w D sd S [] [] (.slice none 0 0) :=
  ⟨hl, SlAt.nil _ _ _ _, Fresh.none, ⟨_, _, hf, ⟨by simp, fun i _ h6 => ⟨by simp [newNf]; omega, by simp [newNf]; omega, by simp [newNf]; omega⟩, fun u _ h6 => by
      unfold newEf; rw [if_pos (by omega)]⟩⟩,
   ⟨by simp, by simp, by simp, by simp, by simp, by simp, by simp, by simp, fun x hx => by cases hx⟩, dl, dq, dn, de⟩

def BnRel (w : World) (D ar b x m1 m2 : Nat) (m : Nat) (i : Value) (wr : World) : Prop :=
  ∃ (k : Nat) (s0 s1 : Sdb) (p0 p1 p2 p3 : Value), k ≤ 2 ∧ m = 2 - k + 1 ∧ i = .int .i64 k ∧ wr.heap[b]? = some (.cells #[.pointer (some ⟨ar, 0, none⟩), p0, p1, p2, p3, .pointer (some ⟨x, 0, none⟩)] 151 (0, 0)) ∧
    (1 ≤ k → p0 = .pointer (some ⟨s0.l, 0, none⟩) ∧ p1 = .pointer (some ⟨s0.q, 0, none⟩) ∧ SdAt wr D 0 s0 [] [] (.slice none 0 0)) ∧
    (2 ≤ k → p2 = .pointer (some ⟨s1.l, 0, none⟩) ∧ p3 = .pointer (some ⟨s1.q, 0, none⟩) ∧ SdAt wr D 1 s1 [] [] (.slice none 0 0) ∧ s0.l ≠ s1.l ∧ s0.q ≠ s1.q ∧ s0.n ≠ s1.n ∧ s0.e ≠ s1.e) ∧
    ArAt wr ar (newC 60) ∧ XAt wr x m1 m2 [] ∧ Chg [] w wr

set_option maxRecDepth 100000 in
set_option maxHeartbeats 4000000 in
theorem bnew (w : World) (D : Nat) (hD : D ≤ w.heap.size) :
    Calls Try.prog 64 #[.int .i64 60, .int .i64 60] w fun e w' => ∃ B, e = .returned (.tuple #[.pointer (some ⟨B.b, 0, none⟩), .int .i64 0]) ∧ PB w' D B [] [] [] (.slice none 0 0) (.slice none 0 0) ∧ Chg [] w w' := by
  go_enter Try.func64, Try.ntmps64
  go_wp2_with fail
  refine (new09 w 60 (by omega) (by omega)).mono ?_
  rintro e W1 ⟨rfl, hA1, hC1⟩
  go_wp2_with fail
  refine (new_any W1).mono ?_
  rintro e W2 ⟨x, m1, m2, rfl, hX2, hC2, hx1, hx2, hx3⟩
  have hA2 := hA1.chg hC2 (by simp)
  have hA3 := Chg.alloc [] W2 (.cells #[.pointer (some ⟨w.heap.size, 0, none⟩), .pointer none, .pointer none, .pointer none, .pointer none, .pointer (some ⟨x, 0, none⟩)] 151)
  have hb3 := heap_alloc_new W2 (.cells #[.pointer (some ⟨w.heap.size, 0, none⟩), .pointer none, .pointer none, .pointer none, .pointer none, .pointer (some ⟨x, 0, none⟩)] 151)
  have hX3 := hX2.chg hA3 (by simp) (by simp) (by simp)
  have hA4 := hA2.chg hA3 (by simp)
  have hC3 := (hC1.trans hC2).trans hA3
  have z1 := hC1.size
  have z2 := hC2.size
  go_wp2_with fail
  go_loopg [26] 3 (fun m i wr => BnRel w D w.heap.size W2.heap.size x m1 m2 m i wr)
  case atStart => exact ⟨0, ⟨0, 0, 0, 0⟩, ⟨0, 0, 0, 0⟩, _, _, _, _, by omega, rfl, rfl, hb3, fun h => by omega, fun h => by omega, hA4, hX3, hC3⟩
  case round =>
    clear hA1 hX2 hA2 hA3 hb3 hX3 hA4 hC3
    obtain ⟨k, s0, s1, p0, p1, p2, p3, hk, hm, rfl, hb, h1, h2, hA, hX, hC⟩ := hrel
    have Hm := Lib.hid hm
    clear hm
    have hk3 : k = 0 ∨ k = 1 ∨ k = 2 := by omega
    rcases hk3 with hk0 | hk0 | hk0
    · obtain rfl : k = 0 := by omega
      have hl := lnew2 wr 0 (by omega)
      go_wp2_with fail
      refine hl.mono ?_
      rintro e W5 ⟨rfl, hL5, hC5⟩
      clear hl
      go_wp2_with fail
      refine (fnew W5).mono ?_
      rintro e W6 ⟨q, nb, eb, rfl, hF6, hC6, hq1, hq2, hq3⟩
      have hC56 := hC5.trans hC6
      have z5 : wr.heap.size < W5.heap.size := blk_lt (show W5.heap[wr.heap.size]? = _ from hL5)
      have hb6 := hC56.at_ hb (by simp)
      obtain ⟨c0, c1, c2, c3, c4, c5⟩ := blk6 hb6
      have fb : ∀ j, W6.frozen? ⟨W2.heap.size, j, none⟩ = false := fun j => by simp [World.frozen?, hb6]
      have f1 := fb 1
      have f2 := fb 2
      have bl := blk_lt hb6
      have hset : ((W6.setCell ⟨W2.heap.size, 1, none⟩ (.pointer (some ⟨wr.heap.size, 0, none⟩))).setCell ⟨W2.heap.size, 2, none⟩ (.pointer (some ⟨q, 0, none⟩))).heap[W2.heap.size]? = some (.cells #[.pointer (some ⟨w.heap.size, 0, none⟩), .pointer (some ⟨wr.heap.size, 0, none⟩), .pointer (some ⟨q, 0, none⟩), p2, p3, .pointer (some ⟨x, 0, none⟩)] 151 (0, 0)) := by
        rw [blk_set (blk_set hb6 _ _)]
        rfl
      have hCS : Chg [W2.heap.size] W6 ((W6.setCell ⟨W2.heap.size, 1, none⟩ (.pointer (some ⟨wr.heap.size, 0, none⟩))).setCell ⟨W2.heap.size, 2, none⟩ (.pointer (some ⟨q, 0, none⟩))) := (Chg.setCell W6 _ _ (by simp)).trans (Chg.setCell _ _ _ (by simp))
      have hCA := hC56.nil.trans hCS
      have w2l : W2.heap.size < wr.heap.size := blk_lt hb
      have hX' := hX.chg hCA (by
        have Kx := hX.kind
        have Kb : KindIs wr W2.heap.size 151 := ⟨_, hb⟩
        simpa using Kx.ne Kb (by decide)) (by
        have Kb : KindIs wr W2.heap.size 151 := ⟨_, hb⟩
        simpa using Ne.symm (Kb.ne' hX.map1)) (by
        have Kb : KindIs wr W2.heap.size 151 := ⟨_, hb⟩
        simpa using Ne.symm (Kb.ne' hX.map2))
      have hA' := hA.chg hCA (by
        have Kb : KindIs wr W2.heap.size 151 := ⟨_, hb⟩
        simpa using hA.kind.ne Kb (by decide))
      have hC' : Chg [] w ((W6.setCell ⟨W2.heap.size, 1, none⟩ (.pointer (some ⟨wr.heap.size, 0, none⟩))).setCell ⟨W2.heap.size, 2, none⟩ (.pointer (some ⟨q, 0, none⟩))) := hC.trans' hCA (by simp) (by simp; omega)
      have H := Lib.hid (And.intro hset (And.intro (show LdBlk _ wr.heap.size 0 (.slice none 0 0) 0 from hCS.at_ (hC6.at_ hL5 (by simp)) (by simp; omega)) (And.intro (hF6.chg hCS (by simp; omega) (by simp; omega) (by simp; omega)) (And.intro hA' (And.intro hX' hC')))))
      clear hset hCS hCA hX' hA' hC' hb hA hX hL5 hC5 hF6 hC6 hC56 hb6 fb h1 h2
      go_wp2
      go_roundg (2 - (0 + 1) + 1)
      case measure => rw [Hm.out]; omega
      case rel => refine ⟨1, ⟨wr.heap.size, q, nb, eb⟩, s1, _, _, p2, p3, by omega, rfl, by go_num, H.out.1, fun _ => ⟨rfl, rfl, sd_new H.out.2.1 H.out.2.2.1 (by have := H.out.2.2.2.2.2; have := hC.size; show D ≤ wr.heap.size; omega) (by show D ≤ q; have := hC.size; omega) (by show D ≤ nb; have := hC.size; omega) (by show D ≤ eb; have := hC.size; omega)⟩, fun h => by omega, H.out.2.2.2.1, H.out.2.2.2.2.1, H.out.2.2.2.2.2⟩
    · obtain rfl : k = 1 := by omega
      obtain ⟨rfl, rfl, hS0⟩ := h1 (by omega)
      have n0 := hS0.ld
      obtain ⟨nf0, ef0, hf0, _⟩ := hS0.ff
      have hl := lnew2 wr 1 (by omega)
      go_wp2_with fail
      refine hl.mono ?_
      rintro e W5 ⟨rfl, hL5, hC5⟩
      clear hl
      go_wp2_with fail
      refine (fnew W5).mono ?_
      rintro e W6 ⟨q, nb, eb, rfl, hF6, hC6, hq1, hq2, hq3⟩
      have hC56 := hC5.trans hC6
      have z5 : wr.heap.size < W5.heap.size := blk_lt (show W5.heap[wr.heap.size]? = _ from hL5)
      have hb6 := hC56.at_ hb (by simp)
      obtain ⟨c0, c1, c2, c3, c4, c5⟩ := blk6 hb6
      have fb : ∀ j, W6.frozen? ⟨W2.heap.size, j, none⟩ = false := fun j => by simp [World.frozen?, hb6]
      have f1 := fb 3
      have f2 := fb 4
      have bl := blk_lt hb6
      have hset : ((W6.setCell ⟨W2.heap.size, 3, none⟩ (.pointer (some ⟨wr.heap.size, 0, none⟩))).setCell ⟨W2.heap.size, 4, none⟩ (.pointer (some ⟨q, 0, none⟩))).heap[W2.heap.size]? = some (.cells #[.pointer (some ⟨w.heap.size, 0, none⟩), .pointer (some ⟨s0.l, 0, none⟩), .pointer (some ⟨s0.q, 0, none⟩), .pointer (some ⟨wr.heap.size, 0, none⟩), .pointer (some ⟨q, 0, none⟩), .pointer (some ⟨x, 0, none⟩)] 151 (0, 0)) := by
        rw [blk_set (blk_set hb6 _ _)]
        rfl
      have hCS : Chg [W2.heap.size] W6 ((W6.setCell ⟨W2.heap.size, 3, none⟩ (.pointer (some ⟨wr.heap.size, 0, none⟩))).setCell ⟨W2.heap.size, 4, none⟩ (.pointer (some ⟨q, 0, none⟩))) := (Chg.setCell W6 _ _ (by simp)).trans (Chg.setCell _ _ _ (by simp))
      have hCA := hC56.nil.trans hCS
      have w2l : W2.heap.size < wr.heap.size := blk_lt hb
      have hX' := hX.chg hCA (by
        have Kx := hX.kind
        have Kb : KindIs wr W2.heap.size 151 := ⟨_, hb⟩
        simpa using Kx.ne Kb (by decide)) (by
        have Kb : KindIs wr W2.heap.size 151 := ⟨_, hb⟩
        simpa using Ne.symm (Kb.ne' hX.map1)) (by
        have Kb : KindIs wr W2.heap.size 151 := ⟨_, hb⟩
        simpa using Ne.symm (Kb.ne' hX.map2))
      have hA' := hA.chg hCA (by
        have Kb : KindIs wr W2.heap.size 151 := ⟨_, hb⟩
        simpa using hA.kind.ne Kb (by decide))
      have hC' : Chg [] w ((W6.setCell ⟨W2.heap.size, 3, none⟩ (.pointer (some ⟨wr.heap.size, 0, none⟩))).setCell ⟨W2.heap.size, 4, none⟩ (.pointer (some ⟨q, 0, none⟩))) := hC.trans' hCA (by simp) (by simp; omega)
      have H := Lib.hid (And.intro hset (And.intro (show LdBlk _ wr.heap.size 1 (.slice none 0 0) 0 from hCS.at_ (hC6.at_ hL5 (by simp)) (by simp; omega)) (And.intro (hF6.chg hCS (by simp; omega) (by simp; omega) (by simp; omega)) (And.intro hA' (And.intro hX' hC')))))
      have Kb0 : KindIs wr W2.heap.size 151 := ⟨_, hb⟩
      have l0 := blk_lt (show wr.heap[s0.l]? = _ from n0)
      have lq0 := blk_lt hf0.blk
      have ln0 := hf0.nds.lt
      have le0 := hf0.eds.lt
      have H2 := Lib.hid (And.intro (hS0.chg hCA (by simpa using KindIs.ne ⟨_, n0⟩ Kb0 (by decide)) (by simpa using KindIs.ne ⟨_, hf0.blk⟩ Kb0 (by decide)) (by simpa using hf0.nds.kind.ne Kb0 (by decide)) (by simpa using hf0.eds.kind.ne Kb0 (by decide)) (by simp [Value.ownBlock])) (show s0.l ≠ wr.heap.size ∧ s0.q ≠ q ∧ s0.n ≠ nb ∧ s0.e ≠ eb from ⟨by omega, by omega, by omega, by omega⟩))
      clear n0 hf0 hS0 l0 lq0 ln0 le0 Kb0
      clear hset hCS hCA hX' hA' hC' hb hA hX hL5 hC5 hF6 hC6 hC56 hb6 fb h1 h2
      go_wp2
      go_roundg (2 - (1 + 1) + 1)
      case measure => rw [Hm.out]; omega
      case rel => refine ⟨2, s0, ⟨wr.heap.size, q, nb, eb⟩, _, _, _, _, by omega, rfl, by go_num, H.out.1, fun _ => ⟨rfl, rfl, H2.out.1⟩, fun _ => ⟨rfl, rfl, sd_new H.out.2.1 H.out.2.2.1 (by show D ≤ wr.heap.size; have := hC.size; omega) (by show D ≤ q; have := hC.size; omega) (by show D ≤ nb; have := hC.size; omega) (by show D ≤ eb; have := hC.size; omega), H2.out.2⟩, H.out.2.2.2.1, H.out.2.2.2.2.1, H.out.2.2.2.2.2⟩
    · obtain rfl : k = 2 := by omega
      obtain ⟨rfl, rfl, hS0⟩ := h1 (by omega)
      obtain ⟨rfl, rfl, hS1, a1, a2, a3, a4⟩ := h2 (by omega)
      clear h1 h2
      go_wp2
      go_ret2
      exact ⟨⟨W2.heap.size, w.heap.size, x, m1, m2, s0, s1⟩, rfl, ⟨hb, ⟨_, hA, hold_new 60 (by omega) (by omega) []⟩, ⟨[], hX, fun id => by simp [mLook, hasId], by simp⟩, hS0, hS1, a1, a2, a3, a4, by simp [Value.ownBlock], by show D ≤ W2.heap.size; omega, hD, by show D ≤ x; omega, by show D ≤ m1; omega, by show D ≤ m2; omega⟩, hC⟩
end Go.Proofs.Ytdcjfaplgpeonaa
