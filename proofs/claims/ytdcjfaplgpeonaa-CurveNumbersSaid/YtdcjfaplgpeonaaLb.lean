/-
  The law's act: one act on the program's index and on the reference's.
-/
import Derived.Test.YtdcjfaplgpeonaaLa
namespace Go.Proofs.Ytdcjfaplgpeonaa
open Go.RowKit Go.Dm

/-- Both hold the same list. -/
structure Both (w : World) (x m1 m2 r : Nat) (l : IL) : Prop where
  ix : XAt w x m1 m2 l
  rf : RAt w r l
theorem Both.chg {w w' : World} {x m1 m2 r : Nat} {l : IL} (h : Both w x m1 m2 r l) (hC : Chg [] w w') : Both w' x m1 m2 r l :=
  ⟨h.ix.chg hC (by simp) (by simp) (by simp), h.rf.chg hC (by simp) (by simp)⟩
theorem isMap {w : World} {m : Nat} {κ ν : Type} {enc : κ → Value} {venc : ν → Value} {l : List (κ × ν)} (h : MapAt enc venc w m l) {b : Nat} {cs : Array Value} {t : Nat} {fr : Nat × Nat} (hb : w.heap[b]? = some (.cells cs t fr)) : b ≠ m := by
  intro e; subst e; obtain ⟨_, _, h, _⟩ := h; rw [hb] at h; cases h
theorem XAt.not_in {w : World} {x m1 m2 : Nat} {l : IL} (h : XAt w x m1 m2 l) {b : Nat} {cs : Array Value} {t : Nat} {fr : Nat × Nat} (hb : w.heap[b]? = some (.cells cs t fr)) : b ∉ [m1, m2] := by
  obtain ⟨m, hm, _⟩ := h.many
  have h1 := isMap h.ents hb
  have h2 := isMap hm hb
  simp [h1, h2]
/-- The reference is left alone by what turns the index's two maps. -/
theorem RAt.chgX {w w' : World} {x m1 m2 r : Nat} {l l' : IL} (h : RAt w r l') (hx : XAt w x m1 m2 l) (hC : Chg [m1, m2] w w') : RAt w' r l' := by
  obtain ⟨v, hb, hs⟩ := h
  have hn := hx.not_in hb
  refine ⟨v, hC.at_ hb hn, hs.chg hC fun g hg => ?_⟩
  obtain ⟨cur, hcur⟩ := hs.typed hg
  exact hx.not_in hcur
theorem XAt.chgR {w w' : World} {x m1 m2 r : Nat} {l l' : IL} (h : XAt w x m1 m2 l) (hr : RAt w r l') (hC : Chg [r] w w') : XAt w' x m1 m2 l := by
  obtain ⟨v, hb, hs⟩ := hr
  have hn := h.not_in hb
  have hx : x ≠ r := fun e => by have := h.blk; rw [e, hb] at this; cases this
  simp only [List.mem_cons, List.not_mem_nil, or_false, not_or] at hn
  exact h.chg hC (by simpa using hx) (by simpa using fun e => hn.1 e.symm) (by simpa using fun e => hn.2 e.symm)

def stepL (l : IL) (kind s sl d : Int) : IL :=
  if kind = 0 then (if (mLook l (s, d)).isSome then l else l ++ [((s, d), sl)])
  else if kind = 1 then l
  else if kind = 2 then delL l (s, d)
  else symOut l s

theorem blk4 {w : World} {b : Nat} {u0 u1 u2 u3 : Value} {t : TypeId} {fr : Nat × Nat} (h : w.heap[b]? = some (.cells #[u0, u1, u2, u3] t fr)) :
    w.cell? ⟨b, 0, none⟩ = some u0 ∧ w.cell? ⟨b, 1, none⟩ = some u1 ∧ w.cell? ⟨b, 2, none⟩ = some u2 ∧ w.cell? ⟨b, 3, none⟩ = some u3 := by
  simp [World.cell?, h]
/-- Behind the boxes of the act and of the key. -/
structure Boxed2 (w : World) (b5 b7 : Nat) (kd s sl d : Int) : Prop where
  a5 : w.heap[b5]? = some (.cells #[.int .i64 kd, .int .i64 s, .int .i64 sl, .int .i64 d] 32 (0, 0))
  a7 : w.heap[b7]? = some (.cells #[.int .i64 s, .int .i64 d] 37 (0, 0))
theorem Boxed2.new (w : World) (kd s sl d : Int) : Boxed2 ((w.alloc (.cells #[.int .i64 kd, .int .i64 s, .int .i64 sl, .int .i64 d] 32)).alloc (.cells #[.int .i64 s, .int .i64 d] 37)) w.heap.size (w.heap.size + 1) kd s sl d :=
  ⟨(Chg.alloc [] _ _).at_ (heap_alloc_new w _) (by simp), by
    have := heap_alloc_new (w.alloc (.cells #[.int .i64 kd, .int .i64 s, .int .i64 sl, .int .i64 d] 32)) (.cells #[.int .i64 s, .int .i64 d] 37)
    simpa using this⟩
theorem Boxed2.chg {w w' : World} {b5 b7 : Nat} {kd s sl d : Int} {S : List Nat} (h : Boxed2 w b5 b7 kd s sl d) (hC : Chg S w w') (h5 : b5 ∉ S) (h7 : b7 ∉ S) : Boxed2 w' b5 b7 kd s sl d := ⟨hC.at_ h.a5 h5, hC.at_ h.a7 h7⟩
theorem Boxed2.chgX {w w' : World} {b5 b7 x m1 m2 : Nat} {kd s sl d : Int} {l : IL} (h : Boxed2 w b5 b7 kd s sl d) (hx : XAt w x m1 m2 l) (hC : Chg [m1, m2] w w') : Boxed2 w' b5 b7 kd s sl d :=
  h.chg hC (hx.not_in h.a5) (hx.not_in h.a7)
theorem Boxed2.chgR {w w' : World} {b5 b7 r : Nat} {kd s sl d : Int} {l : IL} (h : Boxed2 w b5 b7 kd s sl d) (hr : RAt w r l) (hC : Chg [r] w w') : Boxed2 w' b5 b7 kd s sl d := by
  obtain ⟨v, hb, _⟩ := hr
  have n5 : b5 ≠ r := fun e => by have := h.a5; rw [e, hb] at this; cases this
  have n7 : b7 ≠ r := fun e => by have := h.a7; rw [e, hb] at this; cases this
  exact h.chg hC (by simpa using n5) (by simpa using n7)
def Cells2 (w : World) (b5 b7 : Nat) (kd s sl d : Int) : Prop :=
  w.cell? ⟨b5, 0, none⟩ = some (.int .i64 kd) ∧ w.cell? ⟨b5, 1, none⟩ = some (.int .i64 s) ∧ w.cell? ⟨b5, 2, none⟩ = some (.int .i64 sl) ∧ w.cell? ⟨b5, 3, none⟩ = some (.int .i64 d) ∧
    w.cell? ⟨b7, 0, none⟩ = some (.int .i64 s) ∧ w.cell? ⟨b7, 1, none⟩ = some (.int .i64 d)
theorem Boxed2.cells {w : World} {b5 b7 : Nat} {kd s sl d : Int} (h : Boxed2 w b5 b7 kd s sl d) : Cells2 w b5 b7 kd s sl d :=
  ⟨(blk4 h.a5).1, (blk4 h.a5).2.1, (blk4 h.a5).2.2.1, (blk4 h.a5).2.2.2, (blk2 h.a7).1, (blk2 h.a7).2⟩

set_option maxRecDepth 100000 in
set_option maxHeartbeats 2000000 in
theorem act_get (w : World) (x m1 m2 r : Nat) (l : IL) (h : Both w x m1 m2 r l) (hlen : l.length ≤ 1000) (s sl d : Int) :
    Calls Try.prog 15 #[.pointer (some ⟨x, 0, none⟩), .pointer (some ⟨r, 0, none⟩), .agg #[.int .i64 1, .int .i64 s, .int .i64 sl, .int .i64 d]] w fun e w' =>
      e = .returned (.bool true) ∧ Both w' x m1 m2 r l ∧ Chg [] w w' := by
  have hn := h.ix.ents.nodup
  have hA : Chg [] w ((w.alloc (.cells #[.int .i64 1, .int .i64 s, .int .i64 sl, .int .i64 d] 32)).alloc (.cells #[.int .i64 s, .int .i64 d] 37)) := (Chg.alloc _ _ _).trans (Chg.alloc _ _ _)
  have hB := Boxed2.new w 1 s sl d
  have h1 := h.chg hA
  go_enter Try.func15, Try.ntmps15
  go_wp2_with fail
  refine (get_any _ x m1 m2 l h1.ix s d).mono ?_
  rintro e W1 ⟨rfl, hC1⟩
  have hA2 := hA.trans hC1
  have hB2 := hB.chg hC1 (by simp) (by simp)
  have h2 := h1.chg hC1
  clear hA hB h1 hC1
  obtain ⟨d0, d1, d2, d3, _⟩ := hB2.cells
  go_wp2_with fail
  refine (rget_any _ r l h2.rf s d hn hlen).mono ?_
  rintro e W2 ⟨rfl, rfl⟩
  go_wp2
  all_goals (go_ret; exact ⟨by simp, h2, hA2⟩)

set_option maxRecDepth 100000 in
set_option maxHeartbeats 2000000 in
theorem act_put_new (w : World) (x m1 m2 r : Nat) (l : IL) (h : Both w x m1 m2 r l) (hlen : l.length ≤ 1000) (s sl d : Int) (hk : mLook l (s, d) = none) :
    Calls Try.prog 15 #[.pointer (some ⟨x, 0, none⟩), .pointer (some ⟨r, 0, none⟩), .agg #[.int .i64 0, .int .i64 s, .int .i64 sl, .int .i64 d]] w fun e w' =>
      e = .returned (.bool true) ∧ Both w' x m1 m2 r (l ++ [((s, d), sl)]) ∧ Chg [m1, m2, r] w w' := by
  have hn := h.ix.ents.nodup
  have hA : Chg [] w ((w.alloc (.cells #[.int .i64 0, .int .i64 s, .int .i64 sl, .int .i64 d] 32)).alloc (.cells #[.int .i64 s, .int .i64 d] 37)) := (Chg.alloc _ _ _).trans (Chg.alloc _ _ _)
  have hB := Boxed2.new w 0 s sl d
  have h1 := h.chg hA
  have hA1 := hA.trans (Chg.drew [] _)
  have h2 := h1.chg (Chg.drew [] _)
  have hB2 := hB.chg (Chg.drew [] _) (by simp) (by simp)
  obtain ⟨d0, d1, d2, d3, d4, d5⟩ := hB.cells
  have HK := Lib.hid hk
  clear hA h1 hB h hk
  go_enter Try.func15, Try.ntmps15
  go_wp2_with fail
  go_region_held3 (fun w' => w'.cell? ⟨w.heap.size, 1, none⟩ = some (.int .i64 s) ∧ w'.cell? ⟨w.heap.size, 2, none⟩ = some (.int .i64 sl) ∧ w'.cell? ⟨w.heap.size, 3, none⟩ = some (.int .i64 d) ∧ w'.cell? ⟨w.heap.size + 1, 0, none⟩ = some (.int .i64 s) ∧ w'.cell? ⟨w.heap.size + 1, 1, none⟩ = some (.int .i64 d))
    (first
      | go_keep
      | (exact hB4.cells.2)
      | (exact hB3.cells.2))
    (first
      | (go_at_call 18; (with_reducible refine (put_new _ x m1 m2 l h2.ix s d sl HK.out hlen).mono ?_); rintro e W3 ⟨rfl, h3, hC3⟩; have hB3 := hB2.chgX h2.ix hC3; have h3r := h2.rf.chgX h2.ix hC3)
      | (go_at_call 49; (with_reducible refine (rput_new _ r l h2.rf s d sl HK.out hn hlen).mono ?_); rintro e W3 ⟨rfl, h3, hC3⟩; have hB3 := hB2.chgR h2.rf hC3; have h3x := h2.ix.chgR h2.rf hC3)
      | (go_at_call 18; (with_reducible refine (put_new _ x m1 m2 l h3x s d sl HK.out hlen).mono ?_); rintro e W4 ⟨rfl, h4, hC4⟩; have hB4 := hB3.chgX h3x hC4; have hend : Both W4 x m1 m2 r (l ++ [((s, d), sl)]) := ⟨h4, h3.chgX h3x hC4⟩; have hCC : Chg [m1, m2, r] w W4 := (hA1.nil.trans (hC3.mono (by simp))).trans (hC4.mono (by simp)))
      | (go_at_call 49; (with_reducible refine (rput_new _ r l h3r s d sl HK.out hn hlen).mono ?_); rintro e W4 ⟨rfl, h4, hC4⟩; have hB4 := hB3.chgR h3r hC4; have hend : Both W4 x m1 m2 r (l ++ [((s, d), sl)]) := ⟨h3.chgR h3r hC4, h4⟩; have hCC : Chg [m1, m2, r] w W4 := (hA1.nil.trans (hC3.mono (by simp))).trans (hC4.mono (by simp))))
  all_goals
    clear hC4 hC3 hB4 hB3 hB2 h2 h3 h4 hA1
    go_wp2
    go_ret
    exact ⟨rfl, hend, hCC⟩
end Go.Proofs.Ytdcjfaplgpeonaa
