/-
  The law's act, kind by kind. (Printed by gen_act.py.)
-/
import Derived.Test.YtdcjfaplgpeonaaLb
namespace Go.Proofs.Ytdcjfaplgpeonaa
open Go.RowKit Go.Dm

theorem put_old' (w : World) (x m1 m2 : Nat) (l : IL) (h : XAt w x m1 m2 l) (k1 k2 v : Int) (hk : (mLook l (k1, k2)).isSome = true) :
    Calls Try.prog 18 #[.pointer (some ⟨x, 0, none⟩), .agg #[.int .i64 k1, .int .i64 k2], .int .i64 v] w fun e w' => e = .returned (.bool false) ∧ XAt w' x m1 m2 l ∧ Chg [m1, m2] w w' :=
  (put_old w x m1 m2 l h k1 k2 v hk).mono fun _ _ ⟨h1, h2⟩ => ⟨h1, h.chg h2 (by simp) (by simp) (by simp), h2.nil⟩
theorem drop_no' (w : World) (x m1 m2 : Nat) (l : IL) (h : XAt w x m1 m2 l) (k1 k2 : Int) (hk : mLook l (k1, k2) = none) :
    Calls Try.prog 19 #[.pointer (some ⟨x, 0, none⟩), .agg #[.int .i64 k1, .int .i64 k2]] w fun e w' => e = .returned (.bool false) ∧ XAt w' x m1 m2 l ∧ Chg [m1, m2] w w' :=
  (drop_no w x m1 m2 l h k1 k2 hk).mono fun _ _ ⟨h1, h2⟩ => ⟨h1, h.chg h2 (by simp) (by simp) (by simp), h2.nil⟩
theorem rput_old' (w : World) (r : Nat) (l : IL) (h : RAt w r l) (k1 k2 v : Int) (hk : (mLook l (k1, k2)).isSome = true) (hn : (keysL l).Nodup) (hlen : l.length ≤ 1000) :
    Calls Try.prog 49 #[.pointer (some ⟨r, 0, none⟩), .int .i64 k1, .int .i64 k2, .int .i64 v] w fun e w' => e = .returned (.bool false) ∧ RAt w' r l ∧ Chg [r] w w' :=
  (rput_old w r l h k1 k2 v hk hn hlen).mono fun _ _ ⟨h1, h2⟩ => ⟨h1, h2 ▸ h, h2 ▸ Chg.refl _ _⟩
theorem rdrop_no' (w : World) (r : Nat) (l : IL) (h : RAt w r l) (k1 k2 : Int) (hk : mLook l (k1, k2) = none) (hn : (keysL l).Nodup) (hlen : l.length ≤ 1000) :
    Calls Try.prog 51 #[.pointer (some ⟨r, 0, none⟩), .int .i64 k1, .int .i64 k2] w fun e w' => e = .returned (.bool false) ∧ RAt w' r l ∧ Chg [r] w w' :=
  (rdrop_no w r l h k1 k2 hk hn hlen).mono fun _ _ ⟨h1, h2⟩ => ⟨h1, h2 ▸ h, h2 ▸ Chg.refl _ _⟩

set_option maxRecDepth 100000 in
set_option maxHeartbeats 2000000 in
theorem act_put_old (w : World) (x m1 m2 r : Nat) (l : IL) (h : Both w x m1 m2 r l) (hlen : l.length ≤ 1000) (s sl d : Int) (hk : (mLook l (s, d)).isSome = true) :
    Calls Try.prog 15 #[.pointer (some ⟨x, 0, none⟩), .pointer (some ⟨r, 0, none⟩), .agg #[.int .i64 0, .int .i64 s, .int .i64 sl, .int .i64 d]] w fun e w' =>
      e = .returned (.bool true) ∧ Both w' x m1 m2 r l ∧ Chg [m1, m2, r] w w' := by
  have hn := h.ix.ents.nodup
  have hA : Chg [] w ((w.alloc (.cells #[.int .i64 0, .int .i64 s, .int .i64 sl, .int .i64 d] 32)).alloc (.cells #[.int .i64 s, .int .i64 d] 37)) := (Chg.alloc _ _ _).trans (Chg.alloc _ _ _)
  have hB := Boxed2.new w 0 s sl d
  have h1 := h.chg hA
  have hA1 := hA.trans (Chg.drew [] _)
  have h2 := h1.chg (Chg.drew [] _)
  have hB2 := hB.chg (Chg.drew [] _) (by simp) (by simp)
  obtain ⟨d0, d1, d2, d3, d4, d5⟩ := hB.cells
  have HK := Lib.hid hk
  clear hk
  clear hA h1 hB h
  go_enter Try.func15, Try.ntmps15
  go_wp2_with fail
  go_region_held3 (fun w' => w'.cell? ⟨w.heap.size, 1, none⟩ = some (.int .i64 s) ∧ w'.cell? ⟨w.heap.size, 2, none⟩ = some (.int .i64 sl) ∧ w'.cell? ⟨w.heap.size, 3, none⟩ = some (.int .i64 d) ∧ w'.cell? ⟨w.heap.size + 1, 0, none⟩ = some (.int .i64 s) ∧ w'.cell? ⟨w.heap.size + 1, 1, none⟩ = some (.int .i64 d))
    (first
      | go_keep
      | (exact hB4.cells.2)
      | (exact hB3.cells.2))
    (first
      | (go_at_call 18; (with_reducible refine (put_old' _ x m1 m2 l h2.ix s d sl HK.out).mono ?_); rintro e W3 ⟨rfl, h3, hC3⟩; have hB3 := hB2.chgX h2.ix hC3; have h3r := h2.rf.chgX h2.ix hC3)
      | (go_at_call 49; (with_reducible refine (rput_old' _ r l h2.rf s d sl HK.out hn hlen).mono ?_); rintro e W3 ⟨rfl, h3, hC3⟩; have hB3 := hB2.chgR h2.rf hC3; have h3x := h2.ix.chgR h2.rf hC3)
      | (go_at_call 18; (with_reducible refine (put_old' _ x m1 m2 l h3x s d sl HK.out).mono ?_); rintro e W4 ⟨rfl, h4, hC4⟩; have hB4 := hB3.chgX h3x hC4; have hend : Both W4 x m1 m2 r l := ⟨h4, h3.chgX h3x hC4⟩; have hCC : Chg [m1, m2, r] w W4 := (hA1.nil.trans (hC3.mono (by simp))).trans (hC4.mono (by simp)))
      | (go_at_call 49; (with_reducible refine (rput_old' _ r l h3r s d sl HK.out hn hlen).mono ?_); rintro e W4 ⟨rfl, h4, hC4⟩; have hB4 := hB3.chgR h3r hC4; have hend : Both W4 x m1 m2 r l := ⟨h3.chgR h3r hC4, h4⟩; have hCC : Chg [m1, m2, r] w W4 := (hA1.nil.trans (hC3.mono (by simp))).trans (hC4.mono (by simp))))
  all_goals
    clear hC4 hC3 hB4 hB3 hB2 h2 h3 h4 hA1
    go_wp2
    go_ret
    exact ⟨rfl, hend, hCC⟩

set_option maxRecDepth 100000 in
set_option maxHeartbeats 2000000 in
theorem act_drop_no (w : World) (x m1 m2 r : Nat) (l : IL) (h : Both w x m1 m2 r l) (hlen : l.length ≤ 1000) (s sl d : Int) (hk : mLook l (s, d) = none) :
    Calls Try.prog 15 #[.pointer (some ⟨x, 0, none⟩), .pointer (some ⟨r, 0, none⟩), .agg #[.int .i64 2, .int .i64 s, .int .i64 sl, .int .i64 d]] w fun e w' =>
      e = .returned (.bool true) ∧ Both w' x m1 m2 r l ∧ Chg [m1, m2, r] w w' := by
  have hn := h.ix.ents.nodup
  have hA : Chg [] w ((w.alloc (.cells #[.int .i64 2, .int .i64 s, .int .i64 sl, .int .i64 d] 32)).alloc (.cells #[.int .i64 s, .int .i64 d] 37)) := (Chg.alloc _ _ _).trans (Chg.alloc _ _ _)
  have hB := Boxed2.new w 2 s sl d
  have h1 := h.chg hA
  have hA1 := hA.trans (Chg.drew [] _)
  have h2 := h1.chg (Chg.drew [] _)
  have hB2 := hB.chg (Chg.drew [] _) (by simp) (by simp)
  obtain ⟨d0, d1, d2, d3, d4, d5⟩ := hB.cells
  have HK := Lib.hid hk
  clear hk
  clear hA h1 hB h
  go_enter Try.func15, Try.ntmps15
  go_wp2_with fail
  go_region_held3 (fun w' => w'.cell? ⟨w.heap.size, 1, none⟩ = some (.int .i64 s) ∧ w'.cell? ⟨w.heap.size, 2, none⟩ = some (.int .i64 sl) ∧ w'.cell? ⟨w.heap.size, 3, none⟩ = some (.int .i64 d) ∧ w'.cell? ⟨w.heap.size + 1, 0, none⟩ = some (.int .i64 s) ∧ w'.cell? ⟨w.heap.size + 1, 1, none⟩ = some (.int .i64 d))
    (first
      | go_keep
      | (exact hB4.cells.2)
      | (exact hB3.cells.2))
    (first
      | (go_at_call 19; (with_reducible refine (drop_no' _ x m1 m2 l h2.ix s d HK.out).mono ?_); rintro e W3 ⟨rfl, h3, hC3⟩; have hB3 := hB2.chgX h2.ix hC3; have h3r := h2.rf.chgX h2.ix hC3)
      | (go_at_call 51; (with_reducible refine (rdrop_no' _ r l h2.rf s d HK.out hn hlen).mono ?_); rintro e W3 ⟨rfl, h3, hC3⟩; have hB3 := hB2.chgR h2.rf hC3; have h3x := h2.ix.chgR h2.rf hC3)
      | (go_at_call 19; (with_reducible refine (drop_no' _ x m1 m2 l h3x s d HK.out).mono ?_); rintro e W4 ⟨rfl, h4, hC4⟩; have hB4 := hB3.chgX h3x hC4; have hend : Both W4 x m1 m2 r l := ⟨h4, h3.chgX h3x hC4⟩; have hCC : Chg [m1, m2, r] w W4 := (hA1.nil.trans (hC3.mono (by simp))).trans (hC4.mono (by simp)))
      | (go_at_call 51; (with_reducible refine (rdrop_no' _ r l h3r s d HK.out hn hlen).mono ?_); rintro e W4 ⟨rfl, h4, hC4⟩; have hB4 := hB3.chgR h3r hC4; have hend : Both W4 x m1 m2 r l := ⟨h3.chgR h3r hC4, h4⟩; have hCC : Chg [m1, m2, r] w W4 := (hA1.nil.trans (hC3.mono (by simp))).trans (hC4.mono (by simp))))
  all_goals
    clear hC4 hC3 hB4 hB3 hB2 h2 h3 h4 hA1
    go_wp2
    go_ret
    exact ⟨rfl, hend, hCC⟩

set_option maxRecDepth 100000 in
set_option maxHeartbeats 2000000 in
theorem act_drop_yes (w : World) (x m1 m2 r : Nat) (l : IL) (h : Both w x m1 m2 r l) (hlen : l.length ≤ 1000) (s sl d : Int) (hk : (mLook l (s, d)).isSome = true) :
    Calls Try.prog 15 #[.pointer (some ⟨x, 0, none⟩), .pointer (some ⟨r, 0, none⟩), .agg #[.int .i64 2, .int .i64 s, .int .i64 sl, .int .i64 d]] w fun e w' =>
      e = .returned (.bool true) ∧ Both w' x m1 m2 r (delL l (s, d)) ∧ Chg [m1, m2, r] w w' := by
  have hn := h.ix.ents.nodup
  have hA : Chg [] w ((w.alloc (.cells #[.int .i64 2, .int .i64 s, .int .i64 sl, .int .i64 d] 32)).alloc (.cells #[.int .i64 s, .int .i64 d] 37)) := (Chg.alloc _ _ _).trans (Chg.alloc _ _ _)
  have hB := Boxed2.new w 2 s sl d
  have h1 := h.chg hA
  have hA1 := hA.trans (Chg.drew [] _)
  have h2 := h1.chg (Chg.drew [] _)
  have hB2 := hB.chg (Chg.drew [] _) (by simp) (by simp)
  obtain ⟨d0, d1, d2, d3, d4, d5⟩ := hB.cells
  obtain ⟨v0, hv0⟩ := Option.isSome_iff_exists.1 hk
  have HK := Lib.hid hk
  have HV := Lib.hid hv0
  clear hk hv0
  clear hA h1 hB h
  go_enter Try.func15, Try.ntmps15
  go_wp2_with fail
  go_region_held3 (fun w' => w'.cell? ⟨w.heap.size, 1, none⟩ = some (.int .i64 s) ∧ w'.cell? ⟨w.heap.size, 2, none⟩ = some (.int .i64 sl) ∧ w'.cell? ⟨w.heap.size, 3, none⟩ = some (.int .i64 d) ∧ w'.cell? ⟨w.heap.size + 1, 0, none⟩ = some (.int .i64 s) ∧ w'.cell? ⟨w.heap.size + 1, 1, none⟩ = some (.int .i64 d))
    (first
      | go_keep
      | (exact hB4.cells.2)
      | (exact hB3.cells.2))
    (first
      | (go_at_call 19; (with_reducible refine (drop_yes _ x m1 m2 l h2.ix s d v0 HV.out hlen).mono ?_); rintro e W3 ⟨rfl, h3, hC3⟩; have hB3 := hB2.chgX h2.ix hC3; have h3r := h2.rf.chgX h2.ix hC3)
      | (go_at_call 51; (with_reducible refine (rdrop_yes _ r l h2.rf s d HK.out hn hlen).mono ?_); rintro e W3 ⟨rfl, h3, hC3⟩; have hB3 := hB2.chgR h2.rf hC3; have h3x := h2.ix.chgR h2.rf hC3)
      | (go_at_call 19; (with_reducible refine (drop_yes _ x m1 m2 l h3x s d v0 HV.out hlen).mono ?_); rintro e W4 ⟨rfl, h4, hC4⟩; have hB4 := hB3.chgX h3x hC4; have hend : Both W4 x m1 m2 r (delL l (s, d)) := ⟨h4, h3.chgX h3x hC4⟩; have hCC : Chg [m1, m2, r] w W4 := (hA1.nil.trans (hC3.mono (by simp))).trans (hC4.mono (by simp)))
      | (go_at_call 51; (with_reducible refine (rdrop_yes _ r l h3r s d HK.out hn hlen).mono ?_); rintro e W4 ⟨rfl, h4, hC4⟩; have hB4 := hB3.chgR h3r hC4; have hend : Both W4 x m1 m2 r (delL l (s, d)) := ⟨h3.chgR h3r hC4, h4⟩; have hCC : Chg [m1, m2, r] w W4 := (hA1.nil.trans (hC3.mono (by simp))).trans (hC4.mono (by simp))))
  all_goals
    clear hC4 hC3 hB4 hB3 hB2 h2 h3 h4 hA1
    go_wp2
    go_ret
    exact ⟨rfl, hend, hCC⟩

set_option maxRecDepth 100000 in
set_option maxHeartbeats 2000000 in
theorem act_clear (w : World) (x m1 m2 r : Nat) (l : IL) (h : Both w x m1 m2 r l) (hlen : l.length ≤ 1000) (kd s sl d : Int) (h0 : kd ≠ 0) (h1' : kd ≠ 1) (h2' : kd ≠ 2) :
    Calls Try.prog 15 #[.pointer (some ⟨x, 0, none⟩), .pointer (some ⟨r, 0, none⟩), .agg #[.int .i64 kd, .int .i64 s, .int .i64 sl, .int .i64 d]] w fun e w' =>
      e = .returned (.bool true) ∧ Both w' x m1 m2 r (symOut l s) ∧ Chg [m1, m2, r] w w' := by
  have hn := h.ix.ents.nodup
  have hA : Chg [] w ((w.alloc (.cells #[.int .i64 kd, .int .i64 s, .int .i64 sl, .int .i64 d] 32)).alloc (.cells #[.int .i64 s, .int .i64 d] 37)) := (Chg.alloc _ _ _).trans (Chg.alloc _ _ _)
  have hB := Boxed2.new w kd s sl d
  have h1 := h.chg hA
  have hA1 := hA.trans (Chg.drew [] _)
  have h2 := h1.chg (Chg.drew [] _)
  have hB2 := hB.chg (Chg.drew [] _) (by simp) (by simp)
  obtain ⟨d0, d1, d2, d3, d4, d5⟩ := hB.cells
  have t0 : (kd == 0) = false := by simp [h0]
  have t1 : (kd == 1) = false := by simp [h1']
  have t2 : (kd == 2) = false := by simp [h2']
  clear h0 h1' h2'
  clear hA h1 hB h
  go_enter Try.func15, Try.ntmps15
  go_wp2_with fail
  go_region_held3 (fun w' => w'.cell? ⟨w.heap.size, 1, none⟩ = some (.int .i64 s) ∧ w'.cell? ⟨w.heap.size, 2, none⟩ = some (.int .i64 sl) ∧ w'.cell? ⟨w.heap.size, 3, none⟩ = some (.int .i64 d) ∧ w'.cell? ⟨w.heap.size + 1, 0, none⟩ = some (.int .i64 s) ∧ w'.cell? ⟨w.heap.size + 1, 1, none⟩ = some (.int .i64 d))
    (first
      | go_keep
      | (exact hB4.cells.2)
      | (exact hB3.cells.2))
    (first
      | (go_at_call 20; (with_reducible refine (clear_any _ x m1 m2 l h2.ix s).mono ?_); rintro e W3 ⟨rfl, h3, hC3⟩; have hB3 := hB2.chgX h2.ix hC3; have h3r := h2.rf.chgX h2.ix hC3)
      | (go_at_call 52; (with_reducible refine (rclear_any _ r l h2.rf s hlen).mono ?_); rintro e W3 ⟨rfl, h3, hC3⟩; have hB3 := hB2.chgR h2.rf hC3; have h3x := h2.ix.chgR h2.rf hC3)
      | (go_at_call 20; (with_reducible refine (clear_any _ x m1 m2 l h3x s).mono ?_); rintro e W4 ⟨rfl, h4, hC4⟩; have hB4 := hB3.chgX h3x hC4; have hend : Both W4 x m1 m2 r (symOut l s) := ⟨h4, h3.chgX h3x hC4⟩; have hCC : Chg [m1, m2, r] w W4 := (hA1.nil.trans (hC3.mono (by simp))).trans (hC4.mono (by simp)))
      | (go_at_call 52; (with_reducible refine (rclear_any _ r l h3r s hlen).mono ?_); rintro e W4 ⟨rfl, h4, hC4⟩; have hB4 := hB3.chgR h3r hC4; have hend : Both W4 x m1 m2 r (symOut l s) := ⟨h3.chgR h3r hC4, h4⟩; have hCC : Chg [m1, m2, r] w W4 := (hA1.nil.trans (hC3.mono (by simp))).trans (hC4.mono (by simp))))
  all_goals
    clear hC4 hC3 hB4 hB3 hB2 h2 h3 h4 hA1
    go_wp2
    go_ret
    exact ⟨by simp, hend, hCC⟩

/-- One act: both answer alike, both hold the same list behind it. -/
theorem act_any (w : World) (x m1 m2 r : Nat) (l : IL) (h : Both w x m1 m2 r l) (hlen : l.length ≤ 1000) (kd s sl d : Int) :
    Calls Try.prog 15 #[.pointer (some ⟨x, 0, none⟩), .pointer (some ⟨r, 0, none⟩), .agg #[.int .i64 kd, .int .i64 s, .int .i64 sl, .int .i64 d]] w fun e w' =>
      e = .returned (.bool true) ∧ Both w' x m1 m2 r (stepL l kd s sl d) ∧ Chg [m1, m2, r] w w' := by
  unfold stepL
  by_cases h0 : kd = 0
  · subst h0
    simp only [if_true]
    by_cases hk : (mLook l (s, d)).isSome = true
    · simp only [hk, if_true]
      exact act_put_old w x m1 m2 r l h hlen s sl d hk
    · have hk0 : mLook l (s, d) = none := by simpa using hk
      simp only [hk0, Option.isSome_none, Bool.false_eq_true, if_false]
      exact act_put_new w x m1 m2 r l h hlen s sl d hk0
  by_cases h1 : kd = 1
  · subst h1
    simp only [h0, if_false, if_true]
    exact (act_get w x m1 m2 r l h hlen s sl d).mono fun _ _ ⟨a, b, c⟩ => ⟨a, b, c.nil⟩
  by_cases h2 : kd = 2
  · subst h2
    simp only [h0, h1, if_false, if_true]
    by_cases hk : (mLook l (s, d)).isSome = true
    · exact act_drop_yes w x m1 m2 r l h hlen s sl d hk
    · have hk0 : mLook l (s, d) = none := by simpa using hk
      rw [del_none hk0]
      exact act_drop_no w x m1 m2 r l h hlen s sl d hk0
  · simp only [h0, h1, h2, if_false]
    exact act_clear w x m1 m2 r l h hlen kd s sl d h0 h1 h2
end Go.Proofs.Ytdcjfaplgpeonaa
