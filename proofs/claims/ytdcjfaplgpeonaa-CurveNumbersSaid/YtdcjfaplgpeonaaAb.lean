/-
  A new arena.
-/
import Derived.Test.YtdcjfaplgpeonaaAa
namespace Go.Proofs.Ytdcjfaplgpeonaa
open Go.RowKit Go.Dm

theorem zero115 : Try.zeroCells115 = Array.replicate 4003 (.int .i64 0) := by kernel_rfl
/-- What stands in a new arena's block behind i rounds of its loop. -/
def newR (n i : Nat) : Nat → Int := fun k => if k = 4000 then n else if k % 8 = 7 ∧ k / 8 < i then (k / 8 : Nat) + 1 else 0
def newC (n : Nat) : Nat → Int := upd (newR n n) ((n - 1) * 8 + 7) (-1)
theorem new_at (w : World) (n : Nat) : ArAt (w.alloc (.cells (Try.zeroCells115.setIfInBounds 4000 (.int .i64 n)) 115)) w.heap.size (newR n 0) := by
  rw [zero115]
  refine ⟨_, heap_alloc_new w _, by simp, fun j hj => ?_⟩
  by_cases e : j = 4000
  · subst e; simp [newR]
  · rw [Array.getElem?_setIfInBounds_ne (fun h => e h.symm)]; simp [newR, e, hj]

def NewRel (w : World) (n : Nat) (m : Nat) (i : Value) (wr : World) : Prop :=
  ∃ k : Nat, k ≤ n ∧ m = n - k + 1 ∧ i = .int .i64 k ∧ ArAt wr w.heap.size (newR n k) ∧ Chg [] w wr

set_option maxRecDepth 100000 in
set_option maxHeartbeats 1000000 in
theorem new09 (w : World) (n : Nat) (h0 : 1 ≤ n) (h1 : n ≤ 500) :
    Calls Try.prog 23 #[.int .i64 n] w fun e w' => e = .returned (.tuple #[.pointer (some ⟨w.heap.size, 0, none⟩), .int .i64 0]) ∧ ArAt w' w.heap.size (newC n) ∧ Chg [] w w' := by
  have d1 : decide ((n : Int) < 1) = false := by simp; omega
  have d2 : decide ((n : Int) > 500) = false := by simp; omega
  have hN := new_at w n
  have hA := Chg.alloc [] w (.cells (Try.zeroCells115.setIfInBounds 4000 (.int .i64 n)) 115)
  go_enter Try.func23, Try.ntmps23
  go_wp2_with fail
  go_loopg [16] (n + 1) (fun m i wr => NewRel w n m i wr)
  case atStart => exact ⟨0, Nat.zero_le _, rfl, rfl, hN, hA⟩
  case round =>
    clear hN hA d1 d2
    obtain ⟨k, hk, hm, rfl, hI, hC⟩ := hrel
    have Hm := Lib.hid hm
    clear hm
    by_cases hlt : k < n
    · have k0 : (0 : Int) ≤ (k : Int) := Int.natCast_nonneg _
      have k1 : (k : Int) < 500 := by omega
      have k2 : (k : Int) < (n : Int) := by omega
      have h7 := hI.cell (j := k * 8 + 7) (by omega)
      have f7 := hI.free (k * 8 + 7)
      have hb := hI.lt
      clear hk
      go_wp2
      go_roundg (n - (k + 1) + 1)
      case measure => rw [Hm.out]; omega
      case rel =>
        refine ⟨k + 1, by omega, rfl, by go_num, (hI.set _ _).ext fun j hj => ?_, hC.putNew (Nat.le_refl _)⟩
        unfold upd newR
        by_cases e : j = k * 8 + 7
        · subst e
          have h1 : k * 8 + 7 ≠ 4000 := by omega
          have h2 : (k * 8 + 7) % 8 = 7 := by omega
          have h3 : (k * 8 + 7) / 8 = k := by omega
          simp only [h1, h2, h3, if_true, if_false, true_and]
          rw [if_pos (by omega)]
          all_goals go_num
        · rw [if_neg e]
          by_cases e2 : j = 4000
          · simp [e2]
          · rw [if_neg e2, if_neg e2]
            have : (j % 8 = 7 ∧ j / 8 < k) ↔ (j % 8 = 7 ∧ j / 8 < k + 1) := by omega
            simp only [this]
    · have hkn : k = n := by omega
      subst hkn
      have k1 : (0 : Int) ≤ (k : Int) - 1 := by omega
      have k2 : (k : Int) - 1 < 500 := by omega
      obtain ⟨q, hq⟩ : ∃ q : Nat, k = q + 1 := ⟨k - 1, by omega⟩
      have h7 := hI.cell (j := q * 8 + 7) (by omega)
      have f7 := hI.free (q * 8 + 7)
      have hb := hI.lt
      clear hk
      go_wp2
      go_ret2
      have hc : newC k = upd (newR k k) (q * 8 + 7) (-1) := by simp [newC, hq]
      exact ⟨rfl, hc ▸ hI.set _ _, hC.putNew (Nat.le_refl _)⟩
theorem new09_no (w : World) (n : Int) (h : n < 1 ∨ n > 500) :
    Calls Try.prog 23 #[.int .i64 n] w fun e w' => e = .returned (.tuple #[.pointer none, .int .i64 9]) ∧ Chg [] w w' := by
  by_cases h1 : n < 1
  · clear h
    go_enter Try.func23, Try.ntmps23
    go_wp2
    go_ret2
    exact ⟨rfl, Chg.refl _ _⟩
  · have h2 : n > 500 := by omega
    clear h
    go_enter Try.func23, Try.ntmps23
    go_wp2
    go_ret2
    exact ⟨rfl, Chg.refl _ _⟩

/-- The chapter's example. -/
def aO (n : Int) : Nat → Int := fun j => if j = 0 then n else 0
def aC1 : Nat → Int := upd (upd (updO (upd (newC 3) 4001 1) 0 (aO 1)) 7 (-2)) 4002 1
def aC2 : Nat → Int := upd (upd (updO (upd aC1 4001 2) 8 (aO 2)) 15 (-2)) 4002 2
def aC3 : Nat → Int := upd (upd (upd (updO aC2 0 (fun _ => 0)) 7 2) 4001 0) 4002 1
def aC4 : Nat → Int := upd (upd (updO (upd aC3 4001 2) 0 (aO 3)) 7 (-2)) 4002 2

theorem take09_at (w : World) (b : Nat) (c c' : Nat → Int) (h : ArAt w b c) (k : Nat) (n : Int) (hf : c 4001 = k) (hk : k < 500) (v : Value) (o : Nat → Int) (ho : v = oV o) (hw : IntKind.i64.wrap (c 4002 + 1) = c 4002 + 1)
    (hc : upd (upd (updO (upd c 4001 (c (k * 8 + 7))) (k * 8) o) (k * 8 + 7) (-2)) 4002 (c 4002 + 1) = c') (hn : (k : Int) = n) :
    Calls Try.prog 24 #[.pointer (some ⟨b, 0, none⟩), v] w fun e w' => e = .returned (.tuple #[.int .i64 n, .int .i64 0]) ∧ ArAt w' b c' ∧ Chg [b] w w' := by
  subst ho hc hn; exact take09_yes w b c h k hf hk o hw

set_option maxRecDepth 100000 in
set_option maxHeartbeats 1000000 in
theorem alive09 (w : World) : Calls Try.prog 22 #[] w fun e w' => e = .returned (.bool true) ∧ Chg [] w w' := by
  go_enter Try.func22, Try.ntmps22
  go_wp2_with fail
  refine (new09 _ 3 (by omega) (by omega)).mono ?_
  rintro e W1 ⟨rfl, h1, hC1⟩
  go_wp2_with fail
  refine (take09_at _ _ _ aC1 h1 0 0 rfl (by omega) _ (aO 1) rfl rfl rfl rfl).mono ?_
  rintro e W2 ⟨rfl, h2, hC2⟩
  have hD2 : Chg [] w W2 := hC1.trans' hC2 (by simp) (by simp)
  clear hC1 hC2 h1
  go_wp2_with fail
  refine (take09_at _ _ _ aC2 h2 1 1 rfl (by omega) _ (aO 2) rfl rfl rfl rfl).mono ?_
  rintro e W3 ⟨rfl, h3, hC3⟩
  have hD3 : Chg [] w W3 := hD2.trans' hC3 (by simp) (by simp)
  clear hD2 hC3 h2
  go_wp2_with fail
  refine (drop09_yes _ _ _ h3 0 (by decide) (by decide) rfl rfl).mono ?_
  rintro e W4 ⟨rfl, h4, hC4⟩
  have hD4 : Chg [] w W4 := hD3.trans' hC4 (by simp) (by simp)
  have h4 : ArAt W4 w.heap.size aC3 := h4
  clear hD3 hC4 h3
  go_wp2_with fail
  refine (take09_at _ _ _ aC4 h4 0 0 rfl (by omega) _ (aO 3) rfl rfl rfl rfl).mono ?_
  rintro e W5 ⟨rfl, h5, hC5⟩
  have hD5 : Chg [] w W5 := hD4.trans' hC5 (by simp) (by simp)
  clear hD4 hC5 h4
  have hu := used09 _ _ _ h5
  have hr := room09 _ _ _ h5 rfl
  rw [show aC4 4002 = 2 from rfl] at hu hr
  rw [show aC4 4000 = 3 from rfl, show (3 : Int) - 2 = 1 from rfl] at hr
  go_wp2_with fail
  refine hu.mono ?_
  rintro e W6 ⟨rfl, rfl⟩
  go_wp2_with fail
  refine hr.mono ?_
  rintro e W7 ⟨rfl, hC7⟩
  have hD7 := hD5.trans hC7
  clear hC7 hD5 hu hr h5
  go_wp2
  go_ret
  exact ⟨rfl, hD7⟩
end Go.Proofs.Ytdcjfaplgpeonaa
