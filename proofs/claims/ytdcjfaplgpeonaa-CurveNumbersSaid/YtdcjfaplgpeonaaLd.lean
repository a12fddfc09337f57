/-
  The law IndexPlays, walked.
-/
import Derived.Test.YtdcjfaplgpeonaaLc
namespace Go.Proofs.Ytdcjfaplgpeonaa
open Go.RowKit Go.Dm

structure Act12 where
  kd : Int
  s : Int
  sl : Int
  d : Int

/-- The acts that came in lie in memory. -/
def ActsAt (w : World) (A : Option Addr) (acts : List Act12) : Prop :=
  acts = [] ∨ ∃ b off, A = some ⟨b, off, none⟩ ∧ b < w.heap.size ∧ ∀ i p, acts[i]? = some p →
    w.cell? ⟨b, off + i * 4, none⟩ = some (.int .i64 p.kd) ∧ w.cell? ⟨b, off + i * 4 + 1, none⟩ = some (.int .i64 p.s) ∧ w.cell? ⟨b, off + i * 4 + 2, none⟩ = some (.int .i64 p.sl) ∧ w.cell? ⟨b, off + i * 4 + 3, none⟩ = some (.int .i64 p.d)

theorem stepL_len (l : IL) (kd s sl d : Int) : (stepL l kd s sl d).length ≤ l.length + 1 := by
  unfold stepL
  have h1 := delL_le l (s, d)
  have h2 : (symOut l s).length ≤ l.length := List.length_filter_le _ _
  split
  · split <;> simp
  · split
    · omega
    · split <;> omega

theorem of_len (w : World) (r : Nat) (l : IL) (h : RAt w r l) (s : Int) (hlen : l.length ≤ 1000) :
    Calls Try.prog 17 #[.pointer (some ⟨r, 0, none⟩), .int .i64 s] w fun e w' => ∃ A c, e = .returned (.slice A (icnt l s) c) ∧ Chg [] w w' :=
  (of_any w r l h s hlen).mono fun e w' ⟨v, he, hs, _, hC⟩ => by
    obtain ⟨A, c, rfl, _⟩ := hs.form
    rw [ofL_length] at he
    exact ⟨A, c, he, hC⟩

def PlaysRel (acts : List Act12) (w : World) (x m1 m2 r : Nat) (n : Nat) (i : Value) (wr : World) : Prop :=
  ∃ (k : Nat) (l : IL), k ≤ acts.length ∧ n = acts.length - k + 1 ∧ i = .int .i64 k ∧ l.length ≤ k ∧ Both wr x m1 m2 r l ∧ Chg [] w wr

set_option maxRecDepth 100000 in
set_option maxHeartbeats 4000000 in
theorem plays_any (w : World) (A : Option Addr) (c : Nat) (acts : List Act12) (h : ActsAt w A acts) :
    Calls Try.prog 3 #[.slice A acts.length c] w fun e w' => e = .returned (.bool true) ∧ Chg [] w w' := by
  by_cases hbig : acts.length > 200
  · have hb : (acts.length : Int) > 200 := by omega
    clear hbig
    go_enter Try.func3, Try.ntmps3
    go_wp2_with fail
    refine (alive12 _).mono ?_
    rintro e w' ⟨rfl, hC⟩
    go_wp2
    go_ret
    exact ⟨rfl, hC⟩
  · have hb : ¬ (acts.length : Int) > 200 := by omega
    have hsm : acts.length ≤ 200 := by omega
    clear hbig
    go_enter Try.func3, Try.ntmps3
    go_wp2_with fail
    refine (new_any _).mono ?_
    rintro e W1 ⟨x, m1, m2, rfl, h1, hC1, hx, hm1, hm2⟩
    go_wp2_with fail
    have hrf : RAt (W1.alloc (.cells #[.slice none 0 0] 29)) W1.heap.size [] := ⟨_, heap_alloc_new W1 _, SlAt.nil _ _ _ _⟩
    have hB : Both (W1.alloc (.cells #[.slice none 0 0] 29)) x m1 m2 W1.heap.size [] := ⟨h1.chg (Chg.alloc [] _ _) (by simp) (by simp) (by simp), hrf⟩
    have hC := hC1.trans (Chg.alloc [] W1 (.cells #[.slice none 0 0] 29))
    have hr : w.heap.size ≤ W1.heap.size := hC1.size
    clear h1 hC1 hrf
    go_loopg [5] (acts.length + 1) (fun n i wr => PlaysRel acts w x m1 m2 W1.heap.size n i wr)
    case atStart => exact ⟨0, [], Nat.zero_le _, rfl, rfl, Nat.le_refl _, hB, hC⟩
    case round =>
      clear hB hC
      obtain ⟨k, l, hk, hn, rfl, hll, hB, hC⟩ := hrel
      have Hn := Lib.hid hn
      clear hn
      by_cases hlt : k < acts.length
      · rcases h with h | ⟨b, off, rfl, hbl, hcells⟩
        · subst h; simp at hlt
        obtain ⟨p, hp⟩ : ∃ p, acts[k]? = some p := ⟨acts[k], by simp [hlt]⟩
        obtain ⟨c0, c1, c2, c3⟩ := hcells k p hp
        obtain ⟨kd, s, sl, d⟩ := p
        clear hcells hp
        have f0 := hC.cell c0 (by simp)
        have f1 := hC.cell c1 (by simp)
        have f2 := hC.cell c2 (by simp)
        have f3 := hC.cell c3 (by simp)
        have hbr : b < wr.heap.size := by have := hC.size; omega
        have hBd := hB.chg (Chg.drew [] wr)
        have k0 : (0 : Int) ≤ (k : Int) := Int.natCast_nonneg _
        have k1 : (k : Int) < (acts.length : Int) := by omega
        have hl1 : l.length ≤ 1000 := by omega
        have hl2 : (stepL l kd s sl d).length ≤ 1000 := by have := stepL_len l kd s sl d; omega
        have hl3 : (stepL l kd s sl d).length ≤ k + 1 := by have := stepL_len l kd s sl d; omega
        have hCd := hC.trans (Chg.drew [] wr)
        have hnb : b ∉ [m1, m2, W1.heap.size] := by simp; omega
        clear c0 c1 c2 c3 hB
        go_wp2_with fail
        go_region_held3 (fun w' => w'.cell? ⟨b, off + k * 4, none⟩ = some (.int .i64 kd) ∧ w'.cell? ⟨b, off + k * 4 + 1, none⟩ = some (.int .i64 s) ∧ w'.cell? ⟨b, off + k * 4 + 2, none⟩ = some (.int .i64 sl) ∧ w'.cell? ⟨b, off + k * 4 + 3, none⟩ = some (.int .i64 d))
          (first
            | go_keep
            | (exact ⟨hC4.cell g0 (by simp), hC4.cell g1 (by simp), hC4.cell g2 (by simp), hC4.cell g3 (by simp)⟩)
            | (exact ⟨g0, g1, g2, g3⟩))
          (first
            | (go_at_call 15; (with_reducible refine (act_any _ x m1 m2 W1.heap.size l hBd hl1 kd s sl d).mono ?_); rintro e W3 ⟨rfl, h3, hC3⟩; have g0 := hC3.cell f0 hnb; have g1 := hC3.cell f1 hnb; have g2 := hC3.cell f2 hnb; have g3 := hC3.cell f3 hnb)
            | (go_at_call 16; (with_reducible refine (len_any _ x m1 m2 _ h3.ix s).mono ?_); rintro e W5 ⟨rfl, rfl⟩)
            | (go_at_call 17; (with_reducible refine (of_len _ W1.heap.size _ h3.rf s hl2).mono ?_); rintro e W4 ⟨A4, c4, rfl, hC4⟩; have h4 := h3.chg hC4)
            | (go_at_call 16; (with_reducible refine (len_any _ x m1 m2 _ h4.ix s).mono ?_); rintro e W5 ⟨rfl, rfl⟩))
        all_goals
          have hC5 : Chg [] w W4 := (hCd.trans' hC3 (U := []) (by simp) (by simp; omega)).trans hC4
          clear hC4 hC3 g0 g1 g2 g3 h3 hBd f0 f1 f2 f3 hCd
          go_wp2
          go_roundg (acts.length - (k + 1) + 1)
          case measure => rw [Hn.out]; omega
          case rel => exact ⟨k + 1, stepL l kd s sl d, by omega, rfl, by go_num, hl3, h4, hC5⟩
      · go_wp2_with fail
        refine (alive12 _).mono ?_
        rintro e w' ⟨rfl, hC2⟩
        have hC3 := hC.trans hC2
        clear hC hC2 hB
        go_wp2
        go_ret
        exact ⟨rfl, hC3⟩
end Go.Proofs.Ytdcjfaplgpeonaa
