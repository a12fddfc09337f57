/-
  The law ArenaPlays, walked.
-/
import Derived.Test.YtdcjfaplgpeonaaBd
namespace Go.Proofs.Ytdcjfaplgpeonaa
open Go.RowKit Go.Dm

structure Act09 where
  kd : Int
  sl : Int
  o : Nat → Int
/-- The acts that came in lie in memory. -/
def ActsAt9 (w : World) (A : Option Addr) (acts : List Act09) : Prop :=
  acts = [] ∨ ∃ b off, A = some ⟨b, off, none⟩ ∧ b < w.heap.size ∧ ∀ i p, acts[i]? = some p →
    w.cell? ⟨b, off + i * 9, none⟩ = some (.int .i64 p.kd) ∧ w.cell? ⟨b, off + i * 9 + 1, none⟩ = some (.int .i64 p.sl) ∧
    w.cell? ⟨b, off + i * 9 + 2, none⟩ = some (.int .i64 (p.o 0)) ∧ w.cell? ⟨b, off + i * 9 + 3, none⟩ = some (.int .i64 (p.o 1)) ∧ w.cell? ⟨b, off + i * 9 + 4, none⟩ = some (.int .i64 (p.o 2)) ∧
    w.cell? ⟨b, off + i * 9 + 5, none⟩ = some (.int .i64 (p.o 3)) ∧ w.cell? ⟨b, off + i * 9 + 6, none⟩ = some (.int .i64 (p.o 4)) ∧ w.cell? ⟨b, off + i * 9 + 7, none⟩ = some (.int .i64 (p.o 5)) ∧ w.cell? ⟨b, off + i * 9 + 8, none⟩ = some (.int .i64 (p.o 6))

theorem Duo.chg {w w' : World} {b r bo bt n : Nat} (h : Duo w b r bo bt n) (hC : Chg [] w w') : Duo w' b r bo bt n := by
  obtain ⟨c, o, T, D, m, hP, hA, hR⟩ := h
  exact ⟨c, o, T, D, m, hP, hA.chg hC (by simp), hR.chg hC⟩
theorem duo_new {w W1 W2 : World} {n r bo bt : Nat} (h0 : 1 ≤ n) (h1 : n ≤ 500) (hA : ArAt W1 w.heap.size (newC n)) (hC : Chg [] W1 W2) (hR : RfAt W2 r bo bt n (fun _ => 0) (fun _ => false) [] 0) : Duo W2 w.heap.size r bo bt n :=
  ⟨_, _, _, _, _, Pair.new h0 h1, hA.chg hC (by simp), hR⟩

def Plays9Rel (w : World) (acts : List Act09) (b r bo bt n : Nat) (q : Nat) (i : Value) (wr : World) : Prop :=
  ∃ k : Nat, k ≤ acts.length ∧ q = acts.length - k + 1 ∧ i = .int .i64 k ∧ Duo wr b r bo bt n ∧ Chg [] w wr

set_option maxRecDepth 100000 in
set_option maxHeartbeats 4000000 in
theorem plays9_any (w : World) (A : Option Addr) (cap : Nat) (slots : Int) (acts : List Act09) (h : ActsAt9 w A acts) :
    Calls Try.prog 6 #[.int .i64 slots, .slice A acts.length cap] w fun e w' => e = .returned (.bool true) ∧ Chg [] w w' := by
  by_cases hbig : (acts.length : Int) > 200
  · go_enter Try.func6, Try.ntmps6
    go_wp2_with fail
    refine (alive09 _).mono ?_
    rintro e w' ⟨rfl, hC⟩
    go_wp2
    go_ret
    exact ⟨rfl, hC⟩
  · by_cases hs : slots < 1 ∨ slots > 500
    · have n1 := new09_no w slots hs
      go_enter Try.func6, Try.ntmps6
      go_wp2_with fail
      refine n1.mono ?_
      rintro e W1 ⟨rfl, hC1⟩
      have n2 := rnew09_no W1 slots hs
      clear hs n1
      go_wp2_with fail
      refine n2.mono ?_
      rintro e W2 ⟨rfl, hC2⟩
      clear n2
      go_wp2_with fail
      refine (alive09 _).mono ?_
      rintro e w' ⟨rfl, hC⟩
      have hD := (hC1.trans hC2).trans hC
      clear hC hC1 hC2
      go_wp2
      go_ret
      exact ⟨rfl, hD⟩
    · obtain ⟨n, rfl⟩ := Int.eq_ofNat_of_zero_le (show 0 ≤ slots by omega)
      have n0 : 1 ≤ n := by omega
      have n5 : n ≤ 500 := by omega
      clear hs
      go_enter Try.func6, Try.ntmps6
      go_wp2_with fail
      refine (new09 _ n n0 n5).mono ?_
      rintro e W1 ⟨rfl, hA1, hC1⟩
      go_wp2_with fail
      refine (rnew09 _ n n0 n5).mono ?_
      rintro e W2 ⟨r, bo, bt, rfl, hR2, hC2, hr, hbo, hbt⟩
      have hD := duo_new n0 n5 hA1 hC2 hR2
      have hC := hC1.trans hC2
      have hsz := hC1.size
      clear hA1 hR2 hC1 hC2
      go_wp2_with fail
      go_loopg [9] (acts.length + 1) (fun q i wr => Plays9Rel w acts w.heap.size r bo bt n q i wr)
      case atStart => exact ⟨0, Nat.zero_le _, rfl, rfl, hD, hC⟩
      case round =>
        clear hD hC
        obtain ⟨k, hk, hq, rfl, hD, hC⟩ := hrel
        have Hq := Lib.hid hq
        clear hq
        by_cases hlt : k < acts.length
        · rcases h with h | ⟨b, off, rfl, hbl, hcells⟩
          · subst h; simp at hlt
          obtain ⟨p, hp⟩ : ∃ p, acts[k]? = some p := ⟨acts[k], by simp [hlt]⟩
          obtain ⟨c0, c1, c2, c3, c4, c5, c6, c7, c8⟩ := hcells k p hp
          obtain ⟨kd, sl, x⟩ := p
          have f0 := hC.cell c0 (by simp)
          have f1 := hC.cell c1 (by simp)
          have f2 := hC.cell c2 (by simp)
          have f3 := hC.cell c3 (by simp)
          have f4 := hC.cell c4 (by simp)
          have f5 := hC.cell c5 (by simp)
          have f6 := hC.cell c6 (by simp)
          have f7 := hC.cell c7 (by simp)
          have f8 := hC.cell c8 (by simp)
          have hbr : b < wr.heap.size := by have := hC.size; omega
          have k0 : (0 : Int) ≤ (k : Int) := Int.natCast_nonneg _
          have k1 : (k : Int) < (acts.length : Int) := by omega
          have ha := act09_any wr w.heap.size r bo bt n hD kd sl x
          unfold b9 at ha
          clear c0 c1 c2 c3 c4 c5 c6 c7 c8 hcells hp
          go_wp2_with fail
          refine ha.mono ?_
          rintro e W3 ⟨rfl, hD3, hC3⟩
          have hE3 : Chg [] w W3 := hC.trans' hC3 (by simp) (by simp; omega)
          clear f0 f1 f2 f3 f4 f5 f6 f7 f8 ha hbr hD hC hC3
          obtain ⟨c, o, T, D, m, hP, hA, hR⟩ := hD3
          have hu := used09 _ _ _ hA
          have hru := rused09 hR n5
          have hcnt := cntT_le T n
          rw [hP.used] at hu
          have hrm := fun (w' : World) (hC : Chg [] W3 w') => room09 w' _ c (hA.chg hC (by simp)) (by rw [hP.size, hP.used]; exact wrapOk (by omega) (by omega))
          rw [hP.size, hP.used] at hrm
          have hww : IntKind.i64.wrap ((n : Int) - (cntT T n : Int)) = (n : Int) - (cntT T n : Int) := wrapOk (by omega) (by omega)
          have HP := Lib.hid hP
          clear hP hcnt
          go_wp2_with fail
          refine hu.mono ?_
          rintro e W4 ⟨rfl, rfl⟩
          clear hu
          go_wp2_with fail
          refine hru.mono ?_
          rintro e W4 ⟨rfl, rfl⟩
          go_wp2_with fail
          refine (hrm _ (Chg.refl _ _)).mono ?_
          rintro e W4 ⟨rfl, hC4⟩
          clear hrm hru
          have hru := rused09 (hR.chg hC4) n5
          go_wp2_with fail
          refine hru.mono ?_
          rintro e W5 ⟨rfl, rfl⟩
          clear hru
          have hE4 := hE3.trans hC4
          go_wp2
          go_roundg (acts.length - (k + 1) + 1)
          case measure => rw [Hq.out]; omega
          case rel => exact ⟨k + 1, by omega, rfl, by go_num, ⟨_, _, _, _, _, HP.out, hA.chg hC4 (by simp), hR.chg hC4⟩, hE4⟩
        · go_wp2_with fail
          refine (alive09 _).mono ?_
          rintro e w' ⟨rfl, hC2⟩
          have hE := hC.trans hC2
          clear hC2 hC hD
          go_wp2
          go_ret
          exact ⟨rfl, hE⟩
end Go.Proofs.Ytdcjfaplgpeonaa
