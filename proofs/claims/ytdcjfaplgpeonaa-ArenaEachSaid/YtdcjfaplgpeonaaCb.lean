/-
  The arena's iterator, at an arena that is none of nil.
-/
import Derived.Test.YtdcjfaplgpeonaaCa
import Derived.Sort.LoopGhostIn
import Derived.Sort.QuietIn
namespace Go.Proofs.Ytdcjfaplgpeonaa
open Go.RowKit Go.Dm Go.Shelf
attribute [local go_sem] Oper.semAt_some

/-- What a round must keep: the block b. -/
def KeepB (b : Nat) (W W' : World) : Prop := ∀ o, W.heap[b]? = some o → W'.heap[b]? = some o
theorem KeepB.t {b : Nat} {A B C : World} (h : KeepB b A B) (k : KeepB b B C) : KeepB b A C := fun _ ho => k _ (h _ ho)
theorem KeepB.put {b : Nat} {w : World} (hb : b < w.heap.size) (W : World) (l : Nat) (o o' : Obj) (hl : w.heap.size ≤ l) (_h : W.heap[l]? = some o) (_h2 : o.isCells = false) (_h3 : o.isWalk = false) : KeepB b W (W.putObj l o') := fun x hx => by
  rw [World.putObj_heap_other (by omega)]; exact hx
theorem KeepB.chg {b : Nat} {S : List Nat} {W W' : World} (hC : Chg S W W') (hb : b ∉ S) : KeepB b W W' := fun _ ho => hC.at_ ho hb
theorem grown_of_chg {W W' : World} (hC : Chg [] W W') : W.grownBy W' none := ⟨hC.os, hC.tape, hC.output, hC.size, fun k hk _ => hC.block k hk (by simp)⟩
theorem _root_.Go.Dm.IntsAt.keep {w w' : World} {b t N : Nat} {c : Nat → Int} (h : IntsAt w b t N c) (hK : KeepB b w w') : IntsAt w' b t N c := by
  obtain ⟨cs, hb, r⟩ := h; exact ⟨cs, hK _ hb, r⟩

/-- A slot that is taken. -/
abbrev Tk (n : Nat) (T : Nat → Bool) := { i : Nat // i < n ∧ T i = true }
def encTk {n : Nat} {T : Nat → Bool} (c : Nat → Int) (x : Tk n T) : Array Value := #[.int .i64 x.1, oV (ordAt c (x.1 * 8))]
/-- The taken slots below k, rising. -/
def UptoK {n : Nat} {T : Nat → Bool} (k : Nat) (xs : List (Tk n T)) : Prop := xs.map (·.1) = (List.range k).filter T
theorem upto_len {n : Nat} {T : Nat → Bool} {k : Nat} {xs : List (Tk n T)} (h : UptoK k xs) : xs.length = cntT T k := by
  have := congrArg List.length h
  simpa [cntT] using this
theorem upto_in {n : Nat} {T : Nat → Bool} {k : Nat} {xs : List (Tk n T)} (h : UptoK k xs) (hk : k < n) (hT : T k = true) : UptoK (k + 1) (xs ++ [⟨k, hk, hT⟩]) := by
  unfold UptoK at *
  rw [List.map_append, h, List.range_succ, List.filter_append]
  simp [hT]
theorem upto_out {n : Nat} {T : Nat → Bool} {k : Nat} {xs : List (Tk n T)} (h : UptoK k xs) (hT : T k = false) : UptoK (k + 1) xs := by
  unfold UptoK at *
  rw [h, List.range_succ, List.filter_append]
  simp [hT]

def IterRel {n : Nat} {T : Nat → Bool} (c : Nat → Int) (b : Nat) (J : List (Tk n T) → World → Prop) (q : Nat) (i : Value) (wr : World) : Prop :=
  ∃ (k : Nat) (pre : List (Tk n T)), k ≤ n ∧ q = n - k + 1 ∧ i = .int .i64 k ∧ UptoK k pre ∧ ArAt wr b c ∧ J pre wr

set_option maxRecDepth 100000 in
set_option maxHeartbeats 2000000 in
theorem iter09 (m : Nat) (hm : 1 ≤ m) {n : Nat} {T : Nat → Bool} (c : Nat → Int) (b bx : Nat) (hn : n ≤ 500) (hsz : c 4000 = n) (hyes : ∀ i, i < n → T i = true → c (i * 8 + 7) = -2) (hno : ∀ i, i < n → T i = false → takenI c (i : Int) = false)
    (w : World) (hbx : w.cell? ⟨bx, 0, none⟩ = some (.pointer (some ⟨b, 0, none⟩))) (hlt : bx < w.heap.size) (hA : ArAt w b c) :
    SeqStopsK Fence.wide m Try.prog 60 #[.pointer (some ⟨bx, 0, none⟩)] (encTk (n := n) (T := T) c) (KeepB b) (UptoK n) (fun pre => ∃ k, k ≤ n ∧ UptoK k pre) n w := fun l J Jx W hW hJ hJx hY h0 => by
  refine callsIn_of_wp Try.func60 rfl trivial ?_ rfl
  simp only [Try.ntmps60, List.size_toArray, List.length_cons, List.length_nil, Nat.reduceAdd, Nat.reduceSub, Array.replicate_succ, Array.replicate_zero, List.push_toArray, List.append_toArray, List.nil_append, List.cons_append]
  have hb := (hW.cell (p := ⟨bx, 0, none⟩) hlt).trans hbx
  have hA1 : ArAt W b c := by
    obtain ⟨cs, hc, r⟩ := hA; exact ⟨cs, (hW.block b (blk_lt hc)).trans hc, r⟩
  have h40 := hA1.cell (j := 4000) (by omega)
  rw [hsz] at h40
  gi_wp2
  gi_loopg [14] (n + 1) (fun q i wr => IterRel c b J q i wr)
  case atStart => exact ⟨0, [], Nat.zero_le _, rfl, rfl, rfl, hA1, h0⟩
  case round =>
    clear h0 hb hA1 h40
    obtain ⟨k, pre, hk, hq, rfl, hU, hA2, hJ2⟩ := hrel
    have Hq := Lib.hid hq
    clear hq
    have hlen : pre.length ≤ k := by rw [upto_len hU]; exact cntT_le T k
    by_cases hkn : k < n
    · have k0 : (0 : Int) ≤ (k : Int) := Int.natCast_nonneg _
      have k1 : (k : Int) < (n : Int) := by omega
      cases hT : T k with
      | true =>
        have hat := at09_yes wr b c hA2 k (by omega) (by omega) (hyes k hkn hT)
        gi_wp2_with fail
        refine ⟨trivial, ?_⟩
        refine (callsIn_wide.2 hat).mono ?_
        rintro e W2 ⟨rfl, hC⟩
        have hA3 := hA2.chg hC (by simp)
        have hJ3 : J pre W2 := hJ _ _ _ none hJ2 (grown_of_chg hC) (fun r e => by cases e)
        obtain ⟨fn, tmps, assign, body, hy, hR⟩ := hY pre ⟨k, hkn, hT⟩ W2 hJ3 (by omega)
        simp only [encTk, oV, ordAt, Nat.add_zero] at hy
        obtain ⟨h80, h81, h82, h83, h84, h85, h86, h87⟩ := slot_cells hA3 (i := k) (by omega)
        have hb2 := hA3.lt
        clear hat hA2 hJ2 hC
        gi_wp2
        refine hR.mono ?_
        rintro e W3 (⟨rfl, hJ4, hk4⟩ | ⟨rfl, hJx4⟩)
        · have hA4 := hA3.keep hk4
          have hU2 := upto_in hU hkn hT
          clear h80 h81 h82 h83 h84 h85 h86 h87 hA3 hJ3 hR hy
          gi_wp2
          gi_roundg (n - (k + 1) + 1)
          case measure => rw [Hq.out]; omega
          case rel => exact ⟨k + 1, _, by omega, rfl, by go_num, hU2, hA4, hJ4⟩
        · clear h80 h81 h82 h83 h84 h85 h86 h87 hA3 hJ3 hR hy
          gi_wp2
          refine bodyPost_ret (results_none rfl _ _ _) rfl ?_
          exact ⟨⟨_, rfl⟩, .inr ⟨_, ⟨k + 1, by omega, upto_in hU hkn hT⟩, hJx4⟩⟩
      | false =>
        have hat := at09_no wr b c hA2 k (by omega) (hno k hkn hT)
        gi_wp2_with fail
        refine ⟨trivial, ?_⟩
        refine (callsIn_wide.2 hat).mono ?_
        rintro e W2 ⟨rfl, hC⟩
        have hA3 := hA2.chg hC (by simp)
        have hJ3 : J pre W2 := hJ _ _ _ none hJ2 (grown_of_chg hC) (fun r e => by cases e)
        have hU2 := upto_out hU hT
        clear hat hA2 hJ2 hC
        gi_wp2
        refine ⟨fun _ h => (by cases h), ?_⟩
        gi_wp2
        gi_roundg (n - (k + 1) + 1)
        case measure => rw [Hq.out]; omega
        case rel => exact ⟨k + 1, _, by omega, rfl, by go_num, hU2, hA3, hJ3⟩
    · have hkn2 : k = n := by omega
      subst hkn2
      gi_wp2
      go_end0
      exact ⟨⟨_, rfl⟩, .inl ⟨_, hU, hJ2⟩⟩
end Go.Proofs.Ytdcjfaplgpeonaa
