/-
  The arena's iterator; the law ArenaNils, walked.
-/
import Derived.Test.YtdcjfaplgpeonaaBe
import Derived.RangeFuncNested
import Derived.RangeFuncBound
import Derived.RangeFuncCalls
import Derived.RangeFuncLeaves
import Derived.Shelf.Abstract
import Derived.Shelf.RegionOpen
import Derived.WalkKit
import Derived.OwnWalkIn
import Derived.TacticsInMore
import Derived.LoopNIn
import Derived.LoopIn
namespace Go.Proofs.Ytdcjfaplgpeonaa
open Go.RowKit Go.Dm Go.Shelf
attribute [local go_sem] Oper.semAt_some

theorem each09 (w : World) (p : Option Addr) :
    Calls Try.prog 31 #[.pointer p] w fun e w' => e = .returned (.func (.func 60) #[] #[.pointer (some ⟨w.heap.size, 0, none⟩)]) ∧ w' = w.alloc (.cells #[.pointer p] 44) := by
  go_enter Try.func31, Try.ntmps31
  go_wp2
  go_ret
  exact ⟨rfl, rfl⟩

/-- What a loop over a function keeps of the worlds: all that lay when it began, but for the blocks of S. -/
theorem ownFrom_chg {β : Type} (S : List Nat) (W0 : World) : OwnFrom W0.heap.size (fun (_ : β) W => Chg S W0 W) := fun s W W' row hs hg hr =>
  ⟨hg.os.trans hs.os, hg.tape.trans hs.tape, hg.output.trans hs.output, Nat.le_trans hs.size hg.size, fun k hk hn =>
    (hg.block k (Nat.lt_of_lt_of_le hk hs.size) (fun e => by have := (hr k e.symm).1; omega)).trans (hs.block k hk hn)⟩
theorem ownFrom_const {β : Type} {B : Nat} (p : β → Prop) : OwnFrom B (fun s (_ : World) => p s) := fun _ _ _ _ hs _ _ => hs

abbrev SlotO := Nat × (Nat → Int)
def encSlot (x : SlotO) : Array Value := #[.int .i64 x.1, oV x.2]

set_option maxRecDepth 100000 in
set_option maxHeartbeats 1000000 in
theorem iter_nil (n : Nat) (bx : Nat) (Kp : World → World → Prop) (w : World) (hbx : w.cell? ⟨bx, 0, none⟩ = some (.pointer none)) (hlt : bx < w.heap.size) :
    SeqStopsK Fence.wide n Try.prog 60 #[.pointer (some ⟨bx, 0, none⟩)] encSlot Kp (fun xs => xs = []) (fun _ => False) 0 w := fun l J Jx W hW hJ hJx hY h0 => by
  refine callsIn_of_wp Try.func60 rfl trivial ?_ rfl
  simp only [Try.ntmps60, List.size_toArray, List.length_cons, List.length_nil, Nat.reduceAdd, Nat.reduceSub, Array.replicate_succ, Array.replicate_zero, List.push_toArray, List.append_toArray, List.nil_append, List.cons_append]
  have hb := (hW.cell (p := ⟨bx, 0, none⟩) hlt).trans hbx
  gi_wp2
  refine bodyPost_ret (results_none rfl _ _ _) rfl ?_
  exact ⟨⟨_, rfl⟩, .inl ⟨[], rfl, h0⟩⟩

set_option maxRecDepth 100000 in
set_option maxHeartbeats 1000000 in
theorem take09_nil (w : World) (o : Nat → Int) :
    Calls Try.prog 24 #[.pointer none, oV o] w fun e w' => e = .returned (.tuple #[.int .i64 0, .int .i64 1]) ∧ Chg [] w w' := by
  unfold oV
  go_enter Try.func24, Try.ntmps24
  go_wp2
  go_ret2
  exact ⟨rfl, Chg.alloc _ _ _⟩
theorem used09_nil (w : World) : Calls Try.prog 28 #[.pointer none] w fun e w' => e = .returned (.int .i64 0) ∧ w = w' := by
  go_enter Try.func28, Try.ntmps28
  go_wp2
  go_ret
  exact ⟨rfl, rfl⟩
theorem room09_nil (w : World) : Calls Try.prog 30 #[.pointer none] w fun e w' => e = .returned (.int .i64 0) ∧ w = w' := by
  go_enter Try.func30, Try.ntmps30
  go_wp2
  go_ret
  exact ⟨rfl, rfl⟩
theorem drop09_nil (w : World) (i : Int) : Calls Try.prog 33 #[.pointer none, .int .i64 i] w fun e w' => e = .returned (.bool false) ∧ Chg [] w w' := by
  go_enter Try.func33, Try.ntmps33
  go_wp2_with fail
  refine (at09_nil w i).mono ?_
  rintro e W ⟨rfl, hC⟩
  go_wp2
  go_ret
  exact ⟨rfl, hC⟩
set_option maxRecDepth 100000 in
set_option maxHeartbeats 1000000 in
theorem set09_nil (w : World) (i : Int) (o : Nat → Int) : Calls Try.prog 34 #[.pointer none, .int .i64 i, oV o] w fun e w' => e = .returned (.bool false) ∧ Chg [] w w' := by
  have hA := Chg.alloc [] w (.cells (oCs o) 52)
  unfold oV oCs at *
  go_enter Try.func34, Try.ntmps34
  go_wp2_with fail
  refine (at09_nil _ i).mono ?_
  rintro e W ⟨rfl, hC⟩
  have hA1 := hA.trans hC
  go_wp2
  go_ret
  exact ⟨rfl, hA1⟩
set_option maxRecDepth 100000 in
set_option maxHeartbeats 1000000 in
theorem get09_nil (w : World) (i : Int) : Calls Try.prog 25 #[.pointer none, .int .i64 i] w fun e w' => e = .returned (.tuple #[oV (fun _ => 0), .bool false]) ∧ Chg [] w w' := by
  have hA := Chg.alloc [] w (.cells #[.int .i64 0, .int .i64 0, .int .i64 0, .int .i64 0, .int .i64 0, .int .i64 0, .int .i64 0] 52)
  have hI := ints_new w 52
  have hat := at09_nil (w.alloc (.cells #[.int .i64 0, .int .i64 0, .int .i64 0, .int .i64 0, .int .i64 0, .int .i64 0, .int .i64 0] 52)) i
  go_enter Try.func25, Try.ntmps25
  go_wp2_with fail
  refine hat.mono ?_
  rintro e W ⟨rfl, hC⟩
  have hA1 := hA.trans hC
  have hI1 := hI.chg hC (by simp)
  obtain ⟨x0, x1, x2, x3, x4, x5, x6⟩ := hI1.cells7
  obtain ⟨f0, f1, f2, f3, f4, f5, f6⟩ := hI1.free7
  have hb3 := hI1.lt
  clear hat hC hA hI
  go_wp2
  refine bodyPost_ret (results_ord rfl _ _ w.heap.size _ _ rfl rfl (((((((hI1.set _ _).set _ _).set _ _).set _ _).set _ _).set _ _).set _ _)) rfl ?_
  exact ⟨rfl, ((((((hA1.putNew (Nat.le_refl _)).putNew (Nat.le_refl _)).putNew (Nat.le_refl _)).putNew (Nat.le_refl _)).putNew (Nat.le_refl _)).putNew (Nat.le_refl _)).putNew (Nat.le_refl _)⟩

set_option maxRecDepth 100000 in
set_option maxHeartbeats 2000000 in
theorem nils_any (w : World) (n : Int) (o : Nat → Int) :
    Calls Try.prog 8 #[.int .i64 n, oV o] w fun e w' => e = .returned (.bool true) ∧ Below w.heap.size w w' := by
  refine callsIn_wide.1 (callsIn_of_wp_marks (n := 5) Try.func8 rfl trivial (wpIn_wide.2 ?_) rfl)
  simp only [Try.ntmps8, oV, List.size_toArray, List.length_cons, List.length_nil, Nat.reduceAdd, Nat.reduceSub, Array.replicate_succ, Array.replicate_zero, List.push_toArray, List.append_toArray, List.nil_append, List.cons_append]
  go_wp2_with fail
  refine (alive09 _).mono ?_
  rintro e W1 ⟨rfl, hC1⟩
  go_wp2_with fail
  refine (each09 _ none).mono ?_
  rintro e W2 ⟨rfl, rfl⟩
  go_wp2_with fail
  have hbx : (W1.alloc (.cells #[.pointer none] 44)).cell? ⟨W1.heap.size, 0, none⟩ = some (.pointer none) := blk1 (heap_alloc_new W1 _)
  have hC2 := hC1.trans (Chg.alloc [] W1 (.cells #[.pointer none] 44))
  have hD0 : Chg [] w (W1.alloc (.cells #[.pointer none] 44)) := ((Chg.alloc [] w _).trans (Chg.alloc _ _ _)).trans hC2
  have b0 : (W1.alloc (.cells #[.pointer none] 44)).heap[w.heap.size]? = some (.cells (oCs o) 52 (0, 0)) := ((Chg.alloc [] _ _).trans hC2).at_ (heap_alloc_new w _) (by simp)
  have b1 : (W1.alloc (.cells #[.pointer none] 44)).heap[w.heap.size + 1]? = some (.cells #[.bool false] 4 (0, 0)) := hC2.at_ (by
    have := heap_alloc_new (w.alloc (.cells (oCs o) 52)) (.cells #[.bool false] 4)
    unfold oCs at this
    simpa using this) (by simp)
  refine (wpIn_wide (n := 5)).1 ?_
  refine wpIn_rangeFunc_ownF rfl (by omega) (gf := 60) (lb := #[.pointer (some ⟨W1.heap.size, 0, none⟩)]) rfl trivial (enters_of Try.func60 (by kernel_rfl) rfl)
    (iter_nil 4 W1.heap.size (Below 0) _ hbx (by simp)) belowK_t (belowK_b (Nat.zero_le _)) (Below.refl _ _) (fun _ => rfl)
    (fun _ W => Chg [] (W1.alloc (.cells #[.pointer none] 44)) W) (fun _ _ _ => False) (ownFrom_chg _ _) (fun _ _ _ _ _ hs _ _ => hs) (Chg.refl _ _)
    ?a1 ?assign ?body ?done ?stop
  case assign =>
    intro l x W K hK
    unfold encSlot
    gi_wp2
    exact hK
  case body =>
    intro l pre x W _ hlt
    exact absurd hlt (Nat.not_lt_zero _)
  case done =>
    rintro D xs W hD rfl hC3 hK
    have b0' := hC3.at_ b0 (by simp)
    have b1' := hC3.at_ b1 (by simp)
    have hD3 := hD0.trans hC3
    have hlt : w.heap.size + 1 < (W1.alloc (.cells #[.pointer none] 44)).heap.size := blk_lt b1
    have hDn : w.heap.size ≤ D := by omega
    obtain ⟨x0, x1, x2, x3, x4, x5, x6⟩ := blk7 (o := o) b0'
    have ht := take09_nil W o
    unfold oV at ht
    clear b0 b1 hC3 hD0 hC2 hC1 hbx hD hlt
    go_wp2_with fail
    refine ht.mono ?_
    rintro e W2 ⟨rfl, hC⟩
    have b02 := hC.at_ b0' (by simp)
    have b12 := hC.at_ b1' (by simp)
    have hK2 := hC.at_ hK (by simp)
    have hD4 := hD3.trans hC
    clear x0 x1 x2 x3 x4 x5 x6 ht b0' b1' hK hC hD3
    have hg := get09_nil W2 n
    unfold oV at hg
    go_wp2_with fail
    refine hg.mono ?_
    rintro e W3 ⟨rfl, hC⟩
    have hCA := hC.trans (Chg.alloc [] W3 (.cells (oCs (fun _ => 0)) 52))
    have b03 := hC.at_ b02 (by simp)
    have b13 := hC.at_ b12 (by simp)
    have hK3 := hCA.at_ hK2 (by simp)
    have hD5 := hD4.trans hCA
    have b23 : (W3.alloc (.cells (oCs (fun _ => 0)) 52)).heap[W3.heap.size]? = some (.cells (oCs (fun _ => 0)) 52 (0, 0)) := heap_alloc_new W3 _
    have b04 := hCA.at_ b02 (by simp)
    have b14 := hCA.at_ b12 (by simp)
    have l0 : w.heap.size < W3.heap.size := blk_lt b03
    obtain ⟨x0, x1, x2, x3, x4, x5, x6⟩ := blk7 (o := fun _ => 0) b23
    clear hg hC hCA b02 b12 hK2 hD4 b03 b13
    have hd := drop09_nil (W3.alloc (.cells (oCs (fun _ => 0)) 52)) n
    unfold oCs at hd b23 b04 b14 hK3 hD5
    go_wp2_with fail
    refine hd.mono ?_
    rintro e W4 ⟨rfl, hC⟩
    have b05 := hC.at_ b04 (by simp)
    have b15 := hC.at_ b14 (by simp)
    have hK4 := hC.at_ hK3 (by simp)
    have hD6 := hD5.trans hC
    clear x0 x1 x2 x3 x4 x5 x6 hd b04 b14 b23 hK3 hD5 hC l0
    obtain ⟨x0, x1, x2, x3, x4, x5, x6⟩ := blk7 (o := o) (b := w.heap.size) (w := W4) (t := 52) (fr := (0, 0)) b05
    have hs := set09_nil W4 n o
    unfold oV at hs
    go_wp2_with fail
    refine hs.mono ?_
    rintro e W5 ⟨rfl, hC⟩
    have b16 := hC.at_ b15 (by simp)
    have hK5 := hC.at_ hK4 (by simp)
    have hD7 := hD6.trans hC
    clear x0 x1 x2 x3 x4 x5 x6 hs b05 b15 hK4 hD6 hC
    have hu := used09_nil W5
    have hr := room09_nil W5
    go_wp2_with fail
    refine hu.mono ?_
    rintro e W6 ⟨rfl, rfl⟩
    go_wp2_with fail
    refine hr.mono ?_
    rintro e W6 ⟨rfl, rfl⟩
    have c1 := blk1 b16
    have f1 := blkfree b16 0
    clear hu hr
    go_wp2
    have hne : D ≠ w.heap.size + 1 := by intro e; subst e; rw [b16] at hK5; cases hK5
    have hK' : (W5.setCell ⟨w.heap.size + 1, 0, none⟩ (.bool true)).heap[D]? = some (.deferred (some [])) := (Chg.refl [w.heap.size + 1] W5).put.at_ hK5 (by simpa using hne)
    have hB : Below w.heap.size w (W5.setCell ⟨w.heap.size + 1, 0, none⟩ (.bool true)) := (hD7.putIn (.inr (by omega))).below (Nat.le_refl _) (by simp)
    refine ⟨by simp, .inl ⟨_, _, rfl, run_takeDeferred hK', ?_⟩⟩
    have hc5 := cell_kept (World.cell?_setCell_same' W5 ⟨w.heap.size + 1, 0, none⟩ (.bool true) (by rw [c1]; rfl)) (grownBy_putObj' _ D (.deferred none)) (fun r e => by cases e; exact ⟨_, hK', rfl⟩)
    refine ⟨.bool true, ?_, rfl, hB.trans (belowK_b (w := w) (Nat.le_refl _) _ D _ _ hDn hK' rfl rfl)⟩
    simp [results, Try.f8, go_sem, hc5]
  case stop =>
    rintro D c pre W _ h
    exact h.elim
end Go.Proofs.Ytdcjfaplgpeonaa
