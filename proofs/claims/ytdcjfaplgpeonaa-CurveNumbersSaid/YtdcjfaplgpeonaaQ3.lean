/-
  Blocks of ints; the arena's block and what its small functions do.
-/
import Derived.Deep.DeepMust
import Derived.Deep.OwnRows
import Derived.Shelf.SlGeneric
import Derived.Shelf.SortM.Plain
import Derived.Ground.SlgmProg
import Derived.Shelf.SortM.SortNone
import Derived.Sort.OwnSortedInts
import Derived.Test.YtdcjfaplgpeonaaQ2
import Derived.Test.YtdcjfaplgpeonaaRows
namespace Go.Dm
open Go.RowKit

def upd (c : Nat → Int) (i : Nat) (x : Int) : Nat → Int := fun k => if k = i then x else c k
@[simp] theorem upd_same (c : Nat → Int) (i : Nat) (x : Int) : upd c i x i = x := by simp [upd]
theorem upd_ne {c : Nat → Int} {i k : Nat} {x : Int} (h : k ≠ i) : upd c i x k = c k := by simp [upd, h]

/-- Block b holds N ints. -/
def IntsAt (w : World) (b t N : Nat) (c : Nat → Int) : Prop :=
  ∃ cs, w.heap[b]? = some (.cells cs t (0, 0)) ∧ cs.size = N ∧ ∀ j, j < N → cs[j]? = some (.int .i64 (c j))
theorem IntsAt.cell {w : World} {b t N : Nat} {c : Nat → Int} (h : IntsAt w b t N c) {j : Nat} (hj : j < N) : w.cell? ⟨b, j, none⟩ = some (.int .i64 (c j)) := by
  obtain ⟨cs, hb, hs, hc⟩ := h
  simp [World.cell?, hb, hc j hj]
theorem IntsAt.free {w : World} {b t N : Nat} {c : Nat → Int} (h : IntsAt w b t N c) (j : Nat) : w.frozen? ⟨b, j, none⟩ = false := by
  obtain ⟨cs, hb, hs, hc⟩ := h
  simp [World.frozen?, hb]
theorem IntsAt.lt {w : World} {b t N : Nat} {c : Nat → Int} (h : IntsAt w b t N c) : b < w.heap.size := by
  obtain ⟨cs, hb, hs, hc⟩ := h
  exact blk_lt hb
theorem IntsAt.chg {w w' : World} {b t N : Nat} {c : Nat → Int} {S : List Nat} (h : IntsAt w b t N c) (hC : Chg S w w') (hn : b ∉ S) : IntsAt w' b t N c := by
  obtain ⟨cs, hb, hs, hc⟩ := h
  exact ⟨cs, hC.at_ hb hn, hs, hc⟩
theorem IntsAt.set {w : World} {b t N : Nat} {c : Nat → Int} (h : IntsAt w b t N c) (j : Nat) (x : Int) : IntsAt (w.setCell ⟨b, j, none⟩ (.int .i64 x)) b t N (upd c j x) := by
  obtain ⟨cs, hb, hs, hc⟩ := h
  refine ⟨_, blk_set hb j _, by simpa using hs, fun k hk => ?_⟩
  by_cases e : k = j
  · subst e; simp [upd, hs, hk]
  · rw [Array.getElem?_setIfInBounds_ne (fun h => e h.symm), upd_ne e]; exact hc k hk
theorem IntsAt.ext {w : World} {b t N : Nat} {c c' : Nat → Int} (h : IntsAt w b t N c) (he : ∀ j, j < N → c j = c' j) : IntsAt w b t N c' := by
  obtain ⟨cs, hb, hs, hc⟩ := h
  exact ⟨cs, hb, hs, fun j hj => by rw [← he j hj]; exact hc j hj⟩
theorem IntsAt.ne {w : World} {b t N : Nat} {c : Nat → Int} (h : IntsAt w b t N c) {g t' : Nat} {cs : Array Value} {fr : Nat × Nat} (hb : w.heap[g]? = some (.cells cs t' fr)) (ht : t ≠ t') : g ≠ b := by
  rintro rfl
  obtain ⟨_, h, _⟩ := h
  rw [h] at hb; cases hb; exact ht rfl
end Go.Dm

namespace Go.Proofs.Ytdcjfaplgpeonaa
open Go.RowKit Go.Dm

abbrev ArAt (w : World) (b : Nat) (c : Nat → Int) : Prop := IntsAt w b 115 4003 c

theorem slot_cells {w : World} {b : Nat} {c : Nat → Int} (h : ArAt w b c) {i : Nat} (hi : i < 500) :
    w.cell? ⟨b, i * 8, none⟩ = some (.int .i64 (c (i * 8))) ∧ w.cell? ⟨b, i * 8 + 1, none⟩ = some (.int .i64 (c (i * 8 + 1))) ∧ w.cell? ⟨b, i * 8 + 2, none⟩ = some (.int .i64 (c (i * 8 + 2))) ∧ w.cell? ⟨b, i * 8 + 3, none⟩ = some (.int .i64 (c (i * 8 + 3))) ∧
    w.cell? ⟨b, i * 8 + 4, none⟩ = some (.int .i64 (c (i * 8 + 4))) ∧ w.cell? ⟨b, i * 8 + 5, none⟩ = some (.int .i64 (c (i * 8 + 5))) ∧ w.cell? ⟨b, i * 8 + 6, none⟩ = some (.int .i64 (c (i * 8 + 6))) ∧ w.cell? ⟨b, i * 8 + 7, none⟩ = some (.int .i64 (c (i * 8 + 7))) :=
  ⟨h.cell (by omega), h.cell (by omega), h.cell (by omega), h.cell (by omega), h.cell (by omega), h.cell (by omega), h.cell (by omega), h.cell (by omega)⟩
theorem slot_free {w : World} {b : Nat} {c : Nat → Int} (h : ArAt w b c) (i : Nat) :
    w.frozen? ⟨b, i * 8, none⟩ = false ∧ w.frozen? ⟨b, i * 8 + 1, none⟩ = false ∧ w.frozen? ⟨b, i * 8 + 2, none⟩ = false ∧ w.frozen? ⟨b, i * 8 + 3, none⟩ = false ∧
    w.frozen? ⟨b, i * 8 + 4, none⟩ = false ∧ w.frozen? ⟨b, i * 8 + 5, none⟩ = false ∧ w.frozen? ⟨b, i * 8 + 6, none⟩ = false ∧ w.frozen? ⟨b, i * 8 + 7, none⟩ = false :=
  ⟨h.free _, h.free _, h.free _, h.free _, h.free _, h.free _, h.free _, h.free _⟩
theorem _root_.Go.Dm.Chg.put {b j : Nat} {w W : World} {u : Value} (h : Chg [b] w W) : Chg [b] w (W.setCell ⟨b, j, none⟩ u) := h.trans (Chg.setCell W _ u (by simp))

set_option maxHeartbeats 1000000 in
theorem used09 (w : World) (b : Nat) (c : Nat → Int) (h : ArAt w b c) :
    Calls Try.prog 28 #[.pointer (some ⟨b, 0, none⟩)] w fun e w' => e = .returned (.int .i64 (c 4002)) ∧ w = w' := by
  have h2 := h.cell (j := 4002) (by omega)
  go_enter Try.func28, Try.ntmps28
  go_wp2
  go_ret
  exact ⟨rfl, rfl⟩
set_option maxHeartbeats 1000000 in
theorem room09 (w : World) (b : Nat) (c : Nat → Int) (h : ArAt w b c) (hr : IntKind.i64.wrap (c 4000 - c 4002) = c 4000 - c 4002) :
    Calls Try.prog 30 #[.pointer (some ⟨b, 0, none⟩)] w fun e w' => e = .returned (.int .i64 (c 4000 - c 4002)) ∧ Chg [] w w' := by
  have h2 := h.cell (j := 4002) (by omega)
  have h0 := h.cell (j := 4000) (by omega)
  go_enter Try.func30, Try.ntmps30
  go_wp2
  go_quiet (fail)
  go_wp2
  go_ret
  exact ⟨rfl, Chg.drewN _ _ _⟩

/-- Is slot i taken? -/
def takenI (c : Nat → Int) (i : Int) : Bool := decide (0 ≤ i) && decide (i < c 4000) && decide (c (8 * i.toNat + 7) = -2)

set_option maxHeartbeats 1000000 in
theorem at09_yes (w : World) (b : Nat) (c : Nat → Int) (h : ArAt w b c) (i : Nat) (hi : (i : Int) < c 4000) (hn : c 4000 ≤ 500) (ht : c (i * 8 + 7) = -2) :
    Calls Try.prog 55 #[.pointer (some ⟨b, 0, none⟩), .int .i64 i] w fun e w' => e = .returned (.pointer (some ⟨b, i * 8, none⟩)) ∧ Chg [] w w' := by
  have h0 := h.cell (j := 4000) (by omega)
  have h7 := h.cell (j := i * 8 + 7) (by omega)
  rw [ht] at h7
  clear ht
  have i0 : (0 : Int) ≤ (i : Int) := Int.natCast_nonneg _
  have i1 : (i : Int) < 500 := by omega
  have d1 : decide ((i : Int) < 0) = false := by simp
  have d2 : decide ((i : Int) ≥ c 4000) = false := by simp; omega
  go_enter Try.func55, Try.ntmps55
  go_wp2
  go_ret
  exact ⟨rfl, Chg.refl _ _⟩
theorem at09_no (w : World) (b : Nat) (c : Nat → Int) (h : ArAt w b c) (i : Int) (hn : c 4000 ≤ 500) (ht : takenI c i = false) :
    Calls Try.prog 55 #[.pointer (some ⟨b, 0, none⟩), .int .i64 i] w fun e w' => e = .returned (.pointer none) ∧ Chg [] w w' := by
  have h0 := h.cell (j := 4000) (by omega)
  by_cases i0 : i < 0
  · clear ht
    go_enter Try.func55, Try.ntmps55
    go_wp2
    go_ret
    exact ⟨rfl, Chg.refl _ _⟩
  · by_cases i1 : i ≥ c 4000
    · clear ht
      have d1 : decide (i < 0) = false := by simpa using i0
      have d2 : decide (i ≥ c 4000) = true := by simpa using i1
      clear i0 i1
      go_enter Try.func55, Try.ntmps55
      go_wp2
      go_ret
      exact ⟨rfl, Chg.refl _ _⟩
    · obtain ⟨k, rfl⟩ := Int.eq_ofNat_of_zero_le (show 0 ≤ i by omega)
      have h7 := h.cell (j := k * 8 + 7) (by omega)
      have d1 : decide ((k : Int) < 0) = false := by simp
      have d2 : decide ((k : Int) ≥ c 4000) = false := by simpa using i1
      have j0 : (0 : Int) ≤ (k : Int) := Int.natCast_nonneg _
      have j1 : (k : Int) < 500 := by omega
      have ht2 : (c (k * 8 + 7) != -2) = true := by
        simp only [takenI, Int.toNat_natCast] at ht
        rw [Nat.mul_comm k 8]
        have a1 : decide (0 ≤ (k : Int)) = true := by simp
        have a2 : decide ((k : Int) < c 4000) = true := by simpa using i1
        rw [a1, a2] at ht
        simpa using ht
      clear ht i0 i1
      go_enter Try.func55, Try.ntmps55
      go_wp2
      go_ret
      exact ⟨rfl, Chg.refl _ _⟩
theorem at09_nil (w : World) (i : Int) :
    Calls Try.prog 55 #[.pointer none, .int .i64 i] w fun e w' => e = .returned (.pointer none) ∧ Chg [] w w' := by
  go_enter Try.func55, Try.ntmps55
  go_wp2
  go_ret
  exact ⟨rfl, Chg.refl _ _⟩

def ordV (c : Nat → Int) (k : Nat) : Value := .agg #[.int .i64 (c k), .int .i64 (c (k + 1)), .int .i64 (c (k + 2)), .int .i64 (c (k + 3)), .int .i64 (c (k + 4)), .int .i64 (c (k + 5)), .int .i64 (c (k + 6))]
/-- An order written in at k. -/
def updO (c : Nat → Int) (k : Nat) (o : Nat → Int) : Nat → Int := upd (upd (upd (upd (upd (upd (upd c k (o 0)) (k + 1) (o 1)) (k + 2) (o 2)) (k + 3) (o 3)) (k + 4) (o 4)) (k + 5) (o 5)) (k + 6) (o 6)

set_option maxHeartbeats 1000000 in
theorem drop09_yes (w : World) (b : Nat) (c : Nat → Int) (h : ArAt w b c) (i : Nat) (hi : (i : Int) < c 4000) (hn : c 4000 ≤ 500) (ht : c (i * 8 + 7) = -2) (hw : IntKind.i64.wrap (c 4002 - 1) = c 4002 - 1) :
    Calls Try.prog 33 #[.pointer (some ⟨b, 0, none⟩), .int .i64 i] w fun e w' => e = .returned (.bool true) ∧ ArAt w' b (upd (upd (upd (updO c (i * 8) (fun _ => 0)) (i * 8 + 7) (c 4001)) 4001 i) 4002 (c 4002 - 1)) ∧ Chg [b] w w' := by
  go_enter Try.func33, Try.ntmps33
  go_wp2_with fail
  refine (at09_yes w b c h i hi hn ht).mono ?_
  rintro e W ⟨rfl, hC⟩
  have h1 := h.chg hC (by simp)
  have h41 := h1.cell (j := 4001) (by omega)
  have h42 := h1.cell (j := 4002) (by omega)
  obtain ⟨h80, h81, h82, h83, h84, h85, h86, h87⟩ := slot_cells h1 (i := i) (by omega)
  obtain ⟨f80, f81, f82, f83, f84, f85, f86, f87⟩ := slot_free h1 i
  have f41 := h1.free 4001
  have f42 := h1.free 4002
  have i1 : i < 500 := by omega
  have hb := h1.lt
  clear hi hn ht
  go_wp2
  go_ret
  exact ⟨rfl, (((((((((h1.set _ _).set _ _).set _ _).set _ _).set _ _).set _ _).set _ _).set _ _).set _ _).set _ _,
    hC.nil.put.put.put.put.put.put.put.put.put.put⟩

set_option maxRecDepth 100000 in
set_option maxHeartbeats 1000000 in
theorem drop09_no (w : World) (b : Nat) (c : Nat → Int) (h : ArAt w b c) (i : Int) (hn : c 4000 ≤ 500) (ht : takenI c i = false) :
    Calls Try.prog 33 #[.pointer (some ⟨b, 0, none⟩), .int .i64 i] w fun e w' => e = .returned (.bool false) ∧ Chg [] w w' := by
  go_enter Try.func33, Try.ntmps33
  go_wp2_with fail
  refine (at09_no w b c h i hn ht).mono ?_
  rintro e W ⟨rfl, hC⟩
  clear ht
  go_wp2
  go_ret
  exact ⟨rfl, hC⟩

def oV (o : Nat → Int) : Value := .agg #[.int .i64 (o 0), .int .i64 (o 1), .int .i64 (o 2), .int .i64 (o 3), .int .i64 (o 4), .int .i64 (o 5), .int .i64 (o 6)]
def oCs (o : Nat → Int) : Array Value := #[.int .i64 (o 0), .int .i64 (o 1), .int .i64 (o 2), .int .i64 (o 3), .int .i64 (o 4), .int .i64 (o 5), .int .i64 (o 6)]
theorem blk7 {w : World} {b : Nat} {o : Nat → Int} {t : TypeId} {fr : Nat × Nat} (h : w.heap[b]? = some (.cells (oCs o) t fr)) :
    w.cell? ⟨b, 0, none⟩ = some (.int .i64 (o 0)) ∧ w.cell? ⟨b, 1, none⟩ = some (.int .i64 (o 1)) ∧ w.cell? ⟨b, 2, none⟩ = some (.int .i64 (o 2)) ∧ w.cell? ⟨b, 3, none⟩ = some (.int .i64 (o 3)) ∧
    w.cell? ⟨b, 4, none⟩ = some (.int .i64 (o 4)) ∧ w.cell? ⟨b, 5, none⟩ = some (.int .i64 (o 5)) ∧ w.cell? ⟨b, 6, none⟩ = some (.int .i64 (o 6)) := by
  simp [World.cell?, h, oCs]

set_option maxRecDepth 100000 in
set_option maxHeartbeats 1000000 in
theorem set09_yes (w : World) (b : Nat) (c : Nat → Int) (h : ArAt w b c) (i : Nat) (hi : (i : Int) < c 4000) (hn : c 4000 ≤ 500) (ht : c (i * 8 + 7) = -2) (o : Nat → Int) :
    Calls Try.prog 34 #[.pointer (some ⟨b, 0, none⟩), .int .i64 i, oV o] w fun e w' => e = .returned (.bool true) ∧ ArAt w' b (updO c (i * 8) o) ∧ Chg [b] w w' := by
  have hb := h.lt
  have hA := Chg.alloc [] w (.cells (oCs o) 52)
  have bx : (w.alloc (.cells (oCs o) 52)).heap[w.heap.size]? = some (.cells (oCs o) 52 (0, 0)) := heap_alloc_new w _
  have hat := at09_yes _ b c (h.chg hA (by simp)) i hi hn ht
  unfold oV oCs at *
  go_enter Try.func34, Try.ntmps34
  go_wp2_with fail
  refine hat.mono ?_
  rintro e W ⟨rfl, hC⟩
  have hA1 := hA.trans hC
  have h1 := h.chg hA1 (by simp)
  obtain ⟨x0, x1, x2, x3, x4, x5, x6⟩ := blk7 (o := o) (hC.at_ bx (by simp))
  obtain ⟨h80, h81, h82, h83, h84, h85, h86, h87⟩ := slot_cells h1 (i := i) (by omega)
  obtain ⟨f80, f81, f82, f83, f84, f85, f86, f87⟩ := slot_free h1 i
  clear hat bx hC hA hi hn ht
  go_wp2
  go_ret
  exact ⟨rfl, ((((((h1.set _ _).set _ _).set _ _).set _ _).set _ _).set _ _).set _ _,
    hA1.nil.put.put.put.put.put.put.put⟩

set_option maxRecDepth 100000 in
set_option maxHeartbeats 1000000 in
theorem set09_no (w : World) (b : Nat) (c : Nat → Int) (h : ArAt w b c) (i : Int) (hn : c 4000 ≤ 500) (ht : takenI c i = false) (o : Nat → Int) :
    Calls Try.prog 34 #[.pointer (some ⟨b, 0, none⟩), .int .i64 i, oV o] w fun e w' => e = .returned (.bool false) ∧ Chg [] w w' := by
  have hA := Chg.alloc [] w (.cells (oCs o) 52)
  have hat := at09_no _ b c (h.chg hA (by simp)) i hn ht
  unfold oV oCs at *
  go_enter Try.func34, Try.ntmps34
  go_wp2_with fail
  refine hat.mono ?_
  rintro e W ⟨rfl, hC⟩
  clear ht hat
  have hA1 := hA.trans hC
  go_wp2
  go_ret
  exact ⟨rfl, hA1⟩

set_option maxRecDepth 100000 in
set_option maxHeartbeats 1000000 in
theorem take09_full (w : World) (b : Nat) (c : Nat → Int) (h : ArAt w b c) (hf : c 4001 = -1) (o : Nat → Int) :
    Calls Try.prog 24 #[.pointer (some ⟨b, 0, none⟩), oV o] w fun e w' => e = .returned (.tuple #[.int .i64 0, .int .i64 7]) ∧ Chg [] w w' := by
  have hb := h.lt
  have h41 := h.cell (j := 4001) (by omega)
  rw [hf] at h41
  clear hf
  unfold oV
  go_enter Try.func24, Try.ntmps24
  go_wp2
  go_ret2
  exact ⟨rfl, Chg.alloc _ _ _⟩
set_option maxRecDepth 100000 in
set_option maxHeartbeats 1000000 in
theorem take09_yes (w : World) (b : Nat) (c : Nat → Int) (h : ArAt w b c) (k : Nat) (hf : c 4001 = k) (hk : k < 500) (o : Nat → Int) (hw : IntKind.i64.wrap (c 4002 + 1) = c 4002 + 1) :
    Calls Try.prog 24 #[.pointer (some ⟨b, 0, none⟩), oV o] w fun e w' => e = .returned (.tuple #[.int .i64 k, .int .i64 0]) ∧
      ArAt w' b (upd (upd (updO (upd c 4001 (c (k * 8 + 7))) (k * 8) o) (k * 8 + 7) (-2)) 4002 (c 4002 + 1)) ∧ Chg [b] w w' := by
  have hb := h.lt
  have h41 := h.cell (j := 4001) (by omega)
  have h47 := h.cell (j := k * 8 + 7) (by omega)
  have f41 := h.free 4001
  rw [hf] at h41
  clear hf
  have e0 : ((k : Int) == -1) = false := by simp
  have k0 : (0 : Int) ≤ (k : Int) := Int.natCast_nonneg _
  have k1 : (k : Int) < 500 := by omega
  unfold oV
  have hA : Chg [b] w ((w.setCell ⟨b, 4001, none⟩ (.int .i64 (c (k * 8 + 7)))).alloc (.cells (oCs o) 52)) := (Chg.put (Chg.refl [b] w)).trans (Chg.alloc _ _ _)
  have h1 : ArAt ((w.setCell ⟨b, 4001, none⟩ (.int .i64 (c (k * 8 + 7)))).alloc (.cells (oCs o) 52)) b (upd c 4001 (c (k * 8 + 7))) := (h.set _ _).chg (Chg.alloc [] _ _) (by simp)
  have bx : ((w.setCell ⟨b, 4001, none⟩ (.int .i64 (c (k * 8 + 7)))).alloc (.cells (oCs o) 52)).heap[w.heap.size]? = some (.cells (oCs o) 52 (0, 0)) := by
    have := heap_alloc_new (w.setCell ⟨b, 4001, none⟩ (.int .i64 (c (k * 8 + 7)))) (.cells (oCs o) 52)
    simpa using this
  have hne : w.heap.size ≠ b := by omega
  unfold oCs at hA h1 bx
  go_enter Try.func24, Try.ntmps24
  go_wp2_with fail
  refine wp_tail 7 (by kernel_rfl) (by kernel_rfl) ?_
  intro W hW
  have hA2 := hA.trans (hW.mono (by simp))
  have h2 : ArAt W b (upd c 4001 (c (k * 8 + 7))) := h1.chg hW (by simp)
  obtain ⟨x0, x1, x2, x3, x4, x5, x6⟩ := blk7 (o := o) (hW.at_ bx (by simp))
  obtain ⟨h80, h81, h82, h83, h84, h85, h86, h87⟩ := slot_cells h2 (i := k) (by omega)
  obtain ⟨f80, f81, f82, f83, f84, f85, f86, f87⟩ := slot_free h2 k
  have h42 := h2.cell (j := 4002) (by omega)
  rw [upd_ne (by omega)] at h42
  have f42 := h2.free 4002
  have hb2 := h2.lt
  clear hW h41 h47 f41 hA h1 bx hb
  simp only [List.take_succ_cons, List.take_zero, List.drop_succ_cons, List.drop_zero]
  repeat still_step
  refine wpStill_nil ?_
  go_wp2
  go_ret2
  exact ⟨rfl, ((((((((h2.set _ _).set _ _).set _ _).set _ _).set _ _).set _ _).set _ _).set _ _).set _ _, hA2.put.put.put.put.put.put.put.put.put⟩

/-- The order at k. -/
def ordAt (c : Nat → Int) (k : Nat) : Nat → Int := fun j => c (k + j)
theorem _root_.Go.Dm.IntsAt.row7 {w : World} {g t : Nat} {c : Nat → Int} (h : IntsAt w g t 7 c) : w.heap[g]? = some (.cells (oCs c) t (0, 0)) := by
  obtain ⟨cs, hb, hs, hc⟩ := h
  rw [hb]
  congr 2
  apply Array.ext
  · simp [hs, oCs]
  · intro i h1 h2
    have h3 := hc i (by omega)
    rw [Array.getElem?_eq_getElem h1] at h3
    have h4 : i < 7 := by omega
    have h5 : cs[i] = .int .i64 (c i) := by simpa using h3
    rw [h5]
    match i, h4 with
    | 0, _ => rfl
    | 1, _ => rfl
    | 2, _ => rfl
    | 3, _ => rfl
    | 4, _ => rfl
    | 5, _ => rfl
    | 6, _ => rfl
theorem results_ord {fn : Func} {p u : Tmp} (h : fn.results = #[.cell p 52, .tmp u]) (tmps : Array Value) (w : World) (g : Nat) (c : Nat → Int) (x : Value)
    (hp : tmps.getD p undef = .pointer (some ⟨g, 0, none⟩)) (hx : tmps.getD u undef = x) (hI : IntsAt w g 52 7 c) :
    (results fn tmps).run Try.prog w = .ok (.tuple #[oV c, x]) w := by
  subst hx
  have hp' : tmps[p]?.getD undef = .pointer (some ⟨g, 0, none⟩) := by simpa using hp
  simp [results, h, hp', asAddr, run_loadVar_row w g 52 52 (oCs c) (0, 0) _ hI.row7 Try.underlying52 rfl (by kernel_rfl)]
  rfl
theorem ints_new (w : World) (t : Nat) : IntsAt (w.alloc (.cells #[.int .i64 0, .int .i64 0, .int .i64 0, .int .i64 0, .int .i64 0, .int .i64 0, .int .i64 0] t)) w.heap.size t 7 (fun _ => 0) := by
  refine ⟨_, heap_alloc_new w _, rfl, fun j hj => ?_⟩
  match j, hj with
  | 0, _ => rfl
  | 1, _ => rfl
  | 2, _ => rfl
  | 3, _ => rfl
  | 4, _ => rfl
  | 5, _ => rfl
  | 6, _ => rfl
theorem _root_.Go.Dm.IntsAt.cells7 {w : World} {g t : Nat} {c : Nat → Int} (h : IntsAt w g t 7 c) :
    w.cell? ⟨g, 0, none⟩ = some (.int .i64 (c 0)) ∧ w.cell? ⟨g, 1, none⟩ = some (.int .i64 (c 1)) ∧ w.cell? ⟨g, 2, none⟩ = some (.int .i64 (c 2)) ∧ w.cell? ⟨g, 3, none⟩ = some (.int .i64 (c 3)) ∧
    w.cell? ⟨g, 4, none⟩ = some (.int .i64 (c 4)) ∧ w.cell? ⟨g, 5, none⟩ = some (.int .i64 (c 5)) ∧ w.cell? ⟨g, 6, none⟩ = some (.int .i64 (c 6)) :=
  ⟨h.cell (by omega), h.cell (by omega), h.cell (by omega), h.cell (by omega), h.cell (by omega), h.cell (by omega), h.cell (by omega)⟩
theorem _root_.Go.Dm.IntsAt.free7 {w : World} {g t N : Nat} {c : Nat → Int} (h : IntsAt w g t N c) :
    w.frozen? ⟨g, 0, none⟩ = false ∧ w.frozen? ⟨g, 1, none⟩ = false ∧ w.frozen? ⟨g, 2, none⟩ = false ∧ w.frozen? ⟨g, 3, none⟩ = false ∧
    w.frozen? ⟨g, 4, none⟩ = false ∧ w.frozen? ⟨g, 5, none⟩ = false ∧ w.frozen? ⟨g, 6, none⟩ = false :=
  ⟨h.free _, h.free _, h.free _, h.free _, h.free _, h.free _, h.free _⟩
theorem _root_.Go.Dm.Chg.putNew {w W : World} {g j : Nat} {u : Value} (h : Chg [] w W) (hg : w.heap.size ≤ g) : Chg [] w (W.setCell ⟨g, j, none⟩ u) :=
  h.trans' (Chg.setCell (S := [g]) W ⟨g, j, none⟩ u (by simp)) (by simp) (by simp; omega)

set_option maxRecDepth 100000 in
set_option maxHeartbeats 1000000 in
theorem get09_yes (w : World) (b : Nat) (c : Nat → Int) (h : ArAt w b c) (i : Nat) (hi : (i : Int) < c 4000) (hn : c 4000 ≤ 500) (ht : c (i * 8 + 7) = -2) :
    Calls Try.prog 25 #[.pointer (some ⟨b, 0, none⟩), .int .i64 i] w fun e w' => e = .returned (.tuple #[oV (ordAt c (i * 8)), .bool true]) ∧ Chg [] w w' := by
  have hb := h.lt
  have hA := Chg.alloc [] w (.cells #[.int .i64 0, .int .i64 0, .int .i64 0, .int .i64 0, .int .i64 0, .int .i64 0, .int .i64 0] 52)
  have hI := ints_new w 52
  have hat := at09_yes _ b c (h.chg hA (by simp)) i hi hn ht
  go_enter Try.func25, Try.ntmps25
  go_wp2_with fail
  refine hat.mono ?_
  rintro e W ⟨rfl, hC⟩
  have hA1 := hA.trans hC
  have h1 := h.chg hA1 (by simp)
  have hI1 := hI.chg hC (by simp)
  obtain ⟨x0, x1, x2, x3, x4, x5, x6⟩ := hI1.cells7
  obtain ⟨f0, f1, f2, f3, f4, f5, f6⟩ := hI1.free7
  obtain ⟨h80, h81, h82, h83, h84, h85, h86, h87⟩ := slot_cells h1 (i := i) (by omega)
  have hb2 := h1.lt
  have hb3 := hI1.lt
  clear hat hC hA hi hn ht hI
  go_wp2
  refine bodyPost_ret (results_ord rfl _ _ w.heap.size _ _ rfl rfl (((((((hI1.set _ _).set _ _).set _ _).set _ _).set _ _).set _ _).set _ _)) rfl ?_
  exact ⟨rfl, ((((((hA1.putNew (Nat.le_refl _)).putNew (Nat.le_refl _)).putNew (Nat.le_refl _)).putNew (Nat.le_refl _)).putNew (Nat.le_refl _)).putNew (Nat.le_refl _)).putNew (Nat.le_refl _)⟩

set_option maxRecDepth 100000 in
set_option maxHeartbeats 1000000 in
theorem get09_no (w : World) (b : Nat) (c : Nat → Int) (h : ArAt w b c) (i : Int) (hn : c 4000 ≤ 500) (ht : takenI c i = false) :
    Calls Try.prog 25 #[.pointer (some ⟨b, 0, none⟩), .int .i64 i] w fun e w' => e = .returned (.tuple #[oV (fun _ => 0), .bool false]) ∧ Chg [] w w' := by
  have hb := h.lt
  have hA := Chg.alloc [] w (.cells #[.int .i64 0, .int .i64 0, .int .i64 0, .int .i64 0, .int .i64 0, .int .i64 0, .int .i64 0] 52)
  have hI := ints_new w 52
  have hat := at09_no _ b c (h.chg hA (by simp)) i hn ht
  go_enter Try.func25, Try.ntmps25
  go_wp2_with fail
  refine hat.mono ?_
  rintro e W ⟨rfl, hC⟩
  have hA1 := hA.trans hC
  have hI1 := hI.chg hC (by simp)
  obtain ⟨x0, x1, x2, x3, x4, x5, x6⟩ := hI1.cells7
  obtain ⟨f0, f1, f2, f3, f4, f5, f6⟩ := hI1.free7
  have hb3 := hI1.lt
  clear hat hC hA hn ht hI
  go_wp2
  refine bodyPost_ret (results_ord rfl _ _ w.heap.size _ _ rfl rfl (((((((hI1.set _ _).set _ _).set _ _).set _ _).set _ _).set _ _).set _ _)) rfl ?_
  exact ⟨rfl, ((((((hA1.putNew (Nat.le_refl _)).putNew (Nat.le_refl _)).putNew (Nat.le_refl _)).putNew (Nat.le_refl _)).putNew (Nat.le_refl _)).putNew (Nat.le_refl _)).putNew (Nat.le_refl _)⟩
end Go.Proofs.Ytdcjfaplgpeonaa

/-
  A new arena.
-/
namespace Go.Proofs.Ytdcjfaplgpeonaa
open Go.RowKit Go.Dm

theorem zero115 : Try.zeroCells115 = Array.replicate 4003 (.int .i64 0) := by kernel_rfl
/-- What stands in a new arena's block behind i rounds of its loop. -/
def newR (n i : Nat) : Nat → Int := fun k => if k = 4000 then n else if k % 8 = 7 ∧ k / 8 < i then (k / 8 : Nat) + 1 else 0
def newC (n : Nat) : Nat → Int := upd (newR n n) ((n - 1) * 8 + 7) (-1)
theorem new_at (w : World) (n : Nat) : ArAt (w.alloc (.cells (Try.zeroCells115.setIfInBounds 4000 (.int .i64 n)) 115)) w.heap.size (newR n 0) := by
  rw [zero115]
  refine ⟨_, heap_alloc_new w _, by simp, fun j hj => ?_⟩
  by_cases e : j = 4000
  · subst e; simp [newR]
  · rw [Array.getElem?_setIfInBounds_ne (fun h => e h.symm)]; simp [newR, e, hj]

def NewRel (w : World) (n : Nat) (m : Nat) (i : Value) (wr : World) : Prop :=
  ∃ k : Nat, k ≤ n ∧ m = n - k + 1 ∧ i = .int .i64 k ∧ ArAt wr w.heap.size (newR n k) ∧ Chg [] w wr

set_option maxRecDepth 100000 in
set_option maxHeartbeats 1000000 in
theorem new09 (w : World) (n : Nat) (h0 : 1 ≤ n) (h1 : n ≤ 500) :
    Calls Try.prog 23 #[.int .i64 n] w fun e w' => e = .returned (.tuple #[.pointer (some ⟨w.heap.size, 0, none⟩), .int .i64 0]) ∧ ArAt w' w.heap.size (newC n) ∧ Chg [] w w' := by
  have d1 : decide ((n : Int) < 1) = false := by simp; omega
  have d2 : decide ((n : Int) > 500) = false := by simp; omega
  have hN := new_at w n
  have hA := Chg.alloc [] w (.cells (Try.zeroCells115.setIfInBounds 4000 (.int .i64 n)) 115)
  go_enter Try.func23, Try.ntmps23
  go_wp2_with fail
  go_loopg [16] (n + 1) (fun m i wr => NewRel w n m i wr)
  case atStart => exact ⟨0, Nat.zero_le _, rfl, rfl, hN, hA⟩
  case round =>
    clear hN hA d1 d2
    obtain ⟨k, hk, hm, rfl, hI, hC⟩ := hrel
    have Hm := Lib.hid hm
    clear hm
    by_cases hlt : k < n
    · have k0 : (0 : Int) ≤ (k : Int) := Int.natCast_nonneg _
      have k1 : (k : Int) < 500 := by omega
      have k2 : (k : Int) < (n : Int) := by omega
      have h7 := hI.cell (j := k * 8 + 7) (by omega)
      have f7 := hI.free (k * 8 + 7)
      have hb := hI.lt
      clear hk
      go_wp2
      go_roundg (n - (k + 1) + 1)
      case measure => rw [Hm.out]; omega
      case rel =>
        refine ⟨k + 1, by omega, rfl, by go_num, (hI.set _ _).ext fun j hj => ?_, hC.putNew (Nat.le_refl _)⟩
        unfold upd newR
        by_cases e : j = k * 8 + 7
        · subst e
          have h1 : k * 8 + 7 ≠ 4000 := by omega
          have h2 : (k * 8 + 7) % 8 = 7 := by omega
          have h3 : (k * 8 + 7) / 8 = k := by omega
          simp only [h1, h2, h3, if_true, if_false, true_and]
          rw [if_pos (by omega)]
          all_goals go_num
        · rw [if_neg e]
          by_cases e2 : j = 4000
          · simp [e2]
          · rw [if_neg e2, if_neg e2]
            have : (j % 8 = 7 ∧ j / 8 < k) ↔ (j % 8 = 7 ∧ j / 8 < k + 1) := by omega
            simp only [this]
    · have hkn : k = n := by omega
      subst hkn
      have k1 : (0 : Int) ≤ (k : Int) - 1 := by omega
      have k2 : (k : Int) - 1 < 500 := by omega
      obtain ⟨q, hq⟩ : ∃ q : Nat, k = q + 1 := ⟨k - 1, by omega⟩
      have h7 := hI.cell (j := q * 8 + 7) (by omega)
      have f7 := hI.free (q * 8 + 7)
      have hb := hI.lt
      clear hk
      go_wp2
      go_ret2
      have hc : newC k = upd (newR k k) (q * 8 + 7) (-1) := by simp [newC, hq]
      exact ⟨rfl, hc ▸ hI.set _ _, hC.putNew (Nat.le_refl _)⟩
theorem new09_no (w : World) (n : Int) (h : n < 1 ∨ n > 500) :
    Calls Try.prog 23 #[.int .i64 n] w fun e w' => e = .returned (.tuple #[.pointer none, .int .i64 9]) ∧ Chg [] w w' := by
  by_cases h1 : n < 1
  · clear h
    go_enter Try.func23, Try.ntmps23
    go_wp2
    go_ret2
    exact ⟨rfl, Chg.refl _ _⟩
  · have h2 : n > 500 := by omega
    clear h
    go_enter Try.func23, Try.ntmps23
    go_wp2
    go_ret2
    exact ⟨rfl, Chg.refl _ _⟩

/-- The chapter's example. -/
def aO (n : Int) : Nat → Int := fun j => if j = 0 then n else 0
def aC1 : Nat → Int := upd (upd (updO (upd (newC 3) 4001 1) 0 (aO 1)) 7 (-2)) 4002 1
def aC2 : Nat → Int := upd (upd (updO (upd aC1 4001 2) 8 (aO 2)) 15 (-2)) 4002 2
def aC3 : Nat → Int := upd (upd (upd (updO aC2 0 (fun _ => 0)) 7 2) 4001 0) 4002 1
def aC4 : Nat → Int := upd (upd (updO (upd aC3 4001 2) 0 (aO 3)) 7 (-2)) 4002 2

theorem take09_at (w : World) (b : Nat) (c c' : Nat → Int) (h : ArAt w b c) (k : Nat) (n : Int) (hf : c 4001 = k) (hk : k < 500) (v : Value) (o : Nat → Int) (ho : v = oV o) (hw : IntKind.i64.wrap (c 4002 + 1) = c 4002 + 1)
    (hc : upd (upd (updO (upd c 4001 (c (k * 8 + 7))) (k * 8) o) (k * 8 + 7) (-2)) 4002 (c 4002 + 1) = c') (hn : (k : Int) = n) :
    Calls Try.prog 24 #[.pointer (some ⟨b, 0, none⟩), v] w fun e w' => e = .returned (.tuple #[.int .i64 n, .int .i64 0]) ∧ ArAt w' b c' ∧ Chg [b] w w' := by
  subst ho hc hn; exact take09_yes w b c h k hf hk o hw

set_option maxRecDepth 100000 in
set_option maxHeartbeats 1000000 in
theorem alive09 (w : World) : Calls Try.prog 22 #[] w fun e w' => e = .returned (.bool true) ∧ Chg [] w w' := by
  go_enter Try.func22, Try.ntmps22
  go_wp2_with fail
  refine (new09 _ 3 (by omega) (by omega)).mono ?_
  rintro e W1 ⟨rfl, h1, hC1⟩
  go_wp2_with fail
  refine (take09_at _ _ _ aC1 h1 0 0 rfl (by omega) _ (aO 1) rfl rfl rfl rfl).mono ?_
  rintro e W2 ⟨rfl, h2, hC2⟩
  have hD2 : Chg [] w W2 := hC1.trans' hC2 (by simp) (by simp)
  clear hC1 hC2 h1
  go_wp2_with fail
  refine (take09_at _ _ _ aC2 h2 1 1 rfl (by omega) _ (aO 2) rfl rfl rfl rfl).mono ?_
  rintro e W3 ⟨rfl, h3, hC3⟩
  have hD3 : Chg [] w W3 := hD2.trans' hC3 (by simp) (by simp)
  clear hD2 hC3 h2
  go_wp2_with fail
  refine (drop09_yes _ _ _ h3 0 (by decide) (by decide) rfl rfl).mono ?_
  rintro e W4 ⟨rfl, h4, hC4⟩
  have hD4 : Chg [] w W4 := hD3.trans' hC4 (by simp) (by simp)
  have h4 : ArAt W4 w.heap.size aC3 := h4
  clear hD3 hC4 h3
  go_wp2_with fail
  refine (take09_at _ _ _ aC4 h4 0 0 rfl (by omega) _ (aO 3) rfl rfl rfl rfl).mono ?_
  rintro e W5 ⟨rfl, h5, hC5⟩
  have hD5 : Chg [] w W5 := hD4.trans' hC5 (by simp) (by simp)
  clear hD4 hC5 h4
  have hu := used09 _ _ _ h5
  have hr := room09 _ _ _ h5 rfl
  rw [show aC4 4002 = 2 from rfl] at hu hr
  rw [show aC4 4000 = 3 from rfl, show (3 : Int) - 2 = 1 from rfl] at hr
  go_wp2_with fail
  refine hu.mono ?_
  rintro e W6 ⟨rfl, rfl⟩
  go_wp2_with fail
  refine hr.mono ?_
  rintro e W7 ⟨rfl, hC7⟩
  have hD7 := hD5.trans hC7
  clear hC7 hD5 hu hr h5
  go_wp2
  go_ret
  exact ⟨rfl, hD7⟩
end Go.Proofs.Ytdcjfaplgpeonaa

/-
  The law ArenaHolds, walked.
-/
namespace Go.Proofs.Ytdcjfaplgpeonaa
open Go.RowKit Go.Dm

theorem made1 (n : Nat) : madeCells #[.int .i64 0] n = Array.replicate n (.int .i64 0) := by
  apply Array.ext
  · simp [madeCells]
  · intro i h1 h2; simp [madeCells, Nat.mod_one]
theorem make48 (n : Nat) (hn : n ≤ 1000) (w : World) : (Instr.makeSlice 48 (.int .i64 (n : Int)) (.int .i64 (n : Int))).run Try.prog w = .ok (.slice (some ⟨w.heap.size, 0, none⟩) n n) (w.alloc (.cells (Array.replicate n (.int .i64 0)) 3)) := by
  rw [run_make_row' 48 3 (.int .i64 0) 8 Try.underlying48 (by kernel_rfl) rfl .i64 .i64 n (by omega) (by omega) w, made1]
theorem ints_made (w : World) (t n : Nat) : IntsAt (w.alloc (.cells (Array.replicate n (.int .i64 0)) t)) w.heap.size t n (fun _ => 0) :=
  ⟨_, heap_alloc_new w _, by simp, fun j hj => by simp [hj]⟩
theorem _root_.Go.Dm.Chg.putIn {S : List Nat} {w W : World} {g j : Nat} {u : Value} (h : Chg S w W) (hg : g ∈ S ∨ w.heap.size ≤ g) : Chg S w (W.setCell ⟨g, j, none⟩ u) :=
  h.trans' (Chg.setCell (S := [g]) W ⟨g, j, none⟩ u (by simp)) (fun _ hi => .inl hi) (fun i hi => by simp at hi; subst hi; exact hg)

/-- The orders that came in lie in memory. -/
def OrdsAt (w : World) (A : Option Addr) (l : List (Nat → Int)) : Prop :=
  l = [] ∨ ∃ b off, A = some ⟨b, off, none⟩ ∧ b < w.heap.size ∧ ∀ i o, l[i]? = some o → ∀ j, j < 7 → w.cell? ⟨b, off + i * 7 + j, none⟩ = some (.int .i64 (o j))

structure Hold (n i : Nat) (l : List (Nat → Int)) (c : Nat → Int) : Prop where
  size : c 4000 = n
  used : c 4002 = i
  free : c 4001 = if i < n then (i : Int) else -1
  low : ∀ j, j < i → c (j * 8 + 7) = -2
  ord : ∀ (j : Nat) o, j < i → l[j]? = some o → ∀ q, q < 7 → c (j * 8 + q) = o q
  high : ∀ j, i ≤ j → j < n → c (j * 8 + 7) = if j + 1 < n then ((j + 1 : Nat) : Int) else -1

theorem hold_new (n : Nat) (h0 : 1 ≤ n) (h1 : n ≤ 500) (l : List (Nat → Int)) : Hold n 0 l (newC n) := by
  refine ⟨?_, ?_, ?_, by omega, by omega, ?_⟩
  · unfold newC; rw [upd_ne (by omega)]; simp [newR]
  · unfold newC; rw [upd_ne (by omega)]; simp [newR]
  · unfold newC; rw [upd_ne (by omega), if_pos (by omega)]; simp [newR]
  · intro j _ hj
    by_cases e : j + 1 < n
    · unfold newC
      rw [upd_ne (by omega), if_pos e]
      have h1 : j * 8 + 7 ≠ 4000 := by omega
      have h2 : (j * 8 + 7) % 8 = 7 := by omega
      have h3 : (j * 8 + 7) / 8 = j := by omega
      simp [newR, h1, h2, h3, hj]
    · have : n - 1 = j := by omega
      unfold newC
      rw [this, if_neg e, upd_same]

theorem updO_out {c : Nat → Int} {k : Nat} {o : Nat → Int} {j : Nat} (h : j < k ∨ k + 7 ≤ j) : updO c k o j = c j := by
  unfold updO
  rw [upd_ne (by omega), upd_ne (by omega), upd_ne (by omega), upd_ne (by omega), upd_ne (by omega), upd_ne (by omega), upd_ne (by omega)]
theorem updO_in {c : Nat → Int} {k : Nat} {o : Nat → Int} {q : Nat} (h : q < 7) : updO c k o (k + q) = o q := by
  unfold updO upd
  match q, h with
  | 0, _ => simp
  | 1, _ => simp
  | 2, _ => simp
  | 3, _ => simp
  | 4, _ => simp
  | 5, _ => simp
  | 6, _ => simp
def tookC (c : Nat → Int) (k : Nat) (o : Nat → Int) : Nat → Int := upd (upd (updO (upd c 4001 (c (k * 8 + 7))) (k * 8) o) (k * 8 + 7) (-2)) 4002 (c 4002 + 1)
theorem took_4000 {c : Nat → Int} {k : Nat} {o : Nat → Int} (hk : k < 500) : tookC c k o 4000 = c 4000 := by
  unfold tookC; rw [upd_ne (by omega), upd_ne (by omega), updO_out (by omega), upd_ne (by omega)]
theorem took_4001 {c : Nat → Int} {k : Nat} {o : Nat → Int} (hk : k < 500) : tookC c k o 4001 = c (k * 8 + 7) := by
  unfold tookC; rw [upd_ne (by omega), upd_ne (by omega), updO_out (by omega), upd_same]
theorem took_4002 {c : Nat → Int} {k : Nat} {o : Nat → Int} : tookC c k o 4002 = c 4002 + 1 := by
  unfold tookC; rw [upd_same]
theorem took_next {c : Nat → Int} {k : Nat} {o : Nat → Int} (_hk : k < 500) : tookC c k o (k * 8 + 7) = -2 := by
  unfold tookC; rw [upd_ne (by omega), upd_same]
theorem took_ord {c : Nat → Int} {k : Nat} {o : Nat → Int} (hk : k < 500) {q : Nat} (hq : q < 7) : tookC c k o (k * 8 + q) = o q := by
  unfold tookC; rw [upd_ne (by omega), upd_ne (by omega), updO_in hq]
theorem took_other {c : Nat → Int} {k j : Nat} {o : Nat → Int} (hj : j < 500) (hne : j ≠ k) {q : Nat} (hq : q < 8) : tookC c k o (j * 8 + q) = c (j * 8 + q) := by
  unfold tookC; rw [upd_ne (by omega), upd_ne (by omega), updO_out (by omega), upd_ne (by omega)]

theorem hold_step {n i : Nat} {l : List (Nat → Int)} {c : Nat → Int} {o : Nat → Int} (h : Hold n i l c) (hi : i < n) (h1 : n ≤ 500) (ho : l[i]? = some o) : Hold n (i + 1) l (tookC c i o) := by
  refine ⟨?_, ?_, ?_, ?_, ?_, ?_⟩
  · rw [took_4000 (by omega)]; exact h.size
  · rw [took_4002, h.used]; rfl
  · rw [took_4001 (by omega), h.high i (Nat.le_refl _) hi]
  · intro j hj
    by_cases e : j = i
    · subst e; exact took_next (by omega)
    · rw [took_other (by omega) e (by omega)]; exact h.low j (by omega)
  · intro j o' hj ho' q hq
    by_cases e : j = i
    · subst e
      rw [ho] at ho'; cases ho'
      exact took_ord (by omega) hq
    · rw [took_other (by omega) e (by omega)]; exact h.ord j o' (by omega) ho' q hq
  · intro j hj hjn
    rw [took_other (by omega) (by omega) (by omega)]; exact h.high j (by omega) hjn

/-- Where the orders were put: at j, j + 1. -/
def seat (i : Nat) : Nat → Int := fun j => if j < i then (j : Int) + 1 else 0

structure HoldsRel1 (w : World) (n : Nat) (l : List (Nat → Int)) (b a : Nat) (m : Nat) (i : Value) (wr : World) : Prop where
  ex : ∃ (k : Nat) (c : Nat → Int), k ≤ l.length ∧ m = l.length - k + 1 ∧ i = .int .i64 k ∧ Hold n (min k n) l c ∧ ArAt wr b c ∧ IntsAt wr a 3 n (seat (min k n)) ∧ Chg [] w wr

structure HoldsRel2 (w : World) (n : Nat) (l : List (Nat → Int)) (c : Nat → Int) (b a : Nat) (m : Nat) (i : Value) (wr : World) : Prop where
  ex : ∃ k : Nat, k ≤ n ∧ m = n - k + 1 ∧ i = .int .i64 k ∧ ArAt wr b c ∧ IntsAt wr a 3 n (seat (min l.length n)) ∧ Chg [] w wr

set_option maxRecDepth 100000 in
set_option maxHeartbeats 2000000 in
theorem holds_any (w : World) (A : Option Addr) (cap : Nat) (slots : Int) (l : List (Nat → Int)) (h : OrdsAt w A l) :
    Calls Try.prog 5 #[.int .i64 slots, .slice A l.length cap] w fun e w' => e = .returned (.bool true) ∧ Chg [] w w' := by
  by_cases hbig : (l.length : Int) > 60 ∨ slots < 1 ∨ slots > 60
  · have hB := Lib.hid hbig
    clear hbig
    by_cases b1 : (l.length : Int) > 60
    · go_enter Try.func5, Try.ntmps5
      go_wp2_with fail
      refine (alive09 _).mono ?_
      rintro e w' ⟨rfl, hC⟩
      go_wp2
      go_ret
      exact ⟨rfl, hC⟩
    · by_cases b2 : slots < 1
      · go_enter Try.func5, Try.ntmps5
        go_wp2_with fail
        refine (alive09 _).mono ?_
        rintro e w' ⟨rfl, hC⟩
        go_wp2
        go_ret
        exact ⟨rfl, hC⟩
      · have b3 : slots > 60 := by have := hB.out; omega
        go_enter Try.func5, Try.ntmps5
        go_wp2_with fail
        refine (alive09 _).mono ?_
        rintro e w' ⟨rfl, hC⟩
        go_wp2
        go_ret
        exact ⟨rfl, hC⟩
  · obtain ⟨n, rfl⟩ := Int.eq_ofNat_of_zero_le (show 0 ≤ slots by omega)
    have b1 : ¬ (l.length : Int) > 60 := by omega
    have b2 : ¬ (n : Int) < 1 := by omega
    have b3 : ¬ (n : Int) > 60 := by omega
    have n0 : 1 ≤ n := by omega
    have n1 : n ≤ 60 := by omega
    clear hbig
    go_enter Try.func5, Try.ntmps5
    go_wp2_with fail
    refine (new09 _ n n0 (by omega)).mono ?_
    rintro e W1 ⟨rfl, h1, hC1⟩
    have hmk := make48 n (by omega)
    have hS := ints_made W1 3 n
    have hC2 := hC1.trans (Chg.alloc [] W1 (.cells (Array.replicate n (.int .i64 0)) 3))
    have hR : HoldsRel1 w n l w.heap.size W1.heap.size (l.length + 1) (.int .i64 0) (W1.alloc (.cells (Array.replicate n (.int .i64 0)) 3)) :=
      ⟨0, newC n, Nat.zero_le _, rfl, rfl, by rw [Nat.zero_min]; exact hold_new n n0 (by omega) l, h1.chg (Chg.alloc [] _ _) (by simp), by rw [Nat.zero_min]; exact hS.ext (fun j _ => by simp [seat]), hC2⟩
    have ha : w.heap.size < W1.heap.size := h1.lt
    clear hS hC2 hC1 h1
    go_wp2_with fail
    clear hmk
    go_loopg [8] (l.length + 1) (fun m i wr => HoldsRel1 w n l w.heap.size W1.heap.size m i wr)
    case atStart => exact hR
    case round =>
      clear hR
      obtain ⟨k, c, hk, hm, rfl, hH, hI, hS, hC⟩ := hrel
      have Hm := Lib.hid hm
      clear hm
      by_cases hlt : k < l.length
      · rcases h with h | ⟨b, off, rfl, hbl, hcells⟩
        · subst h; simp at hlt
        obtain ⟨o, ho⟩ : ∃ o, l[k]? = some o := ⟨l[k], by simp [hlt]⟩
        have hc := hcells k o ho
        have c0 := hC.cell (show w.cell? ⟨b, off + k * 7, none⟩ = some (.int .i64 (o 0)) from hc 0 (by omega)) (by simp)
        have c1 := hC.cell (hc 1 (by omega)) (by simp)
        have c2 := hC.cell (hc 2 (by omega)) (by simp)
        have c3 := hC.cell (hc 3 (by omega)) (by simp)
        have c4 := hC.cell (hc 4 (by omega)) (by simp)
        have c5 := hC.cell (hc 5 (by omega)) (by simp)
        have c6 := hC.cell (hc 6 (by omega)) (by simp)
        have hbr : b < wr.heap.size := by have := hC.size; omega
        have k0 : (0 : Int) ≤ (k : Int) := Int.natCast_nonneg _
        have k1 : (k : Int) < (l.length : Int) := by omega
        clear hcells hc
        by_cases hkn : k < n
        · have hmin : min k n = k := by omega
          have hmin1 : min (k + 1) n = k + 1 := by omega
          rw [hmin] at hH hS
          have k2 : ¬ ((k : Int) ≥ (n : Int)) := by omega
          have k3 : (k : Int) < (n : Int) := by omega
          have k4 : ¬ ((k : Int) < 0) := by omega
          have hst := hold_step hH hkn (by omega) ho
          have ht := take09_yes wr w.heap.size c hI k (by rw [hH.free, if_pos hkn]) (by omega) o (by rw [hH.used]; exact wrapOk (by omega) (by omega))
          have HH := Lib.hid hst
          clear hst hH
          unfold oV at ht
          go_wp2_with fail
          refine ht.mono ?_
          rintro e W2 ⟨rfl, hI2, hC2⟩
          clear ht
          have hS2 := hS.chg hC2 (by simp; omega)
          have hD2 : Chg [] w W2 := hC.trans' hC2 (by simp) (by simp)
          have s0 := hS2.cell (j := k) hkn
          have f0 := hS2.free k
          rw [show seat k k = 0 by simp [seat]] at s0
          have hb2 := hS2.lt
          clear c0 c1 c2 c3 c4 c5 c6 hS hC hC2 hI hbr
          have hwk : IntKind.i64.wrap ((k : Int) + 1) = (k : Int) + 1 := wrapOk (by omega) (by omega)
          go_wp2
          go_roundg (l.length - (k + 1) + 1)
          case measure => rw [Hm.out]; omega
          case rel =>
            exact ⟨k + 1, _, by omega, rfl, by go_num, by rw [hmin1]; exact HH.out, hI2.chg (Chg.setCell (S := [W1.heap.size]) _ _ _ (by simp)) (by simp; omega), by
              rw [hmin1]
              refine (hS2.set _ _).ext fun j hj => ?_
              unfold upd seat
              by_cases e : j = k
              · subst e; simp
              · rw [if_neg e]
                have : (j < k) ↔ (j < k + 1) := by omega
                simp only [this], hD2.putIn (.inr (by omega))⟩
        · have hmin : min k n = n := by omega
          have hmin1 : min (k + 1) n = n := by omega
          rw [hmin] at hH hS
          have k2 : ((k : Int) ≥ (n : Int)) := by omega
          have ht := take09_full wr w.heap.size c hI (by rw [hH.free, if_neg (by omega)]) o
          have HH := Lib.hid hH
          clear hH
          unfold oV at ht
          go_wp2_with fail
          refine ht.mono ?_
          rintro e W2 ⟨rfl, hC2⟩
          clear ht
          have hS2 := hS.chg hC2 (by simp)
          have hI2 := hI.chg hC2 (by simp)
          have hD2 : Chg [] w W2 := hC.trans hC2
          clear c0 c1 c2 c3 c4 c5 c6 hS hC hC2 hI hbr
          go_wp2
          go_roundg (l.length - (k + 1) + 1)
          case measure => rw [Hm.out]; omega
          case rel =>
            exact ⟨k + 1, _, by omega, rfl, by go_num, by rw [hmin1]; exact HH.out, hI2, by rw [hmin1]; exact hS2, hD2⟩
      · have hkl : k = l.length := by omega
        subst hkl
        clear Hm hk
        go_wp2_with fail
        go_loopg [11] (n + 1) (fun m i wr => HoldsRel2 w n l c w.heap.size W1.heap.size m i wr)
        case atStart => exact ⟨⟨0, Nat.zero_le _, rfl, rfl, hI, hS, hC⟩⟩
        case round =>
          clear hI hS hC
          obtain ⟨k, hk, hm, rfl, hI, hS, hC⟩ := hrel
          have Hm := Lib.hid hm
          clear hm
          by_cases hlt : k < n
          · have k0 : (0 : Int) ≤ (k : Int) := Int.natCast_nonneg _
            have k1 : (k : Int) < (n : Int) := by omega
            have hsz := hH.size
            by_cases hkm : k < l.length
            · rcases h with h | ⟨b, off, rfl, hbl, hcells⟩
              · subst h; simp at hkm
              obtain ⟨o, ho⟩ : ∃ o, l[k]? = some o := ⟨l[k], by simp [hkm]⟩
              have hc := hcells k o ho
              have hg := get09_yes wr w.heap.size c hI k (by rw [hsz]; exact k1) (by rw [hsz]; omega) (hH.low k (by omega))
              have hoo : oV (ordAt c (k * 8)) = oV o := by
                have h0 := hH.ord k o (by omega) ho 0 (by omega)
                have h1 := hH.ord k o (by omega) ho 1 (by omega)
                have h2 := hH.ord k o (by omega) ho 2 (by omega)
                have h3 := hH.ord k o (by omega) ho 3 (by omega)
                have h4 := hH.ord k o (by omega) ho 4 (by omega)
                have h5 := hH.ord k o (by omega) ho 5 (by omega)
                have h6 := hH.ord k o (by omega) ho 6 (by omega)
                simp only [oV, ordAt, h0, h1, h2, h3, h4, h5, h6]
              rw [hoo] at hg
              unfold oV at hg
              have hs : seat (min l.length n) k = (k : Int) + 1 := by simp only [seat]; rw [if_pos (by omega)]
              have HH := Lib.hid hH
              clear hoo hH hsz
              go_wp2_with fail
              refine hg.mono ?_
              rintro e W2 ⟨rfl, hC2⟩
              clear hg
              have hI2 := hI.chg hC2 (by simp)
              have hS2 := hS.chg hC2 (by simp)
              have hD2 := hC.trans hC2
              have hS3 := hS2.chg (Chg.alloc [] W2 (.cells (oCs o) 52)) (by simp)
              have hD3 := hD2.trans (Chg.alloc [] W2 (.cells (oCs o) 52))
              have s0 := hS3.cell (j := k) hlt
              rw [hs] at s0
              have c0 := hD3.cell (show w.cell? ⟨b, off + k * 7, none⟩ = some (.int .i64 (o 0)) from hc 0 (by omega)) (by simp)
              have c1 := hD3.cell (hc 1 (by omega)) (by simp)
              have c2 := hD3.cell (hc 2 (by omega)) (by simp)
              have c3 := hD3.cell (hc 3 (by omega)) (by simp)
              have c4 := hD3.cell (hc 4 (by omega)) (by simp)
              have c5 := hD3.cell (hc 5 (by omega)) (by simp)
              have c6 := hD3.cell (hc 6 (by omega)) (by simp)
              have hB := heap_alloc_new W2 (.cells (oCs o) 52)
              obtain ⟨x0, x1, x2, x3, x4, x5, x6⟩ := blk7 hB
              have e1 : decide ((k : Int) + 1 > 0) = true := by apply decide_eq_true; omega
              have e2 : IntKind.i64.wrap ((k : Int) + 1 - 1) = (k : Int) := by rw [wrapOk (by omega) (by omega)]; omega
              have k2 : (k : Int) < (l.length : Int) := by omega
              clear hc hcells ho hI hS hC hC2 hS2 hB hs
              unfold oCs at *
              go_wp2_with fail
              go_quiet (fail)
              go_wp2
              have hI3 := hI2.chg ((Chg.alloc [] W2 (.cells (oCs o) 52)).trans (Chg.drewN _ _ nq)) (by simp)
              have hS4 := hS3.chg (Chg.drewN [] _ nq) (by simp)
              have hD4 := hD3.trans (Chg.drewN [] _ nq)
              unfold oCs at hI3
              go_roundg (n - (k + 1) + 1)
              case measure => rw [Hm.out]; omega
              case rel => exact ⟨k + 1, by omega, rfl, by go_num, hI3, hS4, hD4⟩
            · have htk : takenI c (k : Int) = false := by
                have h1 := hH.high k (by omega) hlt
                have h2 : ¬ c (8 * k + 7) = -2 := by rw [Nat.mul_comm 8 k, h1]; split <;> omega
                simp [takenI, h2]
              have hg := get09_no wr w.heap.size c hI k (by rw [hsz]; omega) htk
              have hs : seat (min l.length n) k = 0 := by simp only [seat]; rw [if_neg (by omega)]
              have HH := Lib.hid hH
              clear hH hsz htk
              unfold oV at hg
              go_wp2_with fail
              refine hg.mono ?_
              rintro e W2 ⟨rfl, hC2⟩
              clear hg
              have hI2 := hI.chg hC2 (by simp)
              have hS2 := hS.chg hC2 (by simp)
              have hD2 := hC.trans hC2
              have hS3 := hS2.chg (Chg.alloc [] W2 (.cells (oCs (fun _ => 0)) 52)) (by simp)
              have hD3 := hD2.trans (Chg.alloc [] W2 (.cells (oCs (fun _ => 0)) 52))
              have s0 := hS3.cell (j := k) hlt
              rw [hs] at s0
              have hl0 : (0 : Int) ≤ (l.length : Int) := Int.natCast_nonneg _
              clear hI hS hC hC2 hS2 hs
              unfold oCs at *
              go_wp2_with fail
              go_quiet (fail)
              go_wp2
              have hI3 := hI2.chg ((Chg.alloc [] W2 (.cells (oCs (fun _ => 0)) 52)).trans (Chg.drewN _ _ nq)) (by simp)
              have hS4 := hS3.chg (Chg.drewN [] _ nq) (by simp)
              have hD4 := hD3.trans (Chg.drewN [] _ nq)
              unfold oCs at hI3
              go_roundg (n - (k + 1) + 1)
              case measure => rw [Hm.out]; omega
              case rel => exact ⟨k + 1, by omega, rfl, by go_num, hI3, hS4, hD4⟩
          · go_wp2_with fail
            refine (alive09 _).mono ?_
            rintro e w' ⟨rfl, hC2⟩
            have hD2 := hC.trans hC2
            clear hC2 hI hS hC
            go_wp2
            go_ret
            exact ⟨rfl, hD2⟩
end Go.Proofs.Ytdcjfaplgpeonaa

/-
  The program's index: a symbol's IDs, as the map hands them (ahead of the sort).
-/
namespace Go.Proofs.Ytdcjfaplgpeonaa
open Go.RowKit Go.Dm

def idE (d : Int) : List Value := [.int .i64 d]
theorem idR : REnc 1 idE := ⟨fun _ => rfl, fun a u hu => by simp [idE] at hu; subst hu; rfl⟩
theorem elem91 : ElemIs Try.prog 91 2 1 8 := ⟨Try.underlying91, by
  obtain ⟨i, hi, hz, h1, h2⟩ := info_parts (show (Try.prog.info? 2).map (fun i => (i.zero, i.size, i.bytes)) = some (some (.int .i64 0), 1, 8) by kernel_rfl)
  exact ⟨i, _, hi, hz, h1, h2, rfl⟩, by decide⟩
def idsOf (l : IL) (s : Int) : List Int := (l.filter fun p => decide (p.1.1 = s)).map (·.1.2)
theorem idsOf_len (l : IL) (s : Int) : (idsOf l s).length ≤ l.length := by
  unfold idsOf; rw [List.length_map]; exact List.length_filter_le _ _
theorem idsOf_mid (pre post : IL) (p : (Int × Int) × Int) (s : Int) : (idsOf (pre ++ p :: post) s).Perm ((if p.1.1 = s then [p.1.2] else []) ++ idsOf (pre ++ post) s) := by
  unfold idsOf
  simp only [List.filter_append, List.filter_cons, List.map_append]
  by_cases h : p.1.1 = s
  · simp only [h, decide_true, if_true, List.map_cons, List.singleton_append]
    exact List.perm_middle
  · simp [h]

def srt (l : List Int) : List Int := l.mergeSort (fun x y => decide (x ≤ y))
theorem chg_below {w a b : World} (h : Chg [] w a) (k : Below w.heap.size a b) : Chg [] w b :=
  ⟨k.os.trans h.os, k.tape.trans h.tape, k.output.trans h.output, Nat.le_trans h.size k.size, fun i hi hn => (k.block i hi).trans (h.block i hi hn)⟩

def IdsRel (w : World) (it m1 : Nat) (l : IL) (s : Int) (q : Nat) (v : Value) (wr : World) : Prop :=
  ∃ todo out, IterAt kenc ienc wr it m1 l todo ∧ SlAt 2 1 idE wr v out ∧ Fresh w.heap.size v ∧ (out ++ idsOf todo s).Perm (idsOf l s) ∧ Chg [] w wr ∧ q = todo.length + 1

/-- What the loop leaves, and behind it the sort: given as a hypothesis. -/
def SortsAt : Prop := ∀ (w : World) (v : Value) (out : List Int), SlAt 2 1 idE w v out → out.length ≤ 1000 →
  Calls Try.prog 76 #[v] w fun e w' => e = .returned (.tuple #[]) ∧ SlAt 2 1 idE w' v (srt out) ∧ ∀ B, B ≤ w.heap.size → Fresh B v → Below B w w'

set_option maxRecDepth 100000 in
set_option maxHeartbeats 4000000 in
theorem _root_.Go.Dm.IterAt.lt {w : World} {it m : Nat} {l todo : IL} (h : IterAt kenc ienc w it m l todo) : it < w.heap.size := by
  obtain ⟨_, _, _, _, _, _, hh, _⟩ := h; exact blk_lt hh

set_option maxRecDepth 100000 in
set_option maxHeartbeats 4000000 in
theorem ids_any (hsort : SortsAt) (w : World) (x m1 m2 : Nat) (l : IL) (h : XAt w x m1 m2 l) (s : Int) (hlen : l.length ≤ 1000) :
    Calls Try.prog 62 #[.pointer (some ⟨x, 0, none⟩), .int .i64 s] w fun e w' => ∃ (v : Value) (out : List Int), e = .returned v ∧ SlAt 2 1 idE w' v (srt out) ∧ out.Perm (idsOf l s) ∧ Chg [] w w' ∧ Fresh w.heap.size v := by
  have c0 := h.c0
  have hx := h.lt
  obtain ⟨ob, hrg, hI⟩ := IterAt.start h.ents Try.underlying103
  have hCa : Chg [] w (w.alloc ob) := Chg.alloc _ _ _
  go_enter Try.func62, Try.ntmps62
  go_wp2
  clear hrg
  go_loopg [4] (l.length + 1) (fun q v wr => IdsRel w w.heap.size m1 l s q v wr)
  case atStart => exact ⟨l, [], hI, SlAt.nil _ _ _ _, Fresh.none, by simp, hCa, rfl⟩
  case round =>
    clear hI hCa c0 hx
    obtain ⟨todo, out, hI', hS, hF, hP, hC, hq⟩ := hrel
    have Hq := Lib.hid hq
    have HP := Lib.hid hP
    clear hq hP
    rcases hI'.next (P := Try.prog) 0 with ⟨rfl, hnx⟩ | ⟨pre, k, v, post, W, he, hnx, hI2, hCn, hsz, hen⟩
    · have hp2 := HP.out
      simp only [idsOf, List.filter_nil, List.map_nil, List.append_nil] at hp2
      have hl2 : out.length ≤ 1000 := by
        have := hp2.length_eq
        have := idsOf_len l s
        unfold idsOf at this
        omega
      have hso := hsort wr u4 out hS hl2
      go_wp2_with fail
      refine hso.mono ?_
      rintro e W2 ⟨rfl, hS2, hB⟩
      have hB2 := hB w.heap.size hC.size hF
      clear hso hB hS hnx
      go_wp2
      go_ret
      exact ⟨u4, out, rfl, hS2, hp2, chg_below hC hB2, hF⟩
    · obtain ⟨k1, k2⟩ := k
      simp only [kenc, ienc] at hnx hen
      have hC3 : Chg [] w W := hC.trans' hCn (by simp) (by simp)
      have hit : ∀ g, u4.ownBlock = some g → g ∉ [w.heap.size] := fun g hg hm => by
        obtain ⟨cur, hcur⟩ := hS.typed hg
        obtain ⟨_, _, _, _, _, _, hh, _⟩ := hI'
        simp at hm; subst hm; rw [hcur] at hh; cases hh
      have hS2 := hS.chg hCn hit
      have hA : Chg [] W (W.alloc (.cells #[.int .i64 k1, .int .i64 k2] 37)) := Chg.alloc _ _ _
      have hC4 := hC3.trans hA
      have hI3 := hI2.chg hA (by simp) (by simp)
      have hS3 := hS2.chg hA (by simp)
      have bk : (W.alloc (.cells #[.int .i64 k1, .int .i64 k2] 37)).heap[wr.heap.size]? = some (.cells #[.int .i64 k1, .int .i64 k2] 37 (0, 0)) := by
        have := heap_alloc_new W (.cells #[.int .i64 k1, .int .i64 k2] 37)
        rw [hsz] at this; exact this
      have B := Lib.hid he
      clear he hI' hC hCn hS hit hI2 hS2 hC3
      have hlt : 0 < (W.alloc (.cells #[.int .i64 k1, .int .i64 k2] 37)).heap.size := by simp
      by_cases hks : k1 = s
      · subst hks
        have hlen1 : out.length + [k2].length ≤ 1000000 := by
          have := HP.out.length_eq
          have := idsOf_len l k1
          simp at *
          omega
        have hC5 := hC4.trans (Chg.alloc [] _ (.cells #[.int .i64 k2] 2))
        have hS4 := hS3.chg (Chg.alloc [] _ (.cells #[.int .i64 k2] 2)) (by simp)
        have hI4 := hI3.chg (Chg.alloc [] _ (.cells #[.int .i64 k2] 2)) (by simp) (by simp)
        have hsrc : SrcAt idE ((W.alloc (.cells #[.int .i64 k1, .int .i64 k2] 37)).alloc (.cells #[.int .i64 k2] 2)) (.slice (some ⟨wr.heap.size + 1, 0, none⟩) 1 1) [k2] := SrcAt.one (renc := idE) (a := k2) (t := 2) (fr := (0, 0)) (by
          have := heap_alloc_new (W.alloc (.cells #[.int .i64 k1, .int .i64 k2] 37)) (.cells #[.int .i64 k2] 2)
          rw [World.size_alloc, hsz] at this
          exact this) 1
        have nit : ∀ g, u4.ownBlock = some g → g ∉ [w.heap.size] := fun g hg hm => by
          obtain ⟨cur, hcur⟩ := hS4.typed hg
          obtain ⟨_, _, _, _, _, _, hh, _⟩ := hI4
          simp at hm; subst hm; rw [hcur] at hh; cases hh
        have nmm : ∀ g, u4.ownBlock = some g → g ≠ m1 := fun g hg e => by
          obtain ⟨cur, hcur⟩ := hS4.typed hg
          obtain ⟨_, _, hh, _⟩ := hI4.map
          subst e; rw [hcur] at hh; cases hh
        have lit := hI4.lt
        have lm := hI4.map.lt
        go_wp2_with (at_builtin; go_must (refine wpL_append' rfl _ _ 91 rfl idR elem91 hC5 hS4 hF hsrc rfl rfl hlen1 (by omega) ?_))
        intro v1 W1 hs1 hC1 hF1 hg1
        have hI5 : IterAt kenc ienc W1 w.heap.size m1 l (pre ++ post) := by
          cases ho : u4.ownBlock with
          | none => exact hI4.chg (S := []) (Chg.of_grown hg1 (by rw [ho]; simp)) (by simp) (by simp)
          | some g =>
            refine hI4.chg (S := [g]) (Chg.of_grown hg1 (fun k e => by rw [ho] at e; cases e; simp)) ?_ ?_
            · have := nit g ho; simp at this; simpa using fun e => this e.symm
            · have := nmm g ho; simpa using fun e => this e.symm
        have hE := idsOf_mid pre post ((k1, k2), v) k1
        simp only [if_true] at hE
        have HE := Lib.hid hE
        clear hE hI4 hS4 hsrc hC5 nit nmm hg1 hC4 hI3 hS3
        go_wp2
        go_roundg ((pre ++ post).length + 1)
        case measure => rw [Hq.out, B.out]; simp
        case rel =>
          refine ⟨_, out ++ [k2], hI5, hs1, hF1, ?_, hC1, rfl⟩
          have h1 := HP.out
          rw [B.out] at h1
          rw [List.append_assoc]
          exact ((HE.out.symm).append_left out).trans h1
      · have hcond : (k1 == s) = false := by rw [beq_eq_false_iff_ne]; exact hks
        have hE := idsOf_mid pre post ((k1, k2), v) s
        simp only [hks, if_false, List.nil_append] at hE
        have HE := Lib.hid hE
        clear hE hks
        go_wp2
        go_roundg ((pre ++ post).length + 1)
        case measure => rw [Hq.out, B.out]; simp
        case rel => exact ⟨_, out, hI3, hS3, hF, (((HE.out.symm).append_left out).trans (by have := HP.out; rw [B.out] at this; exact this)), hC4, rfl⟩
end Go.Proofs.Ytdcjfaplgpeonaa

/-
  The library's sort of int64s, laid at this program (written by the kit's own tool, the names moved).
-/
namespace Go.Proofs.Ytdcjfaplgpeonaa
open Go.Shelf
def sortL_ren : Go.Shelf.Ren := ⟨fun | 5 => 76 | 8 => 94 | 7 => 93 | 19 => 117 | 20 => 118 | 10 => 108 | 11 => 109 | 12 => 110 | 13 => 111 | 14 => 112 | 15 => 113 | 16 => 114 | 17 => 115 | 18 => 116 | 30 => 125 | 31 => 126 | 32 => 127 | 33 => 128 | 34 => 129 | 35 => 130 | 40 => 132 | n => n, fun | 23 => 91 | 25 => 2 | 3 => 3 | 32 => 172 | 22 => 91 | 0 => 0 | 44 => 210 | 46 => 176 | 4 => 4 | 36 => 203 | 35 => 202 | 41 => 40 | 5 => 5 | 9 => 9 | 53 => 217 | 57 => 221 | 63 => 223 | 64 => 224 | n => n, fun | n => n⟩
theorem sortL : Go.Proofs.SlLaysM.n5 Try.prog sortL_ren := {
  mixed := by kernel_rfl
  f5 := ⟨Try.f76.name, by decide, Try.func76.trans (congrArg some (by kernel_rfl))⟩
  f7 := ⟨Try.f93.name, by decide, Try.func93.trans (congrArg some (by kernel_rfl))⟩
  f8 := Try.func94.trans (congrArg some (by kernel_rfl))
  f10 := ⟨Try.f108.name, by decide, Try.func108.trans (congrArg some (by kernel_rfl))⟩
  f11 := ⟨Try.f109.name, by decide, Try.func109.trans (congrArg some (by kernel_rfl))⟩
  f12 := ⟨Try.f110.name, by decide, Try.func110.trans (congrArg some (by kernel_rfl))⟩
  f13 := ⟨Try.f111.name, by decide, Try.func111.trans (congrArg some (by kernel_rfl))⟩
  f14 := ⟨Try.f112.name, by decide, Try.func112.trans (congrArg some (by kernel_rfl))⟩
  f15 := ⟨Try.f113.name, by decide, Try.func113.trans (congrArg some (by kernel_rfl))⟩
  f16 := ⟨Try.f114.name, by decide, Try.func114.trans (congrArg some (by kernel_rfl))⟩
  f17 := ⟨Try.f115.name, by decide, Try.func115.trans (congrArg some (by kernel_rfl))⟩
  f18 := ⟨Try.f116.name, by decide, Try.func116.trans (congrArg some (by kernel_rfl))⟩
  f19 := Try.func117.trans (congrArg some (by kernel_rfl))
  f20 := Try.func118.trans (congrArg some (by kernel_rfl))
  f30 := ⟨Try.f125.name, by decide, Try.func125.trans (congrArg some (by kernel_rfl))⟩
  f31 := Try.func126.trans (congrArg some (by kernel_rfl))
  f32 := Try.func127.trans (congrArg some (by kernel_rfl))
  f33 := ⟨Try.f128.name, by decide, Try.func128.trans (congrArg some (by kernel_rfl))⟩
  f34 := ⟨Try.f129.name, by decide, Try.func129.trans (congrArg some (by kernel_rfl))⟩
  f35 := ⟨Try.f130.name, by decide, Try.func130.trans (congrArg some (by kernel_rfl))⟩
  f40 := ⟨Try.f132.name, by decide, Try.func132.trans (congrArg some (by kernel_rfl))⟩
  t0 := Try.underlying0
  a0 := Try.isAgg0
  z0 := Try.sizeOf0
  v0 := Try.zeroValue0
  t3 := Try.underlying3
  a3 := Try.isAgg3
  z3 := Try.sizeOf3
  v3 := Try.zeroValue3
  t4 := Try.underlying4
  a4 := Try.isAgg4
  z4 := Try.sizeOf4
  v4 := Try.zeroValue4
  t5 := Try.underlying5
  a5 := Try.isAgg5
  z5 := Try.sizeOf5
  v5 := Try.zeroValue5
  t9 := Try.underlying9
  a9 := Try.isAgg9
  z9 := Try.sizeOf9
  v9 := Try.zeroValue9
  t22 := Try.underlying91
  a22 := Try.isAgg91
  z22 := Try.sizeOf91
  v22 := Try.zeroValue91
  t23 := Try.underlying91
  a23 := Try.isAgg91
  z23 := Try.sizeOf91
  v23 := Try.zeroValue91
  t25 := Try.underlying2
  a25 := Try.isAgg2
  z25 := Try.sizeOf2
  v25 := Try.zeroValue2
  t32 := Try.underlying172
  a32 := Try.isAgg172
  z32 := Try.sizeOf172
  v32 := Try.zeroValue172
  t35 := Try.underlying202
  a35 := Try.isAgg202
  z35 := Try.sizeOf202
  v35 := Try.zeroValue202
  t36 := Try.underlying203
  a36 := Try.isAgg203
  z36 := Try.sizeOf203
  v36 := Try.zeroValue203
  t41 := Try.underlying40
  a41 := Try.isAgg40
  z41 := Try.sizeOf40
  v41 := Try.zeroValue40
  t44 := Try.underlying210
  a44 := Try.isAgg210
  z44 := Try.sizeOf210
  v44 := Try.zeroValue210
  t46 := Try.underlying176
  a46 := Try.isAgg176
  z46 := Try.sizeOf176
  v46 := Try.zeroValue176
  t53 := Try.underlying217
  a53 := Try.isAgg217
  z53 := Try.sizeOf217
  v53 := Try.zeroValue217
  t57 := Try.underlying221
  a57 := Try.isAgg221
  z57 := Try.sizeOf221
  v57 := Try.zeroValue221
  t63 := Try.underlying223
  a63 := Try.isAgg223
  z63 := Try.sizeOf223
  v63 := Try.zeroValue223
  t64 := Try.underlying224
  a64 := Try.isAgg224
  z64 := Try.sizeOf224
  v64 := Try.zeroValue224 }
end Go.Proofs.Ytdcjfaplgpeonaa

/-
  The library's sort on a slice of int64s that the call has built; a symbol's IDs, rising.
-/
namespace Go.Proofs.Ytdcjfaplgpeonaa
open Go.RowKit Go.Dm Go.Sort

theorem flat_ids (l : List Int) : l.flatMap idE = l.map (Value.int .i64) := by
  induction l with
  | nil => rfl
  | cons a l ih => rw [List.flatMap_cons, ih]; rfl
theorem srt_len (l : List Int) : (srt l).length = l.length := List.length_mergeSort _
theorem sorts_at : SortsAt := fun w v out h hlen => by
  rcases h.2 with ⟨rfl, h0⟩ | ⟨g, cap, cur, rfl, hb0, hg, hn, hc, hs, ht⟩
  · have : out = [] := by simpa using h0
    subst this
    have hc := AnyM.slices_Sort_int_none sortL none 0 w
    change Calls Try.prog 76 _ _ _ at hc
    refine hc.mono ?_
    rintro e w' ⟨he, rfl⟩
    have e0 : srt [] = [] := by simp [srt]
    rw [e0]
    exact ⟨he, h, fun B _ _ => Below.refl _ _⟩
  · rw [flat_ids, Nat.mul_one] at ht
    have hH := holds_of_blockI hg ht
    have hc1 := AnyM.slices_Sort_int sortL g 0 cap out w hH (blk_lt hg) (by omega)
    change Calls Try.prog 76 _ _ _ at hc1
    refine hc1.mono ?_
    rintro e w' ⟨he, n, os, rfl⟩
    refine ⟨he, ?_, fun B hB hF => ?_⟩
    · have := ownsRow_sortedI (n := n) (os := os) (ts := srt out) (srt_len out) hb0 hg hn hc hs
      unfold SlAt
      rw [srt_len, flat_ids]
      exact this
    · have hgr := grownBy_sortedI (w := w) (g := g) (n := n) (os := os) (srt out).toArray
      have hgB : B ≤ g := hF g rfl
      exact (Chg.of_grown hgr (S := [g]) (by simp)).below hB (by simpa using hgB)

theorem ids_rise (w : World) (x m1 m2 : Nat) (l : IL) (h : XAt w x m1 m2 l) (s : Int) (hlen : l.length ≤ 1000) :
    Calls Try.prog 62 #[.pointer (some ⟨x, 0, none⟩), .int .i64 s] w fun e w' => ∃ (v : Value) (out : List Int), e = .returned v ∧ SlAt 2 1 idE w' v (srt out) ∧ out.Perm (idsOf l s) ∧ Chg [] w w' ∧ Fresh w.heap.size v :=
  ids_any sorts_at w x m1 m2 l h s hlen
end Go.Proofs.Ytdcjfaplgpeonaa
