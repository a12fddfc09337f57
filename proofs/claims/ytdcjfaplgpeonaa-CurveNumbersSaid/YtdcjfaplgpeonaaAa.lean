/-
  Blocks of ints; the arena's block and what its small functions do.
-/
import Derived.Test.YtdcjfaplgpeonaaRx
import Derived.Deep.DeepMust
namespace Go.Dm
open Go.RowKit

def upd (c : Nat → Int) (i : Nat) (x : Int) : Nat → Int := fun k => if k = i then x else c k
@[simp] theorem upd_same (c : Nat → Int) (i : Nat) (x : Int) : upd c i x i = x := by simp [upd]
theorem upd_ne {c : Nat → Int} {i k : Nat} {x : Int} (h : k ≠ i) : upd c i x k = c k := by simp [upd, h]

/-- Block b holds N ints. -/
def IntsAt (w : World) (b t N : Nat) (c : Nat → Int) : Prop :=
  ∃ cs, w.heap[b]? = some (.cells cs t (0, 0)) ∧ cs.size = N ∧ ∀ j, j < N → cs[j]? = some (.int .i64 (c j))
theorem IntsAt.cell {w : World} {b t N : Nat} {c : Nat → Int} (h : IntsAt w b t N c) {j : Nat} (hj : j < N) : w.cell? ⟨b, j, none⟩ = some (.int .i64 (c j)) := by
  obtain ⟨cs, hb, hs, hc⟩ := h
  simp [World.cell?, hb, hc j hj]
theorem IntsAt.free {w : World} {b t N : Nat} {c : Nat → Int} (h : IntsAt w b t N c) (j : Nat) : w.frozen? ⟨b, j, none⟩ = false := by
  obtain ⟨cs, hb, hs, hc⟩ := h
  simp [World.frozen?, hb]
theorem IntsAt.lt {w : World} {b t N : Nat} {c : Nat → Int} (h : IntsAt w b t N c) : b < w.heap.size := by
  obtain ⟨cs, hb, hs, hc⟩ := h
  exact blk_lt hb
theorem IntsAt.chg {w w' : World} {b t N : Nat} {c : Nat → Int} {S : List Nat} (h : IntsAt w b t N c) (hC : Chg S w w') (hn : b ∉ S) : IntsAt w' b t N c := by
  obtain ⟨cs, hb, hs, hc⟩ := h
  exact ⟨cs, hC.at_ hb hn, hs, hc⟩
theorem IntsAt.set {w : World} {b t N : Nat} {c : Nat → Int} (h : IntsAt w b t N c) (j : Nat) (x : Int) : IntsAt (w.setCell ⟨b, j, none⟩ (.int .i64 x)) b t N (upd c j x) := by
  obtain ⟨cs, hb, hs, hc⟩ := h
  refine ⟨_, blk_set hb j _, by simpa using hs, fun k hk => ?_⟩
  by_cases e : k = j
  · subst e; simp [upd, hs, hk]
  · rw [Array.getElem?_setIfInBounds_ne (fun h => e h.symm), upd_ne e]; exact hc k hk
theorem IntsAt.ext {w : World} {b t N : Nat} {c c' : Nat → Int} (h : IntsAt w b t N c) (he : ∀ j, j < N → c j = c' j) : IntsAt w b t N c' := by
  obtain ⟨cs, hb, hs, hc⟩ := h
  exact ⟨cs, hb, hs, fun j hj => by rw [← he j hj]; exact hc j hj⟩
theorem IntsAt.ne {w : World} {b t N : Nat} {c : Nat → Int} (h : IntsAt w b t N c) {g t' : Nat} {cs : Array Value} {fr : Nat × Nat} (hb : w.heap[g]? = some (.cells cs t' fr)) (ht : t ≠ t') : g ≠ b := by
  rintro rfl
  obtain ⟨_, h, _⟩ := h
  rw [h] at hb; cases hb; exact ht rfl
end Go.Dm

namespace Go.Proofs.Ytdcjfaplgpeonaa
open Go.RowKit Go.Dm

abbrev ArAt (w : World) (b : Nat) (c : Nat → Int) : Prop := IntsAt w b 115 4003 c

theorem slot_cells {w : World} {b : Nat} {c : Nat → Int} (h : ArAt w b c) {i : Nat} (hi : i < 500) :
    w.cell? ⟨b, i * 8, none⟩ = some (.int .i64 (c (i * 8))) ∧ w.cell? ⟨b, i * 8 + 1, none⟩ = some (.int .i64 (c (i * 8 + 1))) ∧ w.cell? ⟨b, i * 8 + 2, none⟩ = some (.int .i64 (c (i * 8 + 2))) ∧ w.cell? ⟨b, i * 8 + 3, none⟩ = some (.int .i64 (c (i * 8 + 3))) ∧
    w.cell? ⟨b, i * 8 + 4, none⟩ = some (.int .i64 (c (i * 8 + 4))) ∧ w.cell? ⟨b, i * 8 + 5, none⟩ = some (.int .i64 (c (i * 8 + 5))) ∧ w.cell? ⟨b, i * 8 + 6, none⟩ = some (.int .i64 (c (i * 8 + 6))) ∧ w.cell? ⟨b, i * 8 + 7, none⟩ = some (.int .i64 (c (i * 8 + 7))) :=
  ⟨h.cell (by omega), h.cell (by omega), h.cell (by omega), h.cell (by omega), h.cell (by omega), h.cell (by omega), h.cell (by omega), h.cell (by omega)⟩
theorem slot_free {w : World} {b : Nat} {c : Nat → Int} (h : ArAt w b c) (i : Nat) :
    w.frozen? ⟨b, i * 8, none⟩ = false ∧ w.frozen? ⟨b, i * 8 + 1, none⟩ = false ∧ w.frozen? ⟨b, i * 8 + 2, none⟩ = false ∧ w.frozen? ⟨b, i * 8 + 3, none⟩ = false ∧
    w.frozen? ⟨b, i * 8 + 4, none⟩ = false ∧ w.frozen? ⟨b, i * 8 + 5, none⟩ = false ∧ w.frozen? ⟨b, i * 8 + 6, none⟩ = false ∧ w.frozen? ⟨b, i * 8 + 7, none⟩ = false :=
  ⟨h.free _, h.free _, h.free _, h.free _, h.free _, h.free _, h.free _, h.free _⟩
theorem _root_.Go.Dm.Chg.put {b j : Nat} {w W : World} {u : Value} (h : Chg [b] w W) : Chg [b] w (W.setCell ⟨b, j, none⟩ u) := h.trans (Chg.setCell W _ u (by simp))

set_option maxHeartbeats 1000000 in
theorem used09 (w : World) (b : Nat) (c : Nat → Int) (h : ArAt w b c) :
    Calls Try.prog 28 #[.pointer (some ⟨b, 0, none⟩)] w fun e w' => e = .returned (.int .i64 (c 4002)) ∧ w = w' := by
  have h2 := h.cell (j := 4002) (by omega)
  go_enter Try.func28, Try.ntmps28
  go_wp2
  go_ret
  exact ⟨rfl, rfl⟩
set_option maxHeartbeats 1000000 in
theorem room09 (w : World) (b : Nat) (c : Nat → Int) (h : ArAt w b c) (hr : IntKind.i64.wrap (c 4000 - c 4002) = c 4000 - c 4002) :
    Calls Try.prog 30 #[.pointer (some ⟨b, 0, none⟩)] w fun e w' => e = .returned (.int .i64 (c 4000 - c 4002)) ∧ Chg [] w w' := by
  have h2 := h.cell (j := 4002) (by omega)
  have h0 := h.cell (j := 4000) (by omega)
  go_enter Try.func30, Try.ntmps30
  go_wp2
  go_quiet (fail)
  go_wp2
  go_ret
  exact ⟨rfl, Chg.drewN _ _ _⟩

/-- Is slot i taken? -/
def takenI (c : Nat → Int) (i : Int) : Bool := decide (0 ≤ i) && decide (i < c 4000) && decide (c (8 * i.toNat + 7) = -2)

set_option maxHeartbeats 1000000 in
theorem at09_yes (w : World) (b : Nat) (c : Nat → Int) (h : ArAt w b c) (i : Nat) (hi : (i : Int) < c 4000) (hn : c 4000 ≤ 500) (ht : c (i * 8 + 7) = -2) :
    Calls Try.prog 55 #[.pointer (some ⟨b, 0, none⟩), .int .i64 i] w fun e w' => e = .returned (.pointer (some ⟨b, i * 8, none⟩)) ∧ Chg [] w w' := by
  have h0 := h.cell (j := 4000) (by omega)
  have h7 := h.cell (j := i * 8 + 7) (by omega)
  rw [ht] at h7
  clear ht
  have i0 : (0 : Int) ≤ (i : Int) := Int.natCast_nonneg _
  have i1 : (i : Int) < 500 := by omega
  have d1 : decide ((i : Int) < 0) = false := by simp
  have d2 : decide ((i : Int) ≥ c 4000) = false := by simp; omega
  go_enter Try.func55, Try.ntmps55
  go_wp2
  go_ret
  exact ⟨rfl, Chg.refl _ _⟩
theorem at09_no (w : World) (b : Nat) (c : Nat → Int) (h : ArAt w b c) (i : Int) (hn : c 4000 ≤ 500) (ht : takenI c i = false) :
    Calls Try.prog 55 #[.pointer (some ⟨b, 0, none⟩), .int .i64 i] w fun e w' => e = .returned (.pointer none) ∧ Chg [] w w' := by
  have h0 := h.cell (j := 4000) (by omega)
  by_cases i0 : i < 0
  · clear ht
    go_enter Try.func55, Try.ntmps55
    go_wp2
    go_ret
    exact ⟨rfl, Chg.refl _ _⟩
  · by_cases i1 : i ≥ c 4000
    · clear ht
      have d1 : decide (i < 0) = false := by simpa using i0
      have d2 : decide (i ≥ c 4000) = true := by simpa using i1
      clear i0 i1
      go_enter Try.func55, Try.ntmps55
      go_wp2
      go_ret
      exact ⟨rfl, Chg.refl _ _⟩
    · obtain ⟨k, rfl⟩ := Int.eq_ofNat_of_zero_le (show 0 ≤ i by omega)
      have h7 := h.cell (j := k * 8 + 7) (by omega)
      have d1 : decide ((k : Int) < 0) = false := by simp
      have d2 : decide ((k : Int) ≥ c 4000) = false := by simpa using i1
      have j0 : (0 : Int) ≤ (k : Int) := Int.natCast_nonneg _
      have j1 : (k : Int) < 500 := by omega
      have ht2 : (c (k * 8 + 7) != -2) = true := by
        simp only [takenI, Int.toNat_natCast] at ht
        rw [Nat.mul_comm k 8]
        have a1 : decide (0 ≤ (k : Int)) = true := by simp
        have a2 : decide ((k : Int) < c 4000) = true := by simpa using i1
        rw [a1, a2] at ht
        simpa using ht
      clear ht i0 i1
      go_enter Try.func55, Try.ntmps55
      go_wp2
      go_ret
      exact ⟨rfl, Chg.refl _ _⟩
theorem at09_nil (w : World) (i : Int) :
    Calls Try.prog 55 #[.pointer none, .int .i64 i] w fun e w' => e = .returned (.pointer none) ∧ Chg [] w w' := by
  go_enter Try.func55, Try.ntmps55
  go_wp2
  go_ret
  exact ⟨rfl, Chg.refl _ _⟩

def ordV (c : Nat → Int) (k : Nat) : Value := .agg #[.int .i64 (c k), .int .i64 (c (k + 1)), .int .i64 (c (k + 2)), .int .i64 (c (k + 3)), .int .i64 (c (k + 4)), .int .i64 (c (k + 5)), .int .i64 (c (k + 6))]
/-- An order written in at k. -/
def updO (c : Nat → Int) (k : Nat) (o : Nat → Int) : Nat → Int := upd (upd (upd (upd (upd (upd (upd c k (o 0)) (k + 1) (o 1)) (k + 2) (o 2)) (k + 3) (o 3)) (k + 4) (o 4)) (k + 5) (o 5)) (k + 6) (o 6)

set_option maxHeartbeats 1000000 in
theorem drop09_yes (w : World) (b : Nat) (c : Nat → Int) (h : ArAt w b c) (i : Nat) (hi : (i : Int) < c 4000) (hn : c 4000 ≤ 500) (ht : c (i * 8 + 7) = -2) (hw : IntKind.i64.wrap (c 4002 - 1) = c 4002 - 1) :
    Calls Try.prog 33 #[.pointer (some ⟨b, 0, none⟩), .int .i64 i] w fun e w' => e = .returned (.bool true) ∧ ArAt w' b (upd (upd (upd (updO c (i * 8) (fun _ => 0)) (i * 8 + 7) (c 4001)) 4001 i) 4002 (c 4002 - 1)) ∧ Chg [b] w w' := by
  go_enter Try.func33, Try.ntmps33
  go_wp2_with fail
  refine (at09_yes w b c h i hi hn ht).mono ?_
  rintro e W ⟨rfl, hC⟩
  have h1 := h.chg hC (by simp)
  have h41 := h1.cell (j := 4001) (by omega)
  have h42 := h1.cell (j := 4002) (by omega)
  obtain ⟨h80, h81, h82, h83, h84, h85, h86, h87⟩ := slot_cells h1 (i := i) (by omega)
  obtain ⟨f80, f81, f82, f83, f84, f85, f86, f87⟩ := slot_free h1 i
  have f41 := h1.free 4001
  have f42 := h1.free 4002
  have i1 : i < 500 := by omega
  have hb := h1.lt
  clear hi hn ht
  go_wp2
  go_ret
  exact ⟨rfl, (((((((((h1.set _ _).set _ _).set _ _).set _ _).set _ _).set _ _).set _ _).set _ _).set _ _).set _ _,
    hC.nil.put.put.put.put.put.put.put.put.put.put⟩

set_option maxRecDepth 100000 in
set_option maxHeartbeats 1000000 in
theorem drop09_no (w : World) (b : Nat) (c : Nat → Int) (h : ArAt w b c) (i : Int) (hn : c 4000 ≤ 500) (ht : takenI c i = false) :
    Calls Try.prog 33 #[.pointer (some ⟨b, 0, none⟩), .int .i64 i] w fun e w' => e = .returned (.bool false) ∧ Chg [] w w' := by
  go_enter Try.func33, Try.ntmps33
  go_wp2_with fail
  refine (at09_no w b c h i hn ht).mono ?_
  rintro e W ⟨rfl, hC⟩
  clear ht
  go_wp2
  go_ret
  exact ⟨rfl, hC⟩

def oV (o : Nat → Int) : Value := .agg #[.int .i64 (o 0), .int .i64 (o 1), .int .i64 (o 2), .int .i64 (o 3), .int .i64 (o 4), .int .i64 (o 5), .int .i64 (o 6)]
def oCs (o : Nat → Int) : Array Value := #[.int .i64 (o 0), .int .i64 (o 1), .int .i64 (o 2), .int .i64 (o 3), .int .i64 (o 4), .int .i64 (o 5), .int .i64 (o 6)]
theorem blk7 {w : World} {b : Nat} {o : Nat → Int} {t : TypeId} {fr : Nat × Nat} (h : w.heap[b]? = some (.cells (oCs o) t fr)) :
    w.cell? ⟨b, 0, none⟩ = some (.int .i64 (o 0)) ∧ w.cell? ⟨b, 1, none⟩ = some (.int .i64 (o 1)) ∧ w.cell? ⟨b, 2, none⟩ = some (.int .i64 (o 2)) ∧ w.cell? ⟨b, 3, none⟩ = some (.int .i64 (o 3)) ∧
    w.cell? ⟨b, 4, none⟩ = some (.int .i64 (o 4)) ∧ w.cell? ⟨b, 5, none⟩ = some (.int .i64 (o 5)) ∧ w.cell? ⟨b, 6, none⟩ = some (.int .i64 (o 6)) := by
  simp [World.cell?, h, oCs]

set_option maxRecDepth 100000 in
set_option maxHeartbeats 1000000 in
theorem set09_yes (w : World) (b : Nat) (c : Nat → Int) (h : ArAt w b c) (i : Nat) (hi : (i : Int) < c 4000) (hn : c 4000 ≤ 500) (ht : c (i * 8 + 7) = -2) (o : Nat → Int) :
    Calls Try.prog 34 #[.pointer (some ⟨b, 0, none⟩), .int .i64 i, oV o] w fun e w' => e = .returned (.bool true) ∧ ArAt w' b (updO c (i * 8) o) ∧ Chg [b] w w' := by
  have hb := h.lt
  have hA := Chg.alloc [] w (.cells (oCs o) 52)
  have bx : (w.alloc (.cells (oCs o) 52)).heap[w.heap.size]? = some (.cells (oCs o) 52 (0, 0)) := heap_alloc_new w _
  have hat := at09_yes _ b c (h.chg hA (by simp)) i hi hn ht
  unfold oV oCs at *
  go_enter Try.func34, Try.ntmps34
  go_wp2_with fail
  refine hat.mono ?_
  rintro e W ⟨rfl, hC⟩
  have hA1 := hA.trans hC
  have h1 := h.chg hA1 (by simp)
  obtain ⟨x0, x1, x2, x3, x4, x5, x6⟩ := blk7 (o := o) (hC.at_ bx (by simp))
  obtain ⟨h80, h81, h82, h83, h84, h85, h86, h87⟩ := slot_cells h1 (i := i) (by omega)
  obtain ⟨f80, f81, f82, f83, f84, f85, f86, f87⟩ := slot_free h1 i
  clear hat bx hC hA hi hn ht
  go_wp2
  go_ret
  exact ⟨rfl, ((((((h1.set _ _).set _ _).set _ _).set _ _).set _ _).set _ _).set _ _,
    hA1.nil.put.put.put.put.put.put.put⟩

set_option maxRecDepth 100000 in
set_option maxHeartbeats 1000000 in
theorem set09_no (w : World) (b : Nat) (c : Nat → Int) (h : ArAt w b c) (i : Int) (hn : c 4000 ≤ 500) (ht : takenI c i = false) (o : Nat → Int) :
    Calls Try.prog 34 #[.pointer (some ⟨b, 0, none⟩), .int .i64 i, oV o] w fun e w' => e = .returned (.bool false) ∧ Chg [] w w' := by
  have hA := Chg.alloc [] w (.cells (oCs o) 52)
  have hat := at09_no _ b c (h.chg hA (by simp)) i hn ht
  unfold oV oCs at *
  go_enter Try.func34, Try.ntmps34
  go_wp2_with fail
  refine hat.mono ?_
  rintro e W ⟨rfl, hC⟩
  clear ht hat
  have hA1 := hA.trans hC
  go_wp2
  go_ret
  exact ⟨rfl, hA1⟩

set_option maxRecDepth 100000 in
set_option maxHeartbeats 1000000 in
theorem take09_full (w : World) (b : Nat) (c : Nat → Int) (h : ArAt w b c) (hf : c 4001 = -1) (o : Nat → Int) :
    Calls Try.prog 24 #[.pointer (some ⟨b, 0, none⟩), oV o] w fun e w' => e = .returned (.tuple #[.int .i64 0, .int .i64 7]) ∧ Chg [] w w' := by
  have hb := h.lt
  have h41 := h.cell (j := 4001) (by omega)
  rw [hf] at h41
  clear hf
  unfold oV
  go_enter Try.func24, Try.ntmps24
  go_wp2
  go_ret2
  exact ⟨rfl, Chg.alloc _ _ _⟩
set_option maxRecDepth 100000 in
set_option maxHeartbeats 1000000 in
theorem take09_yes (w : World) (b : Nat) (c : Nat → Int) (h : ArAt w b c) (k : Nat) (hf : c 4001 = k) (hk : k < 500) (o : Nat → Int) (hw : IntKind.i64.wrap (c 4002 + 1) = c 4002 + 1) :
    Calls Try.prog 24 #[.pointer (some ⟨b, 0, none⟩), oV o] w fun e w' => e = .returned (.tuple #[.int .i64 k, .int .i64 0]) ∧
      ArAt w' b (upd (upd (updO (upd c 4001 (c (k * 8 + 7))) (k * 8) o) (k * 8 + 7) (-2)) 4002 (c 4002 + 1)) ∧ Chg [b] w w' := by
  have hb := h.lt
  have h41 := h.cell (j := 4001) (by omega)
  have h47 := h.cell (j := k * 8 + 7) (by omega)
  have f41 := h.free 4001
  rw [hf] at h41
  clear hf
  have e0 : ((k : Int) == -1) = false := by simp
  have k0 : (0 : Int) ≤ (k : Int) := Int.natCast_nonneg _
  have k1 : (k : Int) < 500 := by omega
  unfold oV
  have hA : Chg [b] w ((w.setCell ⟨b, 4001, none⟩ (.int .i64 (c (k * 8 + 7)))).alloc (.cells (oCs o) 52)) := (Chg.put (Chg.refl [b] w)).trans (Chg.alloc _ _ _)
  have h1 : ArAt ((w.setCell ⟨b, 4001, none⟩ (.int .i64 (c (k * 8 + 7)))).alloc (.cells (oCs o) 52)) b (upd c 4001 (c (k * 8 + 7))) := (h.set _ _).chg (Chg.alloc [] _ _) (by simp)
  have bx : ((w.setCell ⟨b, 4001, none⟩ (.int .i64 (c (k * 8 + 7)))).alloc (.cells (oCs o) 52)).heap[w.heap.size]? = some (.cells (oCs o) 52 (0, 0)) := by
    have := heap_alloc_new (w.setCell ⟨b, 4001, none⟩ (.int .i64 (c (k * 8 + 7)))) (.cells (oCs o) 52)
    simpa using this
  have hne : w.heap.size ≠ b := by omega
  unfold oCs at hA h1 bx
  go_enter Try.func24, Try.ntmps24
  go_wp2_with fail
  refine wp_tail 7 (by kernel_rfl) (by kernel_rfl) ?_
  intro W hW
  have hA2 := hA.trans (hW.mono (by simp))
  have h2 : ArAt W b (upd c 4001 (c (k * 8 + 7))) := h1.chg hW (by simp)
  obtain ⟨x0, x1, x2, x3, x4, x5, x6⟩ := blk7 (o := o) (hW.at_ bx (by simp))
  obtain ⟨h80, h81, h82, h83, h84, h85, h86, h87⟩ := slot_cells h2 (i := k) (by omega)
  obtain ⟨f80, f81, f82, f83, f84, f85, f86, f87⟩ := slot_free h2 k
  have h42 := h2.cell (j := 4002) (by omega)
  rw [upd_ne (by omega)] at h42
  have f42 := h2.free 4002
  have hb2 := h2.lt
  clear hW h41 h47 f41 hA h1 bx hb
  simp only [List.take_succ_cons, List.take_zero, List.drop_succ_cons, List.drop_zero]
  repeat still_step
  refine wpStill_nil ?_
  go_wp2
  go_ret2
  exact ⟨rfl, ((((((((h2.set _ _).set _ _).set _ _).set _ _).set _ _).set _ _).set _ _).set _ _).set _ _, hA2.put.put.put.put.put.put.put.put.put⟩

/-- The order at k. -/
def ordAt (c : Nat → Int) (k : Nat) : Nat → Int := fun j => c (k + j)
theorem _root_.Go.Dm.IntsAt.row7 {w : World} {g t : Nat} {c : Nat → Int} (h : IntsAt w g t 7 c) : w.heap[g]? = some (.cells (oCs c) t (0, 0)) := by
  obtain ⟨cs, hb, hs, hc⟩ := h
  rw [hb]
  congr 2
  apply Array.ext
  · simp [hs, oCs]
  · intro i h1 h2
    have h3 := hc i (by omega)
    rw [Array.getElem?_eq_getElem h1] at h3
    have h4 : i < 7 := by omega
    have h5 : cs[i] = .int .i64 (c i) := by simpa using h3
    rw [h5]
    match i, h4 with
    | 0, _ => rfl
    | 1, _ => rfl
    | 2, _ => rfl
    | 3, _ => rfl
    | 4, _ => rfl
    | 5, _ => rfl
    | 6, _ => rfl
theorem results_ord {fn : Func} {p u : Tmp} (h : fn.results = #[.cell p 52, .tmp u]) (tmps : Array Value) (w : World) (g : Nat) (c : Nat → Int) (x : Value)
    (hp : tmps.getD p undef = .pointer (some ⟨g, 0, none⟩)) (hx : tmps.getD u undef = x) (hI : IntsAt w g 52 7 c) :
    (results fn tmps).run Try.prog w = .ok (.tuple #[oV c, x]) w := by
  subst hx
  have hp' : tmps[p]?.getD undef = .pointer (some ⟨g, 0, none⟩) := by simpa using hp
  simp [results, h, hp', asAddr, run_loadVar_row w g 52 52 (oCs c) (0, 0) _ hI.row7 Try.underlying52 rfl (by kernel_rfl)]
  rfl
theorem ints_new (w : World) (t : Nat) : IntsAt (w.alloc (.cells #[.int .i64 0, .int .i64 0, .int .i64 0, .int .i64 0, .int .i64 0, .int .i64 0, .int .i64 0] t)) w.heap.size t 7 (fun _ => 0) := by
  refine ⟨_, heap_alloc_new w _, rfl, fun j hj => ?_⟩
  match j, hj with
  | 0, _ => rfl
  | 1, _ => rfl
  | 2, _ => rfl
  | 3, _ => rfl
  | 4, _ => rfl
  | 5, _ => rfl
  | 6, _ => rfl
theorem _root_.Go.Dm.IntsAt.cells7 {w : World} {g t : Nat} {c : Nat → Int} (h : IntsAt w g t 7 c) :
    w.cell? ⟨g, 0, none⟩ = some (.int .i64 (c 0)) ∧ w.cell? ⟨g, 1, none⟩ = some (.int .i64 (c 1)) ∧ w.cell? ⟨g, 2, none⟩ = some (.int .i64 (c 2)) ∧ w.cell? ⟨g, 3, none⟩ = some (.int .i64 (c 3)) ∧
    w.cell? ⟨g, 4, none⟩ = some (.int .i64 (c 4)) ∧ w.cell? ⟨g, 5, none⟩ = some (.int .i64 (c 5)) ∧ w.cell? ⟨g, 6, none⟩ = some (.int .i64 (c 6)) :=
  ⟨h.cell (by omega), h.cell (by omega), h.cell (by omega), h.cell (by omega), h.cell (by omega), h.cell (by omega), h.cell (by omega)⟩
theorem _root_.Go.Dm.IntsAt.free7 {w : World} {g t N : Nat} {c : Nat → Int} (h : IntsAt w g t N c) :
    w.frozen? ⟨g, 0, none⟩ = false ∧ w.frozen? ⟨g, 1, none⟩ = false ∧ w.frozen? ⟨g, 2, none⟩ = false ∧ w.frozen? ⟨g, 3, none⟩ = false ∧
    w.frozen? ⟨g, 4, none⟩ = false ∧ w.frozen? ⟨g, 5, none⟩ = false ∧ w.frozen? ⟨g, 6, none⟩ = false :=
  ⟨h.free _, h.free _, h.free _, h.free _, h.free _, h.free _, h.free _⟩
theorem _root_.Go.Dm.Chg.putNew {w W : World} {g j : Nat} {u : Value} (h : Chg [] w W) (hg : w.heap.size ≤ g) : Chg [] w (W.setCell ⟨g, j, none⟩ u) :=
  h.trans' (Chg.setCell (S := [g]) W ⟨g, j, none⟩ u (by simp)) (by simp) (by simp; omega)

set_option maxRecDepth 100000 in
set_option maxHeartbeats 1000000 in
theorem get09_yes (w : World) (b : Nat) (c : Nat → Int) (h : ArAt w b c) (i : Nat) (hi : (i : Int) < c 4000) (hn : c 4000 ≤ 500) (ht : c (i * 8 + 7) = -2) :
    Calls Try.prog 25 #[.pointer (some ⟨b, 0, none⟩), .int .i64 i] w fun e w' => e = .returned (.tuple #[oV (ordAt c (i * 8)), .bool true]) ∧ Chg [] w w' := by
  have hb := h.lt
  have hA := Chg.alloc [] w (.cells #[.int .i64 0, .int .i64 0, .int .i64 0, .int .i64 0, .int .i64 0, .int .i64 0, .int .i64 0] 52)
  have hI := ints_new w 52
  have hat := at09_yes _ b c (h.chg hA (by simp)) i hi hn ht
  go_enter Try.func25, Try.ntmps25
  go_wp2_with fail
  refine hat.mono ?_
  rintro e W ⟨rfl, hC⟩
  have hA1 := hA.trans hC
  have h1 := h.chg hA1 (by simp)
  have hI1 := hI.chg hC (by simp)
  obtain ⟨x0, x1, x2, x3, x4, x5, x6⟩ := hI1.cells7
  obtain ⟨f0, f1, f2, f3, f4, f5, f6⟩ := hI1.free7
  obtain ⟨h80, h81, h82, h83, h84, h85, h86, h87⟩ := slot_cells h1 (i := i) (by omega)
  have hb2 := h1.lt
  have hb3 := hI1.lt
  clear hat hC hA hi hn ht hI
  go_wp2
  refine bodyPost_ret (results_ord rfl _ _ w.heap.size _ _ rfl rfl (((((((hI1.set _ _).set _ _).set _ _).set _ _).set _ _).set _ _).set _ _)) rfl ?_
  exact ⟨rfl, ((((((hA1.putNew (Nat.le_refl _)).putNew (Nat.le_refl _)).putNew (Nat.le_refl _)).putNew (Nat.le_refl _)).putNew (Nat.le_refl _)).putNew (Nat.le_refl _)).putNew (Nat.le_refl _)⟩

set_option maxRecDepth 100000 in
set_option maxHeartbeats 1000000 in
theorem get09_no (w : World) (b : Nat) (c : Nat → Int) (h : ArAt w b c) (i : Int) (hn : c 4000 ≤ 500) (ht : takenI c i = false) :
    Calls Try.prog 25 #[.pointer (some ⟨b, 0, none⟩), .int .i64 i] w fun e w' => e = .returned (.tuple #[oV (fun _ => 0), .bool false]) ∧ Chg [] w w' := by
  have hb := h.lt
  have hA := Chg.alloc [] w (.cells #[.int .i64 0, .int .i64 0, .int .i64 0, .int .i64 0, .int .i64 0, .int .i64 0, .int .i64 0] 52)
  have hI := ints_new w 52
  have hat := at09_no _ b c (h.chg hA (by simp)) i hn ht
  go_enter Try.func25, Try.ntmps25
  go_wp2_with fail
  refine hat.mono ?_
  rintro e W ⟨rfl, hC⟩
  have hA1 := hA.trans hC
  have hI1 := hI.chg hC (by simp)
  obtain ⟨x0, x1, x2, x3, x4, x5, x6⟩ := hI1.cells7
  obtain ⟨f0, f1, f2, f3, f4, f5, f6⟩ := hI1.free7
  have hb3 := hI1.lt
  clear hat hC hA hn ht hI
  go_wp2
  refine bodyPost_ret (results_ord rfl _ _ w.heap.size _ _ rfl rfl (((((((hI1.set _ _).set _ _).set _ _).set _ _).set _ _).set _ _).set _ _)) rfl ?_
  exact ⟨rfl, ((((((hA1.putNew (Nat.le_refl _)).putNew (Nat.le_refl _)).putNew (Nat.le_refl _)).putNew (Nat.le_refl _)).putNew (Nat.le_refl _)).putNew (Nat.le_refl _)).putNew (Nat.le_refl _)⟩
end Go.Proofs.Ytdcjfaplgpeonaa
