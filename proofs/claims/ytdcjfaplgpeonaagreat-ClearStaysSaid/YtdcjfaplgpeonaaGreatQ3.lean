/-
  Blocks of ints; the arena's block and what its small functions do.
-/
import Derived.Deep.DeepMust
import Derived.Deep.OwnRows
import Derived.Shelf.SlGeneric
import Derived.Shelf.SortM.Plain
import Derived.Ground.SlgmProg
import Derived.Shelf.SortM.SortNone
import Derived.Sort.OwnSortedInts
import Derived.Test.YtdcjfaplgpeonaaGreatQ2
import Derived.Test.YtdcjfaplgpeonaaGreatRows
namespace Go.Dm
open Go.RowKit

def upd (c : Nat → Int) (i : Nat) (x : Int) : Nat → Int := fun k => if k = i then x else c k
@[simp] theorem upd_same (c : Nat → Int) (i : Nat) (x : Int) : upd c i x i = x := by simp [upd]
theorem upd_ne {c : Nat → Int} {i k : Nat} {x : Int} (h : k ≠ i) : upd c i x k = c k := by simp [upd, h]

/-- Block b holds N ints. -/
def IntsAt (w : World) (b t N : Nat) (c : Nat → Int) : Prop :=
  ∃ cs, w.heap[b]? = some (.cells cs t (0, 0)) ∧ cs.size = N ∧ ∀ j, j < N → cs[j]? = some (.int .i64 (c j))
theorem IntsAt.cell {w : World} {b t N : Nat} {c : Nat → Int} (h : IntsAt w b t N c) {j : Nat} (hj : j < N) : w.cell? ⟨b, j, none⟩ = some (.int .i64 (c j)) := by
  obtain ⟨cs, hb, hs, hc⟩ := h
  simp [World.cell?, hb, hc j hj]
theorem IntsAt.free {w : World} {b t N : Nat} {c : Nat → Int} (h : IntsAt w b t N c) (j : Nat) : w.frozen? ⟨b, j, none⟩ = false := by
  obtain ⟨cs, hb, hs, hc⟩ := h
  simp [World.frozen?, hb]
theorem IntsAt.lt {w : World} {b t N : Nat} {c : Nat → Int} (h : IntsAt w b t N c) : b < w.heap.size := by
  obtain ⟨cs, hb, hs, hc⟩ := h
  exact blk_lt hb
theorem IntsAt.chg {w w' : World} {b t N : Nat} {c : Nat → Int} {S : List Nat} (h : IntsAt w b t N c) (hC : Chg S w w') (hn : b ∉ S) : IntsAt w' b t N c := by
  obtain ⟨cs, hb, hs, hc⟩ := h
  exact ⟨cs, hC.at_ hb hn, hs, hc⟩
theorem IntsAt.set {w : World} {b t N : Nat} {c : Nat → Int} (h : IntsAt w b t N c) (j : Nat) (x : Int) : IntsAt (w.setCell ⟨b, j, none⟩ (.int .i64 x)) b t N (upd c j x) := by
  obtain ⟨cs, hb, hs, hc⟩ := h
  refine ⟨_, blk_set hb j _, by simpa using hs, fun k hk => ?_⟩
  by_cases e : k = j
  · subst e; simp [upd, hs, hk]
  · rw [Array.getElem?_setIfInBounds_ne (fun h => e h.symm), upd_ne e]; exact hc k hk
theorem IntsAt.ext {w : World} {b t N : Nat} {c c' : Nat → Int} (h : IntsAt w b t N c) (he : ∀ j, j < N → c j = c' j) : IntsAt w b t N c' := by
  obtain ⟨cs, hb, hs, hc⟩ := h
  exact ⟨cs, hb, hs, fun j hj => by rw [← he j hj]; exact hc j hj⟩
theorem IntsAt.ne {w : World} {b t N : Nat} {c : Nat → Int} (h : IntsAt w b t N c) {g t' : Nat} {cs : Array Value} {fr : Nat × Nat} (hb : w.heap[g]? = some (.cells cs t' fr)) (ht : t ≠ t') : g ≠ b := by
  rintro rfl
  obtain ⟨_, h, _⟩ := h
  rw [h] at hb; cases hb; exact ht rfl
end Go.Dm

namespace Go.Proofs.YtdcjfaplgpeonaaGreat
open Go.RowKit Go.Dm

abbrev ArAt (w : World) (b : Nat) (c : Nat → Int) : Prop := IntsAt w b 135 4003 c

theorem slot_cells {w : World} {b : Nat} {c : Nat → Int} (h : ArAt w b c) {i : Nat} (hi : i < 500) :
    w.cell? ⟨b, i * 8, none⟩ = some (.int .i64 (c (i * 8))) ∧ w.cell? ⟨b, i * 8 + 1, none⟩ = some (.int .i64 (c (i * 8 + 1))) ∧ w.cell? ⟨b, i * 8 + 2, none⟩ = some (.int .i64 (c (i * 8 + 2))) ∧ w.cell? ⟨b, i * 8 + 3, none⟩ = some (.int .i64 (c (i * 8 + 3))) ∧
    w.cell? ⟨b, i * 8 + 4, none⟩ = some (.int .i64 (c (i * 8 + 4))) ∧ w.cell? ⟨b, i * 8 + 5, none⟩ = some (.int .i64 (c (i * 8 + 5))) ∧ w.cell? ⟨b, i * 8 + 6, none⟩ = some (.int .i64 (c (i * 8 + 6))) ∧ w.cell? ⟨b, i * 8 + 7, none⟩ = some (.int .i64 (c (i * 8 + 7))) :=
  ⟨h.cell (by omega), h.cell (by omega), h.cell (by omega), h.cell (by omega), h.cell (by omega), h.cell (by omega), h.cell (by omega), h.cell (by omega)⟩
theorem slot_free {w : World} {b : Nat} {c : Nat → Int} (h : ArAt w b c) (i : Nat) :
    w.frozen? ⟨b, i * 8, none⟩ = false ∧ w.frozen? ⟨b, i * 8 + 1, none⟩ = false ∧ w.frozen? ⟨b, i * 8 + 2, none⟩ = false ∧ w.frozen? ⟨b, i * 8 + 3, none⟩ = false ∧
    w.frozen? ⟨b, i * 8 + 4, none⟩ = false ∧ w.frozen? ⟨b, i * 8 + 5, none⟩ = false ∧ w.frozen? ⟨b, i * 8 + 6, none⟩ = false ∧ w.frozen? ⟨b, i * 8 + 7, none⟩ = false :=
  ⟨h.free _, h.free _, h.free _, h.free _, h.free _, h.free _, h.free _, h.free _⟩
theorem _root_.Go.Dm.Chg.put {b j : Nat} {w W : World} {u : Value} (h : Chg [b] w W) : Chg [b] w (W.setCell ⟨b, j, none⟩ u) := h.trans (Chg.setCell W _ u (by simp))

set_option maxHeartbeats 1000000 in
theorem room09 (w : World) (b : Nat) (c : Nat → Int) (h : ArAt w b c) (hr : IntKind.i64.wrap (c 4000 - c 4002) = c 4000 - c 4002) :
    Calls Tryz.prog 72 #[.pointer (some ⟨b, 0, none⟩)] w fun e w' => e = .returned (.int .i64 (c 4000 - c 4002)) ∧ Chg [] w w' := by
  have h2 := h.cell (j := 4002) (by omega)
  have h0 := h.cell (j := 4000) (by omega)
  go_enter Tryz.func72, Tryz.ntmps72
  go_wp2
  go_quiet (fail)
  go_wp2
  go_ret
  exact ⟨rfl, Chg.drewN _ _ _⟩

/-- Is slot i taken? -/
def takenI (c : Nat → Int) (i : Int) : Bool := decide (0 ≤ i) && decide (i < c 4000) && decide (c (8 * i.toNat + 7) = -2)

set_option maxHeartbeats 1000000 in
theorem at09_yes (w : World) (b : Nat) (c : Nat → Int) (h : ArAt w b c) (i : Nat) (hi : (i : Int) < c 4000) (hn : c 4000 ≤ 500) (ht : c (i * 8 + 7) = -2) :
    Calls Tryz.prog 95 #[.pointer (some ⟨b, 0, none⟩), .int .i64 i] w fun e w' => e = .returned (.pointer (some ⟨b, i * 8, none⟩)) ∧ Chg [] w w' := by
  have h0 := h.cell (j := 4000) (by omega)
  have h7 := h.cell (j := i * 8 + 7) (by omega)
  rw [ht] at h7
  clear ht
  have i0 : (0 : Int) ≤ (i : Int) := Int.natCast_nonneg _
  have i1 : (i : Int) < 500 := by omega
  have d1 : decide ((i : Int) < 0) = false := by simp
  have d2 : decide ((i : Int) ≥ c 4000) = false := by simp; omega
  go_enter Tryz.func95, Tryz.ntmps95
  go_wp2
  go_ret
  exact ⟨rfl, Chg.refl _ _⟩
theorem at09_no (w : World) (b : Nat) (c : Nat → Int) (h : ArAt w b c) (i : Int) (hn : c 4000 ≤ 500) (ht : takenI c i = false) :
    Calls Tryz.prog 95 #[.pointer (some ⟨b, 0, none⟩), .int .i64 i] w fun e w' => e = .returned (.pointer none) ∧ Chg [] w w' := by
  have h0 := h.cell (j := 4000) (by omega)
  by_cases i0 : i < 0
  · clear ht
    go_enter Tryz.func95, Tryz.ntmps95
    go_wp2
    go_ret
    exact ⟨rfl, Chg.refl _ _⟩
  · by_cases i1 : i ≥ c 4000
    · clear ht
      have d1 : decide (i < 0) = false := by simpa using i0
      have d2 : decide (i ≥ c 4000) = true := by simpa using i1
      clear i0 i1
      go_enter Tryz.func95, Tryz.ntmps95
      go_wp2
      go_ret
      exact ⟨rfl, Chg.refl _ _⟩
    · obtain ⟨k, rfl⟩ := Int.eq_ofNat_of_zero_le (show 0 ≤ i by omega)
      have h7 := h.cell (j := k * 8 + 7) (by omega)
      have d1 : decide ((k : Int) < 0) = false := by simp
      have d2 : decide ((k : Int) ≥ c 4000) = false := by simpa using i1
      have j0 : (0 : Int) ≤ (k : Int) := Int.natCast_nonneg _
      have j1 : (k : Int) < 500 := by omega
      have ht2 : (c (k * 8 + 7) != -2) = true := by
        simp only [takenI, Int.toNat_natCast] at ht
        rw [Nat.mul_comm k 8]
        have a1 : decide (0 ≤ (k : Int)) = true := by simp
        have a2 : decide ((k : Int) < c 4000) = true := by simpa using i1
        rw [a1, a2] at ht
        simpa using ht
      clear ht i0 i1
      go_enter Tryz.func95, Tryz.ntmps95
      go_wp2
      go_ret
      exact ⟨rfl, Chg.refl _ _⟩
theorem at09_nil (w : World) (i : Int) :
    Calls Tryz.prog 95 #[.pointer none, .int .i64 i] w fun e w' => e = .returned (.pointer none) ∧ Chg [] w w' := by
  go_enter Tryz.func95, Tryz.ntmps95
  go_wp2
  go_ret
  exact ⟨rfl, Chg.refl _ _⟩

def ordV (c : Nat → Int) (k : Nat) : Value := .agg #[.int .i64 (c k), .int .i64 (c (k + 1)), .int .i64 (c (k + 2)), .int .i64 (c (k + 3)), .int .i64 (c (k + 4)), .int .i64 (c (k + 5)), .int .i64 (c (k + 6))]
/-- An order written in at k. -/
def updO (c : Nat → Int) (k : Nat) (o : Nat → Int) : Nat → Int := upd (upd (upd (upd (upd (upd (upd c k (o 0)) (k + 1) (o 1)) (k + 2) (o 2)) (k + 3) (o 3)) (k + 4) (o 4)) (k + 5) (o 5)) (k + 6) (o 6)

def oV (o : Nat → Int) : Value := .agg #[.int .i64 (o 0), .int .i64 (o 1), .int .i64 (o 2), .int .i64 (o 3), .int .i64 (o 4), .int .i64 (o 5), .int .i64 (o 6)]
def oCs (o : Nat → Int) : Array Value := #[.int .i64 (o 0), .int .i64 (o 1), .int .i64 (o 2), .int .i64 (o 3), .int .i64 (o 4), .int .i64 (o 5), .int .i64 (o 6)]
theorem blk7 {w : World} {b : Nat} {o : Nat → Int} {t : TypeId} {fr : Nat × Nat} (h : w.heap[b]? = some (.cells (oCs o) t fr)) :
    w.cell? ⟨b, 0, none⟩ = some (.int .i64 (o 0)) ∧ w.cell? ⟨b, 1, none⟩ = some (.int .i64 (o 1)) ∧ w.cell? ⟨b, 2, none⟩ = some (.int .i64 (o 2)) ∧ w.cell? ⟨b, 3, none⟩ = some (.int .i64 (o 3)) ∧
    w.cell? ⟨b, 4, none⟩ = some (.int .i64 (o 4)) ∧ w.cell? ⟨b, 5, none⟩ = some (.int .i64 (o 5)) ∧ w.cell? ⟨b, 6, none⟩ = some (.int .i64 (o 6)) := by
  simp [World.cell?, h, oCs]

set_option maxRecDepth 100000 in
set_option maxHeartbeats 1000000 in
theorem take09_full (w : World) (b : Nat) (c : Nat → Int) (h : ArAt w b c) (hf : c 4001 = -1) (o : Nat → Int) :
    Calls Tryz.prog 52 #[.pointer (some ⟨b, 0, none⟩), oV o] w fun e w' => e = .returned (.tuple #[.int .i64 0, .int .i64 7]) ∧ Chg [] w w' := by
  have hb := h.lt
  have h41 := h.cell (j := 4001) (by omega)
  rw [hf] at h41
  clear hf
  unfold oV
  go_enter Tryz.func52, Tryz.ntmps52
  go_wp2
  go_ret2
  exact ⟨rfl, Chg.alloc _ _ _⟩
set_option maxRecDepth 100000 in
set_option maxHeartbeats 1000000 in
theorem take09_yes (w : World) (b : Nat) (c : Nat → Int) (h : ArAt w b c) (k : Nat) (hf : c 4001 = k) (hk : k < 500) (o : Nat → Int) (hw : IntKind.i64.wrap (c 4002 + 1) = c 4002 + 1) :
    Calls Tryz.prog 52 #[.pointer (some ⟨b, 0, none⟩), oV o] w fun e w' => e = .returned (.tuple #[.int .i64 k, .int .i64 0]) ∧
      ArAt w' b (upd (upd (updO (upd c 4001 (c (k * 8 + 7))) (k * 8) o) (k * 8 + 7) (-2)) 4002 (c 4002 + 1)) ∧ Chg [b] w w' := by
  have hb := h.lt
  have h41 := h.cell (j := 4001) (by omega)
  have h47 := h.cell (j := k * 8 + 7) (by omega)
  have f41 := h.free 4001
  rw [hf] at h41
  clear hf
  have e0 : ((k : Int) == -1) = false := by simp
  have k0 : (0 : Int) ≤ (k : Int) := Int.natCast_nonneg _
  have k1 : (k : Int) < 500 := by omega
  unfold oV
  have hA : Chg [b] w ((w.setCell ⟨b, 4001, none⟩ (.int .i64 (c (k * 8 + 7)))).alloc (.cells (oCs o) 52)) := (Chg.put (Chg.refl [b] w)).trans (Chg.alloc _ _ _)
  have h1 : ArAt ((w.setCell ⟨b, 4001, none⟩ (.int .i64 (c (k * 8 + 7)))).alloc (.cells (oCs o) 52)) b (upd c 4001 (c (k * 8 + 7))) := (h.set _ _).chg (Chg.alloc [] _ _) (by simp)
  have bx : ((w.setCell ⟨b, 4001, none⟩ (.int .i64 (c (k * 8 + 7)))).alloc (.cells (oCs o) 52)).heap[w.heap.size]? = some (.cells (oCs o) 52 (0, 0)) := by
    have := heap_alloc_new (w.setCell ⟨b, 4001, none⟩ (.int .i64 (c (k * 8 + 7)))) (.cells (oCs o) 52)
    simpa using this
  have hne : w.heap.size ≠ b := by omega
  unfold oCs at hA h1 bx
  go_enter Tryz.func52, Tryz.ntmps52
  go_wp2_with fail
  refine wp_tail 7 (by kernel_rfl) (by kernel_rfl) ?_
  intro W hW
  have hA2 := hA.trans (hW.mono (by simp))
  have h2 : ArAt W b (upd c 4001 (c (k * 8 + 7))) := h1.chg hW (by simp)
  obtain ⟨x0, x1, x2, x3, x4, x5, x6⟩ := blk7 (o := o) (hW.at_ bx (by simp))
  obtain ⟨h80, h81, h82, h83, h84, h85, h86, h87⟩ := slot_cells h2 (i := k) (by omega)
  obtain ⟨f80, f81, f82, f83, f84, f85, f86, f87⟩ := slot_free h2 k
  have h42 := h2.cell (j := 4002) (by omega)
  rw [upd_ne (by omega)] at h42
  have f42 := h2.free 4002
  have hb2 := h2.lt
  clear hW h41 h47 f41 hA h1 bx hb
  simp only [List.take_succ_cons, List.take_zero, List.drop_succ_cons, List.drop_zero]
  repeat still_step
  refine wpStill_nil ?_
  go_wp2
  go_ret2
  exact ⟨rfl, ((((((((h2.set _ _).set _ _).set _ _).set _ _).set _ _).set _ _).set _ _).set _ _).set _ _, hA2.put.put.put.put.put.put.put.put.put⟩

/-- The order at k. -/
def ordAt (c : Nat → Int) (k : Nat) : Nat → Int := fun j => c (k + j)
theorem _root_.Go.Dm.IntsAt.row7 {w : World} {g t : Nat} {c : Nat → Int} (h : IntsAt w g t 7 c) : w.heap[g]? = some (.cells (oCs c) t (0, 0)) := by
  obtain ⟨cs, hb, hs, hc⟩ := h
  rw [hb]
  congr 2
  apply Array.ext
  · simp [hs, oCs]
  · intro i h1 h2
    have h3 := hc i (by omega)
    rw [Array.getElem?_eq_getElem h1] at h3
    have h4 : i < 7 := by omega
    have h5 : cs[i] = .int .i64 (c i) := by simpa using h3
    rw [h5]
    match i, h4 with
    | 0, _ => rfl
    | 1, _ => rfl
    | 2, _ => rfl
    | 3, _ => rfl
    | 4, _ => rfl
    | 5, _ => rfl
    | 6, _ => rfl
theorem results_ord {fn : Func} {p u : Tmp} (h : fn.results = #[.cell p 52, .tmp u]) (tmps : Array Value) (w : World) (g : Nat) (c : Nat → Int) (x : Value)
    (hp : tmps.getD p undef = .pointer (some ⟨g, 0, none⟩)) (hx : tmps.getD u undef = x) (hI : IntsAt w g 52 7 c) :
    (results fn tmps).run Tryz.prog w = .ok (.tuple #[oV c, x]) w := by
  subst hx
  have hp' : tmps[p]?.getD undef = .pointer (some ⟨g, 0, none⟩) := by simpa using hp
  simp [results, h, hp', asAddr, run_loadVar_row w g 52 52 (oCs c) (0, 0) _ hI.row7 Tryz.underlying52 rfl (by kernel_rfl)]
  rfl
theorem ints_new (w : World) (t : Nat) : IntsAt (w.alloc (.cells #[.int .i64 0, .int .i64 0, .int .i64 0, .int .i64 0, .int .i64 0, .int .i64 0, .int .i64 0] t)) w.heap.size t 7 (fun _ => 0) := by
  refine ⟨_, heap_alloc_new w _, rfl, fun j hj => ?_⟩
  match j, hj with
  | 0, _ => rfl
  | 1, _ => rfl
  | 2, _ => rfl
  | 3, _ => rfl
  | 4, _ => rfl
  | 5, _ => rfl
  | 6, _ => rfl
theorem _root_.Go.Dm.IntsAt.cells7 {w : World} {g t : Nat} {c : Nat → Int} (h : IntsAt w g t 7 c) :
    w.cell? ⟨g, 0, none⟩ = some (.int .i64 (c 0)) ∧ w.cell? ⟨g, 1, none⟩ = some (.int .i64 (c 1)) ∧ w.cell? ⟨g, 2, none⟩ = some (.int .i64 (c 2)) ∧ w.cell? ⟨g, 3, none⟩ = some (.int .i64 (c 3)) ∧
    w.cell? ⟨g, 4, none⟩ = some (.int .i64 (c 4)) ∧ w.cell? ⟨g, 5, none⟩ = some (.int .i64 (c 5)) ∧ w.cell? ⟨g, 6, none⟩ = some (.int .i64 (c 6)) :=
  ⟨h.cell (by omega), h.cell (by omega), h.cell (by omega), h.cell (by omega), h.cell (by omega), h.cell (by omega), h.cell (by omega)⟩
theorem _root_.Go.Dm.IntsAt.free7 {w : World} {g t N : Nat} {c : Nat → Int} (h : IntsAt w g t N c) :
    w.frozen? ⟨g, 0, none⟩ = false ∧ w.frozen? ⟨g, 1, none⟩ = false ∧ w.frozen? ⟨g, 2, none⟩ = false ∧ w.frozen? ⟨g, 3, none⟩ = false ∧
    w.frozen? ⟨g, 4, none⟩ = false ∧ w.frozen? ⟨g, 5, none⟩ = false ∧ w.frozen? ⟨g, 6, none⟩ = false :=
  ⟨h.free _, h.free _, h.free _, h.free _, h.free _, h.free _, h.free _⟩
theorem _root_.Go.Dm.Chg.putNew {w W : World} {g j : Nat} {u : Value} (h : Chg [] w W) (hg : w.heap.size ≤ g) : Chg [] w (W.setCell ⟨g, j, none⟩ u) :=
  h.trans' (Chg.setCell (S := [g]) W ⟨g, j, none⟩ u (by simp)) (by simp) (by simp; omega)

set_option maxRecDepth 100000 in
set_option maxHeartbeats 1000000 in
theorem get09_yes (w : World) (b : Nat) (c : Nat → Int) (h : ArAt w b c) (i : Nat) (hi : (i : Int) < c 4000) (hn : c 4000 ≤ 500) (ht : c (i * 8 + 7) = -2) :
    Calls Tryz.prog 81 #[.pointer (some ⟨b, 0, none⟩), .int .i64 i] w fun e w' => e = .returned (.tuple #[oV (ordAt c (i * 8)), .bool true]) ∧ Chg [] w w' := by
  have hb := h.lt
  have hA := Chg.alloc [] w (.cells #[.int .i64 0, .int .i64 0, .int .i64 0, .int .i64 0, .int .i64 0, .int .i64 0, .int .i64 0] 52)
  have hI := ints_new w 52
  have hat := at09_yes _ b c (h.chg hA (by simp)) i hi hn ht
  go_enter Tryz.func81, Tryz.ntmps81
  go_wp2_with fail
  refine hat.mono ?_
  rintro e W ⟨rfl, hC⟩
  have hA1 := hA.trans hC
  have h1 := h.chg hA1 (by simp)
  have hI1 := hI.chg hC (by simp)
  obtain ⟨x0, x1, x2, x3, x4, x5, x6⟩ := hI1.cells7
  obtain ⟨f0, f1, f2, f3, f4, f5, f6⟩ := hI1.free7
  obtain ⟨h80, h81, h82, h83, h84, h85, h86, h87⟩ := slot_cells h1 (i := i) (by omega)
  have hb2 := h1.lt
  have hb3 := hI1.lt
  clear hat hC hA hi hn ht hI
  go_wp2
  refine bodyPost_ret (results_ord rfl _ _ w.heap.size _ _ rfl rfl (((((((hI1.set _ _).set _ _).set _ _).set _ _).set _ _).set _ _).set _ _)) rfl ?_
  exact ⟨rfl, ((((((hA1.putNew (Nat.le_refl _)).putNew (Nat.le_refl _)).putNew (Nat.le_refl _)).putNew (Nat.le_refl _)).putNew (Nat.le_refl _)).putNew (Nat.le_refl _)).putNew (Nat.le_refl _)⟩

set_option maxRecDepth 100000 in
set_option maxHeartbeats 1000000 in
theorem get09_no (w : World) (b : Nat) (c : Nat → Int) (h : ArAt w b c) (i : Int) (hn : c 4000 ≤ 500) (ht : takenI c i = false) :
    Calls Tryz.prog 81 #[.pointer (some ⟨b, 0, none⟩), .int .i64 i] w fun e w' => e = .returned (.tuple #[oV (fun _ => 0), .bool false]) ∧ Chg [] w w' := by
  have hb := h.lt
  have hA := Chg.alloc [] w (.cells #[.int .i64 0, .int .i64 0, .int .i64 0, .int .i64 0, .int .i64 0, .int .i64 0, .int .i64 0] 52)
  have hI := ints_new w 52
  have hat := at09_no _ b c (h.chg hA (by simp)) i hn ht
  go_enter Tryz.func81, Tryz.ntmps81
  go_wp2_with fail
  refine hat.mono ?_
  rintro e W ⟨rfl, hC⟩
  have hA1 := hA.trans hC
  have hI1 := hI.chg hC (by simp)
  obtain ⟨x0, x1, x2, x3, x4, x5, x6⟩ := hI1.cells7
  obtain ⟨f0, f1, f2, f3, f4, f5, f6⟩ := hI1.free7
  have hb3 := hI1.lt
  clear hat hC hA hn ht hI
  go_wp2
  refine bodyPost_ret (results_ord rfl _ _ w.heap.size _ _ rfl rfl (((((((hI1.set _ _).set _ _).set _ _).set _ _).set _ _).set _ _).set _ _)) rfl ?_
  exact ⟨rfl, ((((((hA1.putNew (Nat.le_refl _)).putNew (Nat.le_refl _)).putNew (Nat.le_refl _)).putNew (Nat.le_refl _)).putNew (Nat.le_refl _)).putNew (Nat.le_refl _)).putNew (Nat.le_refl _)⟩
end Go.Proofs.YtdcjfaplgpeonaaGreat

/-
  A new arena.
-/
namespace Go.Proofs.YtdcjfaplgpeonaaGreat
open Go.RowKit Go.Dm

theorem zero115 : Tryz.zeroCells135 = Array.replicate 4003 (.int .i64 0) := by kernel_rfl
/-- What stands in a new arena's block behind i rounds of its loop. -/
def newR (n i : Nat) : Nat → Int := fun k => if k = 4000 then n else if k % 8 = 7 ∧ k / 8 < i then (k / 8 : Nat) + 1 else 0
def newC (n : Nat) : Nat → Int := upd (newR n n) ((n - 1) * 8 + 7) (-1)
theorem new_at (w : World) (n : Nat) : ArAt (w.alloc (.cells (Tryz.zeroCells135.setIfInBounds 4000 (.int .i64 n)) 135)) w.heap.size (newR n 0) := by
  rw [zero115]
  refine ⟨_, heap_alloc_new w _, by simp, fun j hj => ?_⟩
  by_cases e : j = 4000
  · subst e; simp [newR]
  · rw [Array.getElem?_setIfInBounds_ne (fun h => e h.symm)]; simp [newR, e, hj]

def NewRel (w : World) (n : Nat) (m : Nat) (i : Value) (wr : World) : Prop :=
  ∃ k : Nat, k ≤ n ∧ m = n - k + 1 ∧ i = .int .i64 k ∧ ArAt wr w.heap.size (newR n k) ∧ Chg [] w wr

set_option maxRecDepth 100000 in
set_option maxHeartbeats 1000000 in
theorem new09 (w : World) (n : Nat) (h0 : 1 ≤ n) (h1 : n ≤ 500) :
    Calls Tryz.prog 44 #[.int .i64 n] w fun e w' => e = .returned (.tuple #[.pointer (some ⟨w.heap.size, 0, none⟩), .int .i64 0]) ∧ ArAt w' w.heap.size (newC n) ∧ Chg [] w w' := by
  have d1 : decide ((n : Int) < 1) = false := by simp; omega
  have d2 : decide ((n : Int) > 500) = false := by simp; omega
  have hN := new_at w n
  have hA := Chg.alloc [] w (.cells (Tryz.zeroCells135.setIfInBounds 4000 (.int .i64 n)) 135)
  go_enter Tryz.func44, Tryz.ntmps44
  go_wp2_with fail
  go_loopg [16] (n + 1) (fun m i wr => NewRel w n m i wr)
  case atStart => exact ⟨0, Nat.zero_le _, rfl, rfl, hN, hA⟩
  case round =>
    clear hN hA d1 d2
    obtain ⟨k, hk, hm, rfl, hI, hC⟩ := hrel
    have Hm := Lib.hid hm
    clear hm
    by_cases hlt : k < n
    · have k0 : (0 : Int) ≤ (k : Int) := Int.natCast_nonneg _
      have k1 : (k : Int) < 500 := by omega
      have k2 : (k : Int) < (n : Int) := by omega
      have h7 := hI.cell (j := k * 8 + 7) (by omega)
      have f7 := hI.free (k * 8 + 7)
      have hb := hI.lt
      clear hk
      go_wp2
      go_roundg (n - (k + 1) + 1)
      case measure => rw [Hm.out]; omega
      case rel =>
        refine ⟨k + 1, by omega, rfl, by go_num, (hI.set _ _).ext fun j hj => ?_, hC.putNew (Nat.le_refl _)⟩
        unfold upd newR
        by_cases e : j = k * 8 + 7
        · subst e
          have h1 : k * 8 + 7 ≠ 4000 := by omega
          have h2 : (k * 8 + 7) % 8 = 7 := by omega
          have h3 : (k * 8 + 7) / 8 = k := by omega
          simp only [h1, h2, h3, if_true, if_false, true_and]
          rw [if_pos (by omega)]
          all_goals go_num
        · rw [if_neg e]
          by_cases e2 : j = 4000
          · simp [e2]
          · rw [if_neg e2, if_neg e2]
            have : (j % 8 = 7 ∧ j / 8 < k) ↔ (j % 8 = 7 ∧ j / 8 < k + 1) := by omega
            simp only [this]
    · have hkn : k = n := by omega
      subst hkn
      have k1 : (0 : Int) ≤ (k : Int) - 1 := by omega
      have k2 : (k : Int) - 1 < 500 := by omega
      obtain ⟨q, hq⟩ : ∃ q : Nat, k = q + 1 := ⟨k - 1, by omega⟩
      have h7 := hI.cell (j := q * 8 + 7) (by omega)
      have f7 := hI.free (q * 8 + 7)
      have hb := hI.lt
      clear hk
      go_wp2
      go_ret2
      have hc : newC k = upd (newR k k) (q * 8 + 7) (-1) := by simp [newC, hq]
      exact ⟨rfl, hc ▸ hI.set _ _, hC.putNew (Nat.le_refl _)⟩
theorem new09_no (w : World) (n : Int) (h : n < 1 ∨ n > 500) :
    Calls Tryz.prog 44 #[.int .i64 n] w fun e w' => e = .returned (.tuple #[.pointer none, .int .i64 9]) ∧ Chg [] w w' := by
  by_cases h1 : n < 1
  · clear h
    go_enter Tryz.func44, Tryz.ntmps44
    go_wp2
    go_ret2
    exact ⟨rfl, Chg.refl _ _⟩
  · have h2 : n > 500 := by omega
    clear h
    go_enter Tryz.func44, Tryz.ntmps44
    go_wp2
    go_ret2
    exact ⟨rfl, Chg.refl _ _⟩

/-- The chapter's example. -/
def aO (n : Int) : Nat → Int := fun j => if j = 0 then n else 0
def aC1 : Nat → Int := upd (upd (updO (upd (newC 3) 4001 1) 0 (aO 1)) 7 (-2)) 4002 1
def aC2 : Nat → Int := upd (upd (updO (upd aC1 4001 2) 8 (aO 2)) 15 (-2)) 4002 2
def aC3 : Nat → Int := upd (upd (upd (updO aC2 0 (fun _ => 0)) 7 2) 4001 0) 4002 1
def aC4 : Nat → Int := upd (upd (updO (upd aC3 4001 2) 0 (aO 3)) 7 (-2)) 4002 2

theorem take09_at (w : World) (b : Nat) (c c' : Nat → Int) (h : ArAt w b c) (k : Nat) (n : Int) (hf : c 4001 = k) (hk : k < 500) (v : Value) (o : Nat → Int) (ho : v = oV o) (hw : IntKind.i64.wrap (c 4002 + 1) = c 4002 + 1)
    (hc : upd (upd (updO (upd c 4001 (c (k * 8 + 7))) (k * 8) o) (k * 8 + 7) (-2)) 4002 (c 4002 + 1) = c') (hn : (k : Int) = n) :
    Calls Tryz.prog 52 #[.pointer (some ⟨b, 0, none⟩), v] w fun e w' => e = .returned (.tuple #[.int .i64 n, .int .i64 0]) ∧ ArAt w' b c' ∧ Chg [b] w w' := by
  subst ho hc hn; exact take09_yes w b c h k hf hk o hw

end Go.Proofs.YtdcjfaplgpeonaaGreat

/-
  The law ArenaHolds, walked.
-/
namespace Go.Proofs.YtdcjfaplgpeonaaGreat
open Go.RowKit Go.Dm

theorem made1 (n : Nat) : madeCells #[.int .i64 0] n = Array.replicate n (.int .i64 0) := by
  apply Array.ext
  · simp [madeCells]
  · intro i h1 h2; simp [madeCells, Nat.mod_one]
theorem ints_made (w : World) (t n : Nat) : IntsAt (w.alloc (.cells (Array.replicate n (.int .i64 0)) t)) w.heap.size t n (fun _ => 0) :=
  ⟨_, heap_alloc_new w _, by simp, fun j hj => by simp [hj]⟩
theorem _root_.Go.Dm.Chg.putIn {S : List Nat} {w W : World} {g j : Nat} {u : Value} (h : Chg S w W) (hg : g ∈ S ∨ w.heap.size ≤ g) : Chg S w (W.setCell ⟨g, j, none⟩ u) :=
  h.trans' (Chg.setCell (S := [g]) W ⟨g, j, none⟩ u (by simp)) (fun _ hi => .inl hi) (fun i hi => by simp at hi; subst hi; exact hg)

/-- The orders that came in lie in memory. -/
def OrdsAt (w : World) (A : Option Addr) (l : List (Nat → Int)) : Prop :=
  l = [] ∨ ∃ b off, A = some ⟨b, off, none⟩ ∧ b < w.heap.size ∧ ∀ i o, l[i]? = some o → ∀ j, j < 7 → w.cell? ⟨b, off + i * 7 + j, none⟩ = some (.int .i64 (o j))

structure Hold (n i : Nat) (l : List (Nat → Int)) (c : Nat → Int) : Prop where
  size : c 4000 = n
  used : c 4002 = i
  free : c 4001 = if i < n then (i : Int) else -1
  low : ∀ j, j < i → c (j * 8 + 7) = -2
  ord : ∀ (j : Nat) o, j < i → l[j]? = some o → ∀ q, q < 7 → c (j * 8 + q) = o q
  high : ∀ j, i ≤ j → j < n → c (j * 8 + 7) = if j + 1 < n then ((j + 1 : Nat) : Int) else -1

theorem hold_new (n : Nat) (h0 : 1 ≤ n) (h1 : n ≤ 500) (l : List (Nat → Int)) : Hold n 0 l (newC n) := by
  refine ⟨?_, ?_, ?_, by omega, by omega, ?_⟩
  · unfold newC; rw [upd_ne (by omega)]; simp [newR]
  · unfold newC; rw [upd_ne (by omega)]; simp [newR]
  · unfold newC; rw [upd_ne (by omega), if_pos (by omega)]; simp [newR]
  · intro j _ hj
    by_cases e : j + 1 < n
    · unfold newC
      rw [upd_ne (by omega), if_pos e]
      have h1 : j * 8 + 7 ≠ 4000 := by omega
      have h2 : (j * 8 + 7) % 8 = 7 := by omega
      have h3 : (j * 8 + 7) / 8 = j := by omega
      simp [newR, h1, h2, h3, hj]
    · have : n - 1 = j := by omega
      unfold newC
      rw [this, if_neg e, upd_same]

theorem updO_out {c : Nat → Int} {k : Nat} {o : Nat → Int} {j : Nat} (h : j < k ∨ k + 7 ≤ j) : updO c k o j = c j := by
  unfold updO
  rw [upd_ne (by omega), upd_ne (by omega), upd_ne (by omega), upd_ne (by omega), upd_ne (by omega), upd_ne (by omega), upd_ne (by omega)]
theorem updO_in {c : Nat → Int} {k : Nat} {o : Nat → Int} {q : Nat} (h : q < 7) : updO c k o (k + q) = o q := by
  unfold updO upd
  match q, h with
  | 0, _ => simp
  | 1, _ => simp
  | 2, _ => simp
  | 3, _ => simp
  | 4, _ => simp
  | 5, _ => simp
  | 6, _ => simp
def tookC (c : Nat → Int) (k : Nat) (o : Nat → Int) : Nat → Int := upd (upd (updO (upd c 4001 (c (k * 8 + 7))) (k * 8) o) (k * 8 + 7) (-2)) 4002 (c 4002 + 1)
theorem took_4000 {c : Nat → Int} {k : Nat} {o : Nat → Int} (hk : k < 500) : tookC c k o 4000 = c 4000 := by
  unfold tookC; rw [upd_ne (by omega), upd_ne (by omega), updO_out (by omega), upd_ne (by omega)]
theorem took_4001 {c : Nat → Int} {k : Nat} {o : Nat → Int} (hk : k < 500) : tookC c k o 4001 = c (k * 8 + 7) := by
  unfold tookC; rw [upd_ne (by omega), upd_ne (by omega), updO_out (by omega), upd_same]
theorem took_4002 {c : Nat → Int} {k : Nat} {o : Nat → Int} : tookC c k o 4002 = c 4002 + 1 := by
  unfold tookC; rw [upd_same]
theorem took_next {c : Nat → Int} {k : Nat} {o : Nat → Int} (_hk : k < 500) : tookC c k o (k * 8 + 7) = -2 := by
  unfold tookC; rw [upd_ne (by omega), upd_same]
theorem took_ord {c : Nat → Int} {k : Nat} {o : Nat → Int} (hk : k < 500) {q : Nat} (hq : q < 7) : tookC c k o (k * 8 + q) = o q := by
  unfold tookC; rw [upd_ne (by omega), upd_ne (by omega), updO_in hq]
theorem took_other {c : Nat → Int} {k j : Nat} {o : Nat → Int} (hj : j < 500) (hne : j ≠ k) {q : Nat} (hq : q < 8) : tookC c k o (j * 8 + q) = c (j * 8 + q) := by
  unfold tookC; rw [upd_ne (by omega), upd_ne (by omega), updO_out (by omega), upd_ne (by omega)]

theorem hold_step {n i : Nat} {l : List (Nat → Int)} {c : Nat → Int} {o : Nat → Int} (h : Hold n i l c) (hi : i < n) (h1 : n ≤ 500) (ho : l[i]? = some o) : Hold n (i + 1) l (tookC c i o) := by
  refine ⟨?_, ?_, ?_, ?_, ?_, ?_⟩
  · rw [took_4000 (by omega)]; exact h.size
  · rw [took_4002, h.used]; rfl
  · rw [took_4001 (by omega), h.high i (Nat.le_refl _) hi]
  · intro j hj
    by_cases e : j = i
    · subst e; exact took_next (by omega)
    · rw [took_other (by omega) e (by omega)]; exact h.low j (by omega)
  · intro j o' hj ho' q hq
    by_cases e : j = i
    · subst e
      rw [ho] at ho'; cases ho'
      exact took_ord (by omega) hq
    · rw [took_other (by omega) e (by omega)]; exact h.ord j o' (by omega) ho' q hq
  · intro j hj hjn
    rw [took_other (by omega) (by omega) (by omega)]; exact h.high j (by omega) hjn

/-- Where the orders were put: at j, j + 1. -/
def seat (i : Nat) : Nat → Int := fun j => if j < i then (j : Int) + 1 else 0

structure HoldsRel1 (w : World) (n : Nat) (l : List (Nat → Int)) (b a : Nat) (m : Nat) (i : Value) (wr : World) : Prop where
  ex : ∃ (k : Nat) (c : Nat → Int), k ≤ l.length ∧ m = l.length - k + 1 ∧ i = .int .i64 k ∧ Hold n (min k n) l c ∧ ArAt wr b c ∧ IntsAt wr a 3 n (seat (min k n)) ∧ Chg [] w wr

structure HoldsRel2 (w : World) (n : Nat) (l : List (Nat → Int)) (c : Nat → Int) (b a : Nat) (m : Nat) (i : Value) (wr : World) : Prop where
  ex : ∃ k : Nat, k ≤ n ∧ m = n - k + 1 ∧ i = .int .i64 k ∧ ArAt wr b c ∧ IntsAt wr a 3 n (seat (min l.length n)) ∧ Chg [] w wr

end Go.Proofs.YtdcjfaplgpeonaaGreat

/-
  The program's index: a symbol's IDs, as the map hands them (ahead of the sort).
-/
namespace Go.Proofs.YtdcjfaplgpeonaaGreat
open Go.RowKit Go.Dm

def idE (d : Int) : List Value := [.int .i64 d]
theorem idR : REnc 1 idE := ⟨fun _ => rfl, fun a u hu => by simp [idE] at hu; subst hu; rfl⟩
theorem elem91 : ElemIs Tryz.prog 44 2 1 8 := ⟨Tryz.underlying44, by
  obtain ⟨i, hi, hz, h1, h2⟩ := info_parts (show (Tryz.prog.info? 2).map (fun i => (i.zero, i.size, i.bytes)) = some (some (.int .i64 0), 1, 8) by kernel_rfl)
  exact ⟨i, _, hi, hz, h1, h2, rfl⟩, by decide⟩
def idsOf (l : IL) (s : Int) : List Int := (l.filter fun p => decide (p.1.1 = s)).map (·.1.2)
theorem idsOf_len (l : IL) (s : Int) : (idsOf l s).length ≤ l.length := by
  unfold idsOf; rw [List.length_map]; exact List.length_filter_le _ _
theorem idsOf_mid (pre post : IL) (p : (Int × Int) × Int) (s : Int) : (idsOf (pre ++ p :: post) s).Perm ((if p.1.1 = s then [p.1.2] else []) ++ idsOf (pre ++ post) s) := by
  unfold idsOf
  simp only [List.filter_append, List.filter_cons, List.map_append]
  by_cases h : p.1.1 = s
  · simp only [h, decide_true, if_true, List.map_cons, List.singleton_append]
    exact List.perm_middle
  · simp [h]

def srt (l : List Int) : List Int := l.mergeSort (fun x y => decide (x ≤ y))
theorem chg_below {w a b : World} (h : Chg [] w a) (k : Below w.heap.size a b) : Chg [] w b :=
  ⟨k.os.trans h.os, k.tape.trans h.tape, k.output.trans h.output, Nat.le_trans h.size k.size, fun i hi hn => (k.block i hi).trans (h.block i hi hn)⟩

def IdsRel (w : World) (it m1 : Nat) (l : IL) (s : Int) (q : Nat) (v : Value) (wr : World) : Prop :=
  ∃ todo out, IterAt kenc ienc wr it m1 l todo ∧ SlAt 2 1 idE wr v out ∧ Fresh w.heap.size v ∧ (out ++ idsOf todo s).Perm (idsOf l s) ∧ Chg [] w wr ∧ q = todo.length + 1

/-- What the loop leaves, and behind it the sort: given as a hypothesis. -/
def SortsAt : Prop := ∀ (w : World) (v : Value) (out : List Int), SlAt 2 1 idE w v out → out.length ≤ 1000 →
  Calls Tryz.prog 65 #[v] w fun e w' => e = .returned (.tuple #[]) ∧ SlAt 2 1 idE w' v (srt out) ∧ ∀ B, B ≤ w.heap.size → Fresh B v → Below B w w'

set_option maxRecDepth 100000 in
set_option maxHeartbeats 4000000 in
theorem _root_.Go.Dm.IterAt.lt {w : World} {it m : Nat} {l todo : IL} (h : IterAt kenc ienc w it m l todo) : it < w.heap.size := by
  obtain ⟨_, _, _, _, _, _, hh, _⟩ := h; exact blk_lt hh

end Go.Proofs.YtdcjfaplgpeonaaGreat

/-
  The library's sort of int64s, laid at this program (written by the kit's own tool, the names moved).
-/
namespace Go.Proofs.YtdcjfaplgpeonaaGreat
open Go.Shelf
def sortL_ren : Go.Shelf.Ren := ⟨fun | 5 => 65 | 8 => 88 | 7 => 87 | 19 => 110 | 20 => 111 | 10 => 101 | 11 => 102 | 12 => 103 | 13 => 104 | 14 => 105 | 15 => 106 | 16 => 107 | 17 => 108 | 18 => 109 | 30 => 114 | 31 => 115 | 32 => 116 | 33 => 117 | 34 => 118 | 35 => 68 | 40 => 120 | n => n, fun | 23 => 44 | 25 => 2 | 3 => 3 | 32 => 176 | 22 => 44 | 0 => 0 | 44 => 202 | 46 => 141 | 4 => 4 | 36 => 195 | 35 => 194 | 41 => 100 | 5 => 5 | 9 => 9 | 53 => 204 | 57 => 208 | 63 => 211 | 64 => 212 | n => n, fun | n => n⟩
theorem sortL : Go.Proofs.SlLaysM.n5 Tryz.prog sortL_ren := {
  mixed := by kernel_rfl
  f5 := ⟨Tryz.f65.name, by decide, Tryz.func65.trans (congrArg some (by kernel_rfl))⟩
  f7 := ⟨Tryz.f87.name, by decide, Tryz.func87.trans (congrArg some (by kernel_rfl))⟩
  f8 := Tryz.func88.trans (congrArg some (by kernel_rfl))
  f10 := ⟨Tryz.f101.name, by decide, Tryz.func101.trans (congrArg some (by kernel_rfl))⟩
  f11 := ⟨Tryz.f102.name, by decide, Tryz.func102.trans (congrArg some (by kernel_rfl))⟩
  f12 := ⟨Tryz.f103.name, by decide, Tryz.func103.trans (congrArg some (by kernel_rfl))⟩
  f13 := ⟨Tryz.f104.name, by decide, Tryz.func104.trans (congrArg some (by kernel_rfl))⟩
  f14 := ⟨Tryz.f105.name, by decide, Tryz.func105.trans (congrArg some (by kernel_rfl))⟩
  f15 := ⟨Tryz.f106.name, by decide, Tryz.func106.trans (congrArg some (by kernel_rfl))⟩
  f16 := ⟨Tryz.f107.name, by decide, Tryz.func107.trans (congrArg some (by kernel_rfl))⟩
  f17 := ⟨Tryz.f108.name, by decide, Tryz.func108.trans (congrArg some (by kernel_rfl))⟩
  f18 := ⟨Tryz.f109.name, by decide, Tryz.func109.trans (congrArg some (by kernel_rfl))⟩
  f19 := Tryz.func110.trans (congrArg some (by kernel_rfl))
  f20 := Tryz.func111.trans (congrArg some (by kernel_rfl))
  f30 := ⟨Tryz.f114.name, by decide, Tryz.func114.trans (congrArg some (by kernel_rfl))⟩
  f31 := Tryz.func115.trans (congrArg some (by kernel_rfl))
  f32 := Tryz.func116.trans (congrArg some (by kernel_rfl))
  f33 := ⟨Tryz.f117.name, by decide, Tryz.func117.trans (congrArg some (by kernel_rfl))⟩
  f34 := ⟨Tryz.f118.name, by decide, Tryz.func118.trans (congrArg some (by kernel_rfl))⟩
  f35 := ⟨Tryz.f68.name, by decide, Tryz.func68.trans (congrArg some (by kernel_rfl))⟩
  f40 := ⟨Tryz.f120.name, by decide, Tryz.func120.trans (congrArg some (by kernel_rfl))⟩
  t0 := Tryz.underlying0
  a0 := Tryz.isAgg0
  z0 := Tryz.sizeOf0
  v0 := Tryz.zeroValue0
  t3 := Tryz.underlying3
  a3 := Tryz.isAgg3
  z3 := Tryz.sizeOf3
  v3 := Tryz.zeroValue3
  t4 := Tryz.underlying4
  a4 := Tryz.isAgg4
  z4 := Tryz.sizeOf4
  v4 := Tryz.zeroValue4
  t5 := Tryz.underlying5
  a5 := Tryz.isAgg5
  z5 := Tryz.sizeOf5
  v5 := Tryz.zeroValue5
  t9 := Tryz.underlying9
  a9 := Tryz.isAgg9
  z9 := Tryz.sizeOf9
  v9 := Tryz.zeroValue9
  t22 := Tryz.underlying44
  a22 := Tryz.isAgg44
  z22 := Tryz.sizeOf44
  v22 := Tryz.zeroValue44
  t23 := Tryz.underlying44
  a23 := Tryz.isAgg44
  z23 := Tryz.sizeOf44
  v23 := Tryz.zeroValue44
  t25 := Tryz.underlying2
  a25 := Tryz.isAgg2
  z25 := Tryz.sizeOf2
  v25 := Tryz.zeroValue2
  t32 := Tryz.underlying176
  a32 := Tryz.isAgg176
  z32 := Tryz.sizeOf176
  v32 := Tryz.zeroValue176
  t35 := Tryz.underlying194
  a35 := Tryz.isAgg194
  z35 := Tryz.sizeOf194
  v35 := Tryz.zeroValue194
  t36 := Tryz.underlying195
  a36 := Tryz.isAgg195
  z36 := Tryz.sizeOf195
  v36 := Tryz.zeroValue195
  t41 := Tryz.underlying100
  a41 := Tryz.isAgg100
  z41 := Tryz.sizeOf100
  v41 := Tryz.zeroValue100
  t44 := Tryz.underlying202
  a44 := Tryz.isAgg202
  z44 := Tryz.sizeOf202
  v44 := Tryz.zeroValue202
  t46 := Tryz.underlying141
  a46 := Tryz.isAgg141
  z46 := Tryz.sizeOf141
  v46 := Tryz.zeroValue141
  t53 := Tryz.underlying204
  a53 := Tryz.isAgg204
  z53 := Tryz.sizeOf204
  v53 := Tryz.zeroValue204
  t57 := Tryz.underlying208
  a57 := Tryz.isAgg208
  z57 := Tryz.sizeOf208
  v57 := Tryz.zeroValue208
  t63 := Tryz.underlying211
  a63 := Tryz.isAgg211
  z63 := Tryz.sizeOf211
  v63 := Tryz.zeroValue211
  t64 := Tryz.underlying212
  a64 := Tryz.isAgg212
  z64 := Tryz.sizeOf212
  v64 := Tryz.zeroValue212 }
end Go.Proofs.YtdcjfaplgpeonaaGreat

/-
  The library's sort on a slice of int64s that the call has built; a symbol's IDs, rising.
-/
namespace Go.Proofs.YtdcjfaplgpeonaaGreat
open Go.RowKit Go.Dm Go.Sort

theorem flat_ids (l : List Int) : l.flatMap idE = l.map (Value.int .i64) := by
  induction l with
  | nil => rfl
  | cons a l ih => rw [List.flatMap_cons, ih]; rfl
theorem srt_len (l : List Int) : (srt l).length = l.length := List.length_mergeSort _
theorem sorts_at : SortsAt := fun w v out h hlen => by
  rcases h.2 with ⟨rfl, h0⟩ | ⟨g, cap, cur, rfl, hb0, hg, hn, hc, hs, ht⟩
  · have : out = [] := by simpa using h0
    subst this
    have hc := AnyM.slices_Sort_int_none sortL none 0 w
    change Calls Tryz.prog 65 _ _ _ at hc
    refine hc.mono ?_
    rintro e w' ⟨he, rfl⟩
    have e0 : srt [] = [] := by simp [srt]
    rw [e0]
    exact ⟨he, h, fun B _ _ => Below.refl _ _⟩
  · rw [flat_ids, Nat.mul_one] at ht
    have hH := holds_of_blockI hg ht
    have hc1 := AnyM.slices_Sort_int sortL g 0 cap out w hH (blk_lt hg) (by omega)
    change Calls Tryz.prog 65 _ _ _ at hc1
    refine hc1.mono ?_
    rintro e w' ⟨he, n, os, rfl⟩
    refine ⟨he, ?_, fun B hB hF => ?_⟩
    · have := ownsRow_sortedI (n := n) (os := os) (ts := srt out) (srt_len out) hb0 hg hn hc hs
      unfold SlAt
      rw [srt_len, flat_ids]
      exact this
    · have hgr := grownBy_sortedI (w := w) (g := g) (n := n) (os := os) (srt out).toArray
      have hgB : B ≤ g := hF g rfl
      exact (Chg.of_grown hgr (S := [g]) (by simp)).below hB (by simpa using hgB)

end Go.Proofs.YtdcjfaplgpeonaaGreat
