/-
  The reference's arena: which slots are taken, and a list of those that were dropped; what each of its functions does.
-/
import Derived.Test.YtdcjfaplgpeonaaAc
namespace Go.Dm
open Go.RowKit

def updB (c : Nat → Bool) (i : Nat) (x : Bool) : Nat → Bool := fun k => if k = i then x else c k
def BoolsAt (w : World) (b t N : Nat) (c : Nat → Bool) : Prop :=
  ∃ cs, w.heap[b]? = some (.cells cs t (0, 0)) ∧ cs.size = N ∧ ∀ j, j < N → cs[j]? = some (.bool (c j))
theorem BoolsAt.cell {w : World} {b t N : Nat} {c : Nat → Bool} (h : BoolsAt w b t N c) {j : Nat} (hj : j < N) : w.cell? ⟨b, j, none⟩ = some (.bool (c j)) := by
  obtain ⟨cs, hb, hs, hc⟩ := h
  simp [World.cell?, hb, hc j hj]
theorem BoolsAt.free {w : World} {b t N : Nat} {c : Nat → Bool} (h : BoolsAt w b t N c) (j : Nat) : w.frozen? ⟨b, j, none⟩ = false := by
  obtain ⟨cs, hb, hs, hc⟩ := h
  simp [World.frozen?, hb]
theorem BoolsAt.lt {w : World} {b t N : Nat} {c : Nat → Bool} (h : BoolsAt w b t N c) : b < w.heap.size := by
  obtain ⟨cs, hb, hs, hc⟩ := h
  exact blk_lt hb
theorem BoolsAt.chg {w w' : World} {b t N : Nat} {c : Nat → Bool} {S : List Nat} (h : BoolsAt w b t N c) (hC : Chg S w w') (hn : b ∉ S) : BoolsAt w' b t N c := by
  obtain ⟨cs, hb, hs, hc⟩ := h
  exact ⟨cs, hC.at_ hb hn, hs, hc⟩
theorem BoolsAt.set {w : World} {b t N : Nat} {c : Nat → Bool} (h : BoolsAt w b t N c) (j : Nat) (x : Bool) : BoolsAt (w.setCell ⟨b, j, none⟩ (.bool x)) b t N (updB c j x) := by
  obtain ⟨cs, hb, hs, hc⟩ := h
  refine ⟨_, blk_set hb j _, by simpa using hs, fun k hk => ?_⟩
  by_cases e : k = j
  · subst e; simp [updB, hs, hk]
  · rw [Array.getElem?_setIfInBounds_ne (fun h => e h.symm)]; simp only [updB, if_neg e]; exact hc k hk
end Go.Dm

namespace Go.Proofs.Ytdcjfaplgpeonaa
open Go.RowKit Go.Dm

def intE (d : Nat) : List Value := [.int .i64 d]
theorem intR : REnc 1 intE := ⟨fun _ => rfl, fun a u hu => by simp [intE] at hu; subst hu; rfl⟩
theorem elem48 : ElemIs Try.prog 48 3 1 8 := ⟨Try.underlying48, by
  obtain ⟨i, hi, hz, h1, h2⟩ := info_parts (show (Try.prog.info? 3).map (fun i => (i.zero, i.size, i.bytes)) = some (some (.int .i64 0), 1, 8) by kernel_rfl)
  exact ⟨i, _, hi, hz, h1, h2, rfl⟩, by decide⟩

structure RfAt (w : World) (r bo bt n : Nat) (o : Nat → Int) (T : Nat → Bool) (D : List Nat) (m : Nat) : Prop where
  blk : ∃ v, w.heap[r]? = some (.cells #[.slice (some ⟨bo, 0, none⟩) n n, .slice (some ⟨bt, 0, none⟩) n n, v, .int .i64 m] 71 (0, 0)) ∧ SlAt 3 1 intE w v D
  os : IntsAt w bo 52 (n * 7) o
  ts : BoolsAt w bt 4 n T
variable {w w' : World} {r bo bt n m : Nat} {o : Nat → Int} {T : Nat → Bool} {D : List Nat}
theorem RfAt.lt (h : RfAt w r bo bt n o T D m) : r < w.heap.size := by obtain ⟨v, h, _⟩ := h.blk; exact blk_lt h
theorem RfAt.chg (h : RfAt w r bo bt n o T D m) (hC : Chg [] w w') : RfAt w' r bo bt n o T D m := by
  obtain ⟨v, hb, hs⟩ := h.blk
  exact ⟨⟨v, hC.at_ hb (by simp), hs.chg hC (by simp)⟩, h.os.chg hC (by simp), h.ts.chg hC (by simp)⟩
theorem RfAt.chgA {b : Nat} {c : Nat → Int} (h : RfAt w r bo bt n o T D m) (hA : ArAt w b c) (hC : Chg [b] w w') : RfAt w' r bo bt n o T D m := by
  obtain ⟨v, hb, hs⟩ := h.blk
  have hr : r ≠ b := hA.ne hb (by decide)
  obtain ⟨ca, ha, _⟩ := hA
  refine ⟨⟨v, hC.at_ hb (by simpa using hr), hs.chg hC fun g hg hm => ?_⟩, h.os.chg hC ?_, h.ts.chg hC ?_⟩
  · obtain ⟨cur, hcur⟩ := hs.typed hg
    simp at hm; subst hm; rw [ha] at hcur; cases hcur
  · obtain ⟨cs, hcs, _⟩ := h.os; intro hm; simp at hm; subst hm; rw [ha] at hcs; cases hcs
  · obtain ⟨cs, hcs, _⟩ := h.ts; intro hm; simp at hm; subst hm; rw [ha] at hcs; cases hcs
theorem _root_.Go.Dm.IntsAt.chgR {b : Nat} {c : Nat → Int} (hA : ArAt w b c) (h : RfAt w r bo bt n o T D m) (hC : Chg [r, bo, bt] w w') : ArAt w' b c := by
  obtain ⟨v, hb, hs⟩ := h.blk
  obtain ⟨ca, ha, hx⟩ := hA
  refine ⟨ca, hC.at_ ha ?_, hx⟩
  intro hm
  simp only [List.mem_cons, List.not_mem_nil, or_false] at hm
  rcases hm with hm | hm | hm
  · subst hm; rw [ha] at hb; cases hb
  · obtain ⟨cs, hcs, _⟩ := h.os; subst hm; rw [ha] at hcs; cases hcs
  · obtain ⟨cs, hcs, _⟩ := h.ts; subst hm; rw [ha] at hcs; cases hcs

theorem ints_new7 (w : World) (t : Nat) (c : Nat → Int) : IntsAt (w.alloc (.cells (oCs c) t)) w.heap.size t 7 c := by
  refine ⟨_, heap_alloc_new w _, rfl, fun j hj => ?_⟩
  match j, hj with
  | 0, _ => rfl
  | 1, _ => rfl
  | 2, _ => rfl
  | 3, _ => rfl
  | 4, _ => rfl
  | 5, _ => rfl
  | 6, _ => rfl
def hasR (n : Nat) (T : Nat → Bool) (i : Int) : Bool := decide (0 ≤ i) && decide (i < n) && T i.toNat

theorem blk4' {w : World} {b : Nat} {u0 u1 u2 u3 : Value} {t : TypeId} {fr : Nat × Nat} (h : w.heap[b]? = some (.cells #[u0, u1, u2, u3] t fr)) :
    w.cell? ⟨b, 0, none⟩ = some u0 ∧ w.cell? ⟨b, 1, none⟩ = some u1 ∧ w.cell? ⟨b, 2, none⟩ = some u2 ∧ w.cell? ⟨b, 3, none⟩ = some u3 := by
  simp [World.cell?, h]
theorem blkfree {w : World} {b : Nat} {cs : Array Value} {t : TypeId} (h : w.heap[b]? = some (.cells cs t (0, 0))) (j : Nat) : w.frozen? ⟨b, j, none⟩ = false := by
  simp [World.frozen?, h]

set_option maxRecDepth 100000 in
set_option maxHeartbeats 1000000 in
theorem has_any (h : RfAt w r bo bt n o T D m) (i : Int) :
    Calls Try.prog 32 #[.pointer (some ⟨r, 0, none⟩), .int .i64 i] w fun e w' => e = .returned (.bool (hasR n T i)) ∧ w = w' := by
  obtain ⟨v, hb, _⟩ := h.blk
  obtain ⟨c0, c1, _, _⟩ := blk4' hb
  have hr := h.lt
  by_cases i0 : 0 ≤ i
  · by_cases i1 : i < n
    · obtain ⟨k, rfl⟩ := Int.eq_ofNat_of_zero_le i0
      have ht := h.ts.cell (j := k) (by omega)
      have he : hasR n T k = T k := by simp only [hasR, i0, i1, decide_true, Bool.true_and, Int.toNat_natCast]
      rw [he]
      clear he hb
      go_enter Try.func32, Try.ntmps32
      go_wp2
      go_ret
      exact ⟨by simp, rfl⟩
    · have he : hasR n T i = false := by simp [hasR, i1]
      rw [he]
      clear he hb
      go_enter Try.func32, Try.ntmps32
      go_wp2
      go_ret
      exact ⟨rfl, rfl⟩
  · have he : hasR n T i = false := by simp [hasR, i0]
    rw [he]
    clear he hb
    go_enter Try.func32, Try.ntmps32
    go_wp2
    go_ret
    exact ⟨rfl, rfl⟩

set_option maxRecDepth 100000 in
set_option maxHeartbeats 1000000 in
theorem rget09 (h : RfAt w r bo bt n o T D m) (i : Nat) (hi : i < n) (hT : T i = true) :
    Calls Try.prog 59 #[.pointer (some ⟨r, 0, none⟩), .int .i64 i] w fun e w' => e = .returned (.tuple #[oV (ordAt o (i * 7)), .bool true]) ∧ Chg [] w w' := by
  have hA := Chg.alloc [] w (.cells #[.int .i64 0, .int .i64 0, .int .i64 0, .int .i64 0, .int .i64 0, .int .i64 0, .int .i64 0] 52)
  have h1 := h.chg hA
  have hh := has_any h1 i
  have he : hasR n T i = true := by simp [hasR, hi, hT]
  rw [he] at hh
  obtain ⟨v, hb, _⟩ := h1.blk
  obtain ⟨c0, c1, _, _⟩ := blk4' hb
  have hr := h1.lt
  have hbo := h1.os.lt
  have i0 : (0 : Int) ≤ (i : Int) := Int.natCast_nonneg _
  have i1 : (i : Int) < (n : Int) := by omega
  have x0 := h1.os.cell (j := i * 7) (by omega)
  have x1 := h1.os.cell (j := i * 7 + 1) (by omega)
  have x2 := h1.os.cell (j := i * 7 + 2) (by omega)
  have x3 := h1.os.cell (j := i * 7 + 3) (by omega)
  have x4 := h1.os.cell (j := i * 7 + 4) (by omega)
  have x5 := h1.os.cell (j := i * 7 + 5) (by omega)
  have x6 := h1.os.cell (j := i * 7 + 6) (by omega)
  clear hb he hT
  go_enter Try.func59, Try.ntmps59
  go_wp2_with fail
  refine hh.mono ?_
  rintro e W ⟨rfl, rfl⟩
  clear hh
  go_wp2
  refine bodyPost_ret (results_ord rfl _ _ w.heap.size (ordAt o (i * 7)) _ rfl rfl (ints_new7 w 52 (ordAt o (i * 7)))) rfl ?_
  exact ⟨rfl, Chg.alloc _ _ _⟩
set_option maxRecDepth 100000 in
set_option maxHeartbeats 1000000 in
theorem rget09_no (h : RfAt w r bo bt n o T D m) (i : Int) (hT : hasR n T i = false) :
    Calls Try.prog 59 #[.pointer (some ⟨r, 0, none⟩), .int .i64 i] w fun e w' => e = .returned (.tuple #[oV (fun _ => 0), .bool false]) ∧ Chg [] w w' := by
  have hA := Chg.alloc [] w (.cells #[.int .i64 0, .int .i64 0, .int .i64 0, .int .i64 0, .int .i64 0, .int .i64 0, .int .i64 0] 52)
  have h1 := h.chg hA
  have hh := has_any h1 i
  rw [hT] at hh
  go_enter Try.func59, Try.ntmps59
  go_wp2_with fail
  refine hh.mono ?_
  rintro e W ⟨rfl, rfl⟩
  clear hh
  go_wp2
  refine bodyPost_ret (results_ord rfl _ _ w.heap.size (fun _ => 0) _ rfl rfl (ints_new7 w 52 (fun _ => 0))) rfl ?_
  exact ⟨rfl, Chg.alloc _ _ _⟩

theorem os_cells (h : RfAt w r bo bt n o T D m) {i : Nat} (hi : i < n) :
    w.cell? ⟨bo, i * 7, none⟩ = some (.int .i64 (o (i * 7))) ∧ w.cell? ⟨bo, i * 7 + 1, none⟩ = some (.int .i64 (o (i * 7 + 1))) ∧ w.cell? ⟨bo, i * 7 + 2, none⟩ = some (.int .i64 (o (i * 7 + 2))) ∧ w.cell? ⟨bo, i * 7 + 3, none⟩ = some (.int .i64 (o (i * 7 + 3))) ∧
    w.cell? ⟨bo, i * 7 + 4, none⟩ = some (.int .i64 (o (i * 7 + 4))) ∧ w.cell? ⟨bo, i * 7 + 5, none⟩ = some (.int .i64 (o (i * 7 + 5))) ∧ w.cell? ⟨bo, i * 7 + 6, none⟩ = some (.int .i64 (o (i * 7 + 6))) :=
  ⟨h.os.cell (by omega), h.os.cell (by omega), h.os.cell (by omega), h.os.cell (by omega), h.os.cell (by omega), h.os.cell (by omega), h.os.cell (by omega)⟩
theorem os_free (h : RfAt w r bo bt n o T D m) (i : Nat) :
    w.frozen? ⟨bo, i * 7, none⟩ = false ∧ w.frozen? ⟨bo, i * 7 + 1, none⟩ = false ∧ w.frozen? ⟨bo, i * 7 + 2, none⟩ = false ∧ w.frozen? ⟨bo, i * 7 + 3, none⟩ = false ∧
    w.frozen? ⟨bo, i * 7 + 4, none⟩ = false ∧ w.frozen? ⟨bo, i * 7 + 5, none⟩ = false ∧ w.frozen? ⟨bo, i * 7 + 6, none⟩ = false :=
  ⟨h.os.free _, h.os.free _, h.os.free _, h.os.free _, h.os.free _, h.os.free _, h.os.free _⟩
/-- .. with the orders changed. -/
theorem RfAt.withO (h : RfAt w r bo bt n o T D m) {o' : Nat → Int} (hC : Chg [bo] w w') (ho : IntsAt w' bo 52 (n * 7) o') : RfAt w' r bo bt n o' T D m := by
  obtain ⟨v, hb, hs⟩ := h.blk
  have hr : r ≠ bo := h.os.ne hb (by decide)
  obtain ⟨ca, ha, _⟩ := h.os
  refine ⟨⟨v, hC.at_ hb (by simpa using hr), hs.chg hC fun g hg hm => ?_⟩, ho, h.ts.chg hC ?_⟩
  · obtain ⟨cur, hcur⟩ := hs.typed hg
    simp at hm; subst hm; rw [ha] at hcur; cases hcur
  · obtain ⟨cs, hcs, _⟩ := h.ts; intro hm; simp at hm; subst hm; rw [ha] at hcs; cases hcs
theorem RfAt.withT (h : RfAt w r bo bt n o T D m) {T' : Nat → Bool} (hC : Chg [bt] w w') (hT : BoolsAt w' bt 4 n T') : RfAt w' r bo bt n o T' D m := by
  obtain ⟨v, hb, hs⟩ := h.blk
  obtain ⟨ca, ha, _⟩ := h.ts
  have hr : r ≠ bt := by intro e; subst e; rw [ha] at hb; cases hb
  refine ⟨⟨v, hC.at_ hb (by simpa using hr), hs.chg hC fun g hg hm => ?_⟩, h.os.chg hC ?_, hT⟩
  · obtain ⟨cur, hcur⟩ := hs.typed hg
    simp at hm; subst hm; rw [ha] at hcur; cases hcur
  · obtain ⟨cs, hcs, _⟩ := h.os; intro hm; simp at hm; subst hm; rw [ha] at hcs; cases hcs
theorem RfAt.withR (h : RfAt w r bo bt n o T D m) {D' : List Nat} {m' : Nat} (hC : Chg [r] w w') {v : Value} (hb' : w'.heap[r]? = some (.cells #[.slice (some ⟨bo, 0, none⟩) n n, .slice (some ⟨bt, 0, none⟩) n n, v, .int .i64 m'] 71 (0, 0))) (hs' : SlAt 3 1 intE w' v D') : RfAt w' r bo bt n o T D' m' := by
  obtain ⟨u, hb, hs⟩ := h.blk
  refine ⟨⟨v, hb', hs'⟩, h.os.chg hC ?_, h.ts.chg hC ?_⟩
  · obtain ⟨cs, hcs, _⟩ := h.os; intro hm; simp at hm; subst hm; rw [hb] at hcs; cases hcs
  · obtain ⟨cs, hcs, _⟩ := h.ts; intro hm; simp at hm; subst hm; rw [hb] at hcs; cases hcs

set_option maxRecDepth 100000 in
set_option maxHeartbeats 1000000 in
theorem rset09_no (h : RfAt w r bo bt n o T D m) (i : Int) (hT : hasR n T i = false) (x : Nat → Int) :
    Calls Try.prog 58 #[.pointer (some ⟨r, 0, none⟩), .int .i64 i, oV x] w fun e w' => e = .returned (.bool false) ∧ Chg [] w w' := by
  have hA := Chg.alloc [] w (.cells (oCs x) 52)
  have h1 := h.chg hA
  have hh := has_any h1 i
  rw [hT] at hh
  unfold oV
  unfold oCs at hh hA
  go_enter Try.func58, Try.ntmps58
  go_wp2_with fail
  refine hh.mono ?_
  rintro e W ⟨rfl, rfl⟩
  clear hh
  go_wp2
  go_ret
  exact ⟨rfl, hA⟩
set_option maxRecDepth 100000 in
set_option maxHeartbeats 1000000 in
theorem rset09_yes (h : RfAt w r bo bt n o T D m) (i : Nat) (hi : i < n) (hT : T i = true) (x : Nat → Int) :
    Calls Try.prog 58 #[.pointer (some ⟨r, 0, none⟩), .int .i64 i, oV x] w fun e w' => e = .returned (.bool true) ∧ RfAt w' r bo bt n (updO o (i * 7) x) T D m ∧ Chg [r, bo, bt] w w' := by
  have hA := Chg.alloc [] w (.cells (oCs x) 52)
  have bx : (w.alloc (.cells (oCs x) 52)).heap[w.heap.size]? = some (.cells (oCs x) 52 (0, 0)) := heap_alloc_new w _
  have h1 := h.chg hA
  have hh := has_any h1 i
  have he : hasR n T i = true := by simp [hasR, hi, hT]
  rw [he] at hh
  have i0 : (0 : Int) ≤ (i : Int) := Int.natCast_nonneg _
  have i1 : (i : Int) < (n : Int) := by omega
  clear he hT
  unfold oV
  unfold oCs at hh hA h1 bx
  go_enter Try.func58, Try.ntmps58
  go_wp2_with fail
  refine hh.mono ?_
  rintro e W ⟨rfl, rfl⟩
  clear hh
  go_wp2_with fail
  refine wp_tail 7 (by kernel_rfl) (by kernel_rfl) ?_
  intro W hW
  have hA2 := hA.trans hW
  have h2 := h1.chg hW
  have hbx := hW.at_ bx (by simp)
  obtain ⟨v, hb, _⟩ := h2.blk
  obtain ⟨c0, c1, _, _⟩ := blk4' hb
  have hr := h2.lt
  obtain ⟨x0, x1, x2, x3, x4, x5, x6⟩ := blk7 (o := x) hbx
  obtain ⟨y0, y1, y2, y3, y4, y5, y6⟩ := os_cells h2 hi
  obtain ⟨f0, f1, f2, f3, f4, f5, f6⟩ := os_free h2 i
  clear hW hA bx h1 hbx hb
  simp only [List.take_succ_cons, List.take_zero, List.drop_succ_cons, List.drop_zero]
  repeat still_step
  refine wpStill_nil ?_
  go_wp2
  go_ret
  have hI := ((((((h2.os.set (i * 7) (x 0)).set (i * 7 + 1) (x 1)).set (i * 7 + 2) (x 2)).set (i * 7 + 3) (x 3)).set (i * 7 + 4) (x 4)).set (i * 7 + 5) (x 5)).set (i * 7 + 6) (x 6)
  exact ⟨rfl, h2.withO (Chg.refl [bo] W).put.put.put.put.put.put.put hI, hA2.nil.trans (Chg.mono (S := [bo]) (Chg.refl [bo] W).put.put.put.put.put.put.put (by simp))⟩

set_option maxRecDepth 100000 in
set_option maxHeartbeats 1000000 in
theorem rdrop09_yes (h : RfAt w r bo bt n o T D m) (i : Nat) (hi : i < n) (hT : T i = true) (hD : D.length ≤ 1000) :
    Calls Try.prog 57 #[.pointer (some ⟨r, 0, none⟩), .int .i64 i] w fun e w' => e = .returned (.bool true) ∧ RfAt w' r bo bt n o (updB T i false) (D ++ [i]) m ∧ Chg [r, bo, bt] w w' := by
  have hh := has_any h i
  have he : hasR n T i = true := by simp [hasR, hi, hT]
  rw [he] at hh
  have i0 : (0 : Int) ≤ (i : Int) := Int.natCast_nonneg _
  have i1 : (i : Int) < (n : Int) := by omega
  obtain ⟨v, hb, hs⟩ := h.blk
  obtain ⟨c0, c1, c2, _⟩ := blk4' hb
  have hr := h.lt
  have t0 := h.ts.cell (j := i) hi
  have f0 := h.ts.free i
  have hbt : r ≠ bt := by obtain ⟨cs, hcs, _⟩ := h.ts; intro e; subst e; rw [hb] at hcs; cases hcs
  have h1 : RfAt (w.setCell ⟨bt, i, none⟩ (.bool false)) r bo bt n o (updB T i false) D m := h.withT (Chg.refl [bt] w).put (h.ts.set i false)
  have hC0 : Chg [r, bo, bt] w (w.setCell ⟨bt, i, none⟩ (.bool false)) := Chg.mono (S := [bt]) (Chg.refl [bt] w).put (by simp)
  have hbA : (w.setCell ⟨bt, i, none⟩ (.bool false)).heap[r]? = some (.cells #[.slice (some ⟨bo, 0, none⟩) n n, .slice (some ⟨bt, 0, none⟩) n n, v, .int .i64 m] 71 (0, 0)) := (Chg.refl [bt] w).put.at_ hb (by simpa using hbt)
  have hsA : SlAt 3 1 intE (w.setCell ⟨bt, i, none⟩ (.bool false)) v D := hs.chg (Chg.refl [bt] w).put fun g hg hm => by
    obtain ⟨cur, hcur⟩ := hs.typed hg
    obtain ⟨ca, ha, _⟩ := h.ts
    simp at hm; subst hm; rw [ha] at hcur; cases hcur
  have sz : (w.setCell ⟨bt, i, none⟩ (.bool false)).heap.size = w.heap.size := by simp
  have hE : SlAt 3 1 intE ((w.setCell ⟨bt, i, none⟩ (.bool false)).alloc (.cells #[] 3)) (.slice (some ⟨w.heap.size, 0, none⟩) 0 0) ([] : List Nat) := SlAt.empty (by have := heap_alloc_new (w.setCell ⟨bt, i, none⟩ (.bool false)) (.cells #[] 3); rw [sz] at this; exact this) rfl
  have hF : Fresh (w.setCell ⟨bt, i, none⟩ (.bool false)).heap.size (.slice (some ⟨w.heap.size, 0, none⟩) 0 0) := Fresh.of (by rw [sz]; exact Nat.le_refl _)
  have hS := (hsA.chg (Chg.alloc [] (w.setCell ⟨bt, i, none⟩ (.bool false)) (.cells #[] 3)) (by simp)).src
  have hL1 : ([] : List Nat).length + D.length ≤ 1000000 := by simp; omega
  have hL2 : ([] ++ D).length + [i].length ≤ 1000000 := by simp; omega
  clear he hT hb hs hsA sz
  go_enter Try.func57, Try.ntmps57
  go_wp2_with fail
  refine hh.mono ?_
  rintro e W ⟨rfl, rfl⟩
  clear hh
  obtain ⟨A0, c0', rfl, _⟩ := (show ∃ A c, v = .slice A D.length c ∧ True by obtain ⟨A, c, hv, _⟩ := hS; exact ⟨A, c, hv, trivial⟩)
  go_wp2_with (at_builtin; go_must (refine wpL_append' rfl _ _ 48 rfl intR elem48 (Chg.alloc [] (w.setCell ⟨bt, i, none⟩ (.bool false)) (.cells #[] 3)) hE hF hS rfl rfl hL1 (by omega) ?_))
  intro v1 W1 hs1 hC1 hF1 _
  have hF1' : Fresh (w.setCell ⟨bt, i, none⟩ (.bool false)).heap.size v1 := by simpa using hF1
  have hsz1 := hC1.size
  go_wp2_with (at_builtin; go_must (refine wpL_append' rfl _ _ 48 rfl intR elem48 (hC1.trans (Chg.alloc [] W1 (.cells #[.int .i64 i] 3))) (hs1.chg (Chg.alloc [] W1 (.cells #[.int .i64 i] 3)) (by simp)) hF1' (SrcAt.one (renc := intE) (a := i) (t := 3) (fr := (0, 0)) (by exact heap_alloc_new W1 (.cells #[.int .i64 i] 3)) 1) rfl rfl hL2 (by omega) ?_))
  intro v2 W2 hs2 hC2 hF2 _
  have b2 := hC2.at_ hbA (by simp)
  have h2 := h1.chg hC2
  clear hs1 hC1 hF1 hF1' hE hF hS hL1 hL2 c0 c1 c2 h hbA
  obtain ⟨A2, c2', rfl, _⟩ := hs2.form
  have e2 : (D ++ [i]).length = D.length + 1 := by simp
  rw [e2] at hs2 hF2
  have q2 := (blk4' b2).2.2.1
  have f2 := blkfree b2 2
  have hb2 := blk_lt b2
  clear e2
  go_wp2
  go_ret
  refine ⟨rfl, h2.withR (Chg.refl [r] W2).put (by have := blk_set b2 2 (.slice A2 (D.length + 1) c2'); exact this) (hs2.chg (Chg.refl [r] W2).put fun g hg hm => ?_), (hC0.trans hC2.nil).trans (Chg.mono (S := [r]) (Chg.refl [r] W2).put (by simp))⟩
  obtain ⟨cur, hcur⟩ := hs2.typed hg
  simp at hm; subst hm; rw [b2] at hcur; cases hcur
set_option maxRecDepth 100000 in
set_option maxHeartbeats 1000000 in
theorem rdrop09_no (h : RfAt w r bo bt n o T D m) (i : Int) (hT : hasR n T i = false) :
    Calls Try.prog 57 #[.pointer (some ⟨r, 0, none⟩), .int .i64 i] w fun e w' => e = .returned (.bool false) ∧ Chg [] w w' := by
  have hh := has_any h i
  rw [hT] at hh
  go_enter Try.func57, Try.ntmps57
  go_wp2_with fail
  refine hh.mono ?_
  rintro e W ⟨rfl, rfl⟩
  clear hh
  go_wp2
  go_ret
  exact ⟨rfl, Chg.refl _ _⟩
end Go.Proofs.Ytdcjfaplgpeonaa
