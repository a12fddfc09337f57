/-
  The program's queues of nodes: their block, the small functions, Push.
-/
import Derived.Test.YtdcjfaplgpeonaaKa
import Derived.Test.YtdcjfaplgpeonaaCt
namespace Go.Proofs.Ytdcjfaplgpeonaa
open Go.RowKit Go.Dm

/-- Queues in block q: 60 nodes in block nb, 60 queues in block eb. -/
structure FfAt (w : World) (q nb eb : Nat) (nf ef : Nat → Int) : Prop where
  blk : w.heap[q]? = some (.cells #[.slice (some ⟨nb, 0, none⟩) 60 60, .slice (some ⟨eb, 0, none⟩) 60 60] 183 (0, 0))
  nds : IntsAt w nb 185 180 nf
  eds : IntsAt w eb 188 180 ef
theorem FfAt.chg {w w' : World} {q nb eb : Nat} {nf ef : Nat → Int} {S : List Nat} (h : FfAt w q nb eb nf ef) (hC : Chg S w w') (h0 : q ∉ S) (h1 : nb ∉ S) (h2 : eb ∉ S) : FfAt w' q nb eb nf ef :=
  ⟨hC.at_ h.blk h0, h.nds.chg hC h1, h.eds.chg hC h2⟩
theorem FfAt.q_nb {w : World} {q nb eb : Nat} {nf ef : Nat → Int} (h : FfAt w q nb eb nf ef) : q ≠ nb := h.nds.ne h.blk (by decide)
theorem FfAt.q_eb {w : World} {q nb eb : Nat} {nf ef : Nat → Int} (h : FfAt w q nb eb nf ef) : q ≠ eb := h.eds.ne h.blk (by decide)
theorem FfAt.nb_eb {w : World} {q nb eb : Nat} {nf ef : Nat → Int} (h : FfAt w q nb eb nf ef) : nb ≠ eb := by
  obtain ⟨cs, hb, _⟩ := h.nds
  exact h.eds.ne hb (by decide)

theorem loose95 (w : World) : Calls Try.prog 95 #[] w fun e w' => e = .returned (.agg #[.int .i64 (-1), .int .i64 (-1), .int .i64 (-1)]) ∧ Chg [] w w' := by
  go_enter Try.func95, Try.ntmps95
  go_wp2
  exact bodyPost_ret (v := .agg #[.int .i64 (-1), .int .i64 (-1), .int .i64 (-1)]) (by simp [results, Try.f95, go_sem]) rfl ⟨rfl, Chg.alloc _ _ _⟩
theorem empty96 (w : World) : Calls Try.prog 96 #[] w fun e w' => e = .returned (.agg #[.int .i64 (-1), .int .i64 (-1), .int .i64 0]) ∧ Chg [] w w' := by
  go_enter Try.func96, Try.ntmps96
  go_wp2
  exact bodyPost_ret (v := .agg #[.int .i64 (-1), .int .i64 (-1), .int .i64 0]) (by simp [results, Try.f96, go_sem]) rfl ⟨rfl, Chg.alloc _ _ _⟩

set_option maxHeartbeats 1000000 in
theorem queue102 (w : World) (q nb eb : Nat) (nf ef : Nat → Int) (h : FfAt w q nb eb nf ef) (i : Nat) (hi : i < 60) :
    Calls Try.prog 102 #[.pointer (some ⟨q, 0, none⟩), .int .i64 i] w fun e w' => e = .returned (.pointer (some ⟨eb, i * 3, none⟩)) ∧ w = w' := by
  obtain ⟨c0, c1⟩ := blk2 h.blk
  have i0 : (0 : Int) ≤ (i : Int) := Int.natCast_nonneg _
  have i1 : (i : Int) < 60 := by omega
  go_enter Try.func102, Try.ntmps102
  go_wp2
  go_ret
  exact ⟨rfl, rfl⟩
set_option maxHeartbeats 1000000 in
theorem node103 (w : World) (q nb eb : Nat) (nf ef : Nat → Int) (h : FfAt w q nb eb nf ef) (i : Nat) (hi : i < 60) :
    Calls Try.prog 103 #[.pointer (some ⟨q, 0, none⟩), .int .i64 i] w fun e w' => e = .returned (.pointer (some ⟨nb, i * 3, none⟩)) ∧ w = w' := by
  obtain ⟨c0, c1⟩ := blk2 h.blk
  have i0 : (0 : Int) ≤ (i : Int) := Int.natCast_nonneg _
  have i1 : (i : Int) < 60 := by omega
  go_enter Try.func103, Try.ntmps103
  go_wp2
  go_ret
  exact ⟨rfl, rfl⟩
set_option maxHeartbeats 1000000 in
theorem node103_no (w : World) (q : Nat) :
    Calls Try.prog 103 #[.pointer (some ⟨q, 0, none⟩), .int .i64 (-1)] w fun e w' => e = .returned (.pointer none) ∧ w = w' := by
  go_enter Try.func103, Try.ntmps103
  go_wp2
  go_ret
  exact ⟨rfl, rfl⟩

theorem cells3 {w : World} {b t : Nat} {c : Nat → Int} (h : IntsAt w b t 180 c) {i : Nat} (hi : i < 60) :
    w.cell? ⟨b, i * 3, none⟩ = some (.int .i64 (c (i * 3))) ∧ w.cell? ⟨b, i * 3 + 1, none⟩ = some (.int .i64 (c (i * 3 + 1))) ∧ w.cell? ⟨b, i * 3 + 2, none⟩ = some (.int .i64 (c (i * 3 + 2))) :=
  ⟨h.cell (by omega), h.cell (by omega), h.cell (by omega)⟩
theorem free3 {w : World} {b t : Nat} {c : Nat → Int} (h : IntsAt w b t 180 c) (i : Nat) : w.frozen? ⟨b, i * 3, none⟩ = false ∧ w.frozen? ⟨b, i * 3 + 1, none⟩ = false ∧ w.frozen? ⟨b, i * 3 + 2, none⟩ = false :=
  ⟨h.free _, h.free _, h.free _⟩

/-- A node that is in no queue. -/
def Loose (nf : Nat → Int) (n : Nat) : Prop := nf (n * 3) = -1 ∧ nf (n * 3 + 1) = -1 ∧ nf (n * 3 + 2) = -1
def upd3 (c : Nat → Int) (k : Nat) (x y z : Int) : Nat → Int := upd (upd (upd c k x) (k + 1) y) (k + 2) z
/-- What Push makes of a queue that is empty. -/
def pushN0 (nf : Nat → Int) (i n : Nat) : Nat → Int := upd3 nf (n * 3) (-1) (-1) i
def pushE0 (ef : Nat → Int) (i n : Nat) : Nat → Int := upd (upd (upd ef (i * 3) n) (i * 3 + 1) n) (i * 3 + 2) (wrap64 (ef (i * 3 + 2) + 1))
def pushN1 (nf : Nat → Int) (i m n : Nat) : Nat → Int := upd (upd3 nf (n * 3) m (-1) i) (m * 3 + 1) n
def pushE1 (ef : Nat → Int) (i n : Nat) : Nat → Int := upd (upd ef (i * 3 + 1) n) (i * 3 + 2) (wrap64 (ef (i * 3 + 2) + 1))

theorem FfAt.setN {w : World} {q nb eb : Nat} {nf ef : Nat → Int} (h : FfAt w q nb eb nf ef) (j : Nat) (x : Int) : FfAt (w.setCell ⟨nb, j, none⟩ (.int .i64 x)) q nb eb (upd nf j x) ef :=
  ⟨(Chg.setCell (S := [nb]) w _ _ (by simp)).at_ h.blk (by simp [h.q_nb]), h.nds.set j x, h.eds.chg (Chg.setCell (S := [nb]) w _ _ (by simp)) (by simp [Ne.symm h.nb_eb])⟩
theorem FfAt.setE {w : World} {q nb eb : Nat} {nf ef : Nat → Int} (h : FfAt w q nb eb nf ef) (j : Nat) (x : Int) : FfAt (w.setCell ⟨eb, j, none⟩ (.int .i64 x)) q nb eb nf (upd ef j x) :=
  ⟨(Chg.setCell (S := [eb]) w _ _ (by simp)).at_ h.blk (by simp [h.q_eb]), h.nds.chg (Chg.setCell (S := [eb]) w _ _ (by simp)) (by simp [h.nb_eb]), h.eds.set j x⟩

set_option maxRecDepth 100000 in
set_option maxHeartbeats 2000000 in
theorem push0 (w : World) (q nb eb : Nat) (nf ef : Nat → Int) (h : FfAt w q nb eb nf ef) (i n : Nat) (hi : i < 60) (hn : n < 60) (hL : Loose nf n) (hE : ef (i * 3 + 1) = -1) :
    Calls Try.prog 83 #[.pointer (some ⟨q, 0, none⟩), .int .i64 i, .int .i64 n] w fun e w' => e = .returned (.bool true) ∧ FfAt w' q nb eb (pushN0 nf i n) (pushE0 ef i n) ∧ Chg [nb, eb] w w' := by
  have n0 := h.nb_eb
  have n1 := h.q_nb
  have n2 := h.q_eb
  obtain ⟨x0, x1, x2⟩ := cells3 h.nds hn
  rw [hL.1] at x0
  rw [hL.2.1] at x1
  rw [hL.2.2] at x2
  have HE := Lib.hid hE
  clear hL hE
  have hq := queue102 w q nb eb nf ef h i hi
  have hx := node103 w q nb eb nf ef h n hn
  go_enter Try.func83, Try.ntmps83
  go_wp2_with fail
  refine hq.mono ?_
  rintro e w' ⟨rfl, rfl⟩
  go_wp2_with fail
  refine hx.mono ?_
  rintro e w' ⟨rfl, rfl⟩
  go_wp2_with fail
  refine wp_cutR (Chg [] w) 11 (by kernel_rfl) (by kernel_rfl) (fun _ h => h) (fun W hW hS => ?_)
  simp only [List.take_succ_cons, List.take_zero, List.drop_succ_cons, List.drop_zero]
  have HW := Lib.hid hW
  clear hW
  refine takeH 0 (v := ?vv105) rfl (by kernel_rfl) (by kernel_rfl) (by kernel_rfl) (fun _ _ _ h => h) (by kernel_rfl) (fun Wx hSx => ?hy105) (by assumption) ?hrest105
  case hy105 => go_simp; (try with_reducible rfl)
  simp only [Act.put, List.setIfInBounds_toArray]
  refine takeH 1 (v := ?vv108) rfl (by kernel_rfl) (by kernel_rfl) (by kernel_rfl) (fun _ _ _ h => h) (by kernel_rfl) (fun Wx hSx => ?hy108) (by assumption) ?hrest108
  case hy108 => go_simp; (try with_reducible rfl)
  simp only [Act.put]
  refine takeH 2 (v := ?vv111) rfl (by kernel_rfl) (by kernel_rfl) (by kernel_rfl) (fun _ _ _ h => h) (by kernel_rfl) (fun Wx hSx => ?hy111) (by assumption) ?hrest111
  case hy111 => go_simp; (try with_reducible rfl)
  simp only [Act.put]
  refine takeH 3 (v := ?vv114) rfl (by kernel_rfl) (by kernel_rfl) (by kernel_rfl) (fun _ _ _ h => h) (by kernel_rfl) (fun Wx hSx => ?hy114) (by assumption) ?hrest114
  case hy114 => go_simp; (try with_reducible rfl)
  simp only [Act.put]
  refine takeH 4 (v := ?vv117) rfl (by kernel_rfl) (by kernel_rfl) (by kernel_rfl) (fun _ _ _ h => h) (by kernel_rfl) (fun Wx hSx => ?hy117) (by assumption) ?hrest117
  case hy117 => go_simp; (try with_reducible rfl)
  simp only [Act.put]
  refine takeH 5 (v := ?vv120) rfl (by kernel_rfl) (by kernel_rfl) (by kernel_rfl) (fun _ _ _ h => h) (by kernel_rfl) (fun Wx hSx => ?hy120) (by assumption) ?hrest120
  case hy120 => go_simp; (try with_reducible rfl)
  simp only [Act.put]
  refine takeH 6 (v := ?vv123) rfl (by kernel_rfl) (by kernel_rfl) (by kernel_rfl) (fun _ _ _ h => h) (by kernel_rfl) (fun Wx hSx => ?hy123) (by assumption) ?hrest123
  case hy123 => go_simp; (try with_reducible rfl)
  simp only [Act.put]
  refine takeH 7 (v := ?vv126) rfl (by kernel_rfl) (by kernel_rfl) (by kernel_rfl) (fun _ _ _ h => h) (by kernel_rfl) (fun Wx hSx => ?hy126) (by assumption) ?hrest126
  case hy126 => go_simp; (try with_reducible rfl)
  simp only [Act.put]
  refine takeH 8 (v := ?vv129) rfl (by kernel_rfl) (by kernel_rfl) (by kernel_rfl) (fun _ _ _ h => h) (by kernel_rfl) (fun Wx hSx => ?hy129) (by assumption) ?hrest129
  case hy129 => go_simp; (try with_reducible rfl)
  simp only [Act.put]
  refine takeH 9 (v := ?vv132) rfl (by kernel_rfl) (by kernel_rfl) (by kernel_rfl) (fun _ _ _ h => h) (by kernel_rfl) (fun Wx hSx => ?hy132) (by assumption) ?hrest132
  case hy132 => have q0 := hSx.cell x0 (by simp); have q1 := hSx.cell x1 (by simp); have q2 := hSx.cell x2 (by simp); go_simp; (try with_reducible rfl)
  simp only [Act.put]
  refine wpAnyH_ready (rs := [10]) (by kernel_rfl) (by simp) ?_
  refine (AllReadyH.cons rfl (fun K hK => ?_) AllReadyH.nil)
  all_goals try simp only [List.getElem_toArray, List.getElem_cons_succ, List.getElem_cons_zero]
  go_simp
  refine (loose95 _).mono ?_
  rintro e w1 ⟨rfl, hC⟩
  go_simp
  refine hK.out _ _ (hS.trans hC) (fun hHeld => ?_)
  clear hK K
  try simp only [Act.put, List.getElem_toArray, List.getElem_cons_succ, List.getElem_cons_zero, List.setIfInBounds_toArray, List.set_cons_zero, List.set_cons_succ]
  refine wpAnyH_done (by kernel_rfl) ?_ _
  simp only [cutQ]
  have h1 := h.chg hHeld (by simp) (by simp) (by simp)
  clear x0 x1 x2 hq hx hC HW h hS
  obtain ⟨x0, x1, x2⟩ := cells3 h1.nds hn
  obtain ⟨y0, y1, y2⟩ := cells3 h1.eds hi
  obtain ⟨fx0, fx1, fx2⟩ := free3 h1.nds n
  obtain ⟨fy0, fy1, fy2⟩ := free3 h1.eds i
  rw [HE.out] at y1
  have l1 := h1.nds.lt
  have l2 := h1.eds.lt
  have hF := ((((((h1.setN (n * 3) (-1)).setN (n * 3 + 1) (-1)).setN (n * 3 + 2) i).setE (i * 3) n).setE (i * 3 + 1) n).setE (i * 3 + 2) (wrap64 (ef (i * 3 + 2) + 1)))
  have hD : Chg [nb, eb] w _ := (hHeld.nil (S := [nb, eb])).trans ((((((Chg.setCell (S := [nb, eb]) w1 ⟨nb, n * 3, none⟩ (.int .i64 (-1)) (by simp)).trans (Chg.setCell _ ⟨nb, n * 3 + 1, none⟩ (.int .i64 (-1)) (by simp))).trans (Chg.setCell _ ⟨nb, n * 3 + 2, none⟩ (.int .i64 (i : Int)) (by simp))).trans (Chg.setCell _ ⟨eb, i * 3, none⟩ (.int .i64 (n : Int)) (by simp))).trans (Chg.setCell _ ⟨eb, i * 3 + 1, none⟩ (.int .i64 (n : Int)) (by simp))).trans (Chg.setCell _ ⟨eb, i * 3 + 2, none⟩ (.int .i64 (wrap64 (ef (i * 3 + 2) + 1))) (by simp)))
  have HF := Lib.hid (And.intro hF hD)
  clear hF hD h1 hHeld
  go_wp2_with fail
  refine (node103_no _ q).mono ?_
  rintro e w' ⟨rfl, rfl⟩
  go_wp2
  go_ret
  exact ⟨rfl, HF.out.1, HF.out.2⟩

set_option maxRecDepth 100000 in
set_option maxHeartbeats 2000000 in
theorem push1 (w : World) (q nb eb : Nat) (nf ef : Nat → Int) (h : FfAt w q nb eb nf ef) (i n m : Nat) (hi : i < 60) (hn : n < 60) (hm : m < 60) (hmn : m ≠ n) (hL : Loose nf n) (hE : ef (i * 3 + 1) = m) :
    Calls Try.prog 83 #[.pointer (some ⟨q, 0, none⟩), .int .i64 i, .int .i64 n] w fun e w' => e = .returned (.bool true) ∧ FfAt w' q nb eb (pushN1 nf i m n) (pushE1 ef i n) ∧ Chg [nb, eb] w w' := by
  have n0 := h.nb_eb
  have n1 := h.q_nb
  have n2 := h.q_eb
  obtain ⟨x0, x1, x2⟩ := cells3 h.nds hn
  rw [hL.1] at x0
  rw [hL.2.1] at x1
  rw [hL.2.2] at x2
  have HE := Lib.hid hE
  clear hL hE
  have hq := queue102 w q nb eb nf ef h i hi
  have hx := node103 w q nb eb nf ef h n hn
  go_enter Try.func83, Try.ntmps83
  go_wp2_with fail
  refine hq.mono ?_
  rintro e w' ⟨rfl, rfl⟩
  go_wp2_with fail
  refine hx.mono ?_
  rintro e w' ⟨rfl, rfl⟩
  go_wp2_with fail
  refine wp_cutR (Chg [] w) 11 (by kernel_rfl) (by kernel_rfl) (fun _ h => h) (fun W hW hS => ?_)
  simp only [List.take_succ_cons, List.take_zero, List.drop_succ_cons, List.drop_zero]
  have HW := Lib.hid hW
  clear hW
  refine takeH 0 (v := ?vv194) rfl (by kernel_rfl) (by kernel_rfl) (by kernel_rfl) (fun _ _ _ h => h) (by kernel_rfl) (fun Wx hSx => ?hy194) (by assumption) ?hrest194
  case hy194 => go_simp; (try with_reducible rfl)
  simp only [Act.put, List.setIfInBounds_toArray]
  refine takeH 1 (v := ?vv197) rfl (by kernel_rfl) (by kernel_rfl) (by kernel_rfl) (fun _ _ _ h => h) (by kernel_rfl) (fun Wx hSx => ?hy197) (by assumption) ?hrest197
  case hy197 => go_simp; (try with_reducible rfl)
  simp only [Act.put]
  refine takeH 2 (v := ?vv200) rfl (by kernel_rfl) (by kernel_rfl) (by kernel_rfl) (fun _ _ _ h => h) (by kernel_rfl) (fun Wx hSx => ?hy200) (by assumption) ?hrest200
  case hy200 => go_simp; (try with_reducible rfl)
  simp only [Act.put]
  refine takeH 3 (v := ?vv203) rfl (by kernel_rfl) (by kernel_rfl) (by kernel_rfl) (fun _ _ _ h => h) (by kernel_rfl) (fun Wx hSx => ?hy203) (by assumption) ?hrest203
  case hy203 => go_simp; (try with_reducible rfl)
  simp only [Act.put]
  refine takeH 4 (v := ?vv206) rfl (by kernel_rfl) (by kernel_rfl) (by kernel_rfl) (fun _ _ _ h => h) (by kernel_rfl) (fun Wx hSx => ?hy206) (by assumption) ?hrest206
  case hy206 => go_simp; (try with_reducible rfl)
  simp only [Act.put]
  refine takeH 5 (v := ?vv209) rfl (by kernel_rfl) (by kernel_rfl) (by kernel_rfl) (fun _ _ _ h => h) (by kernel_rfl) (fun Wx hSx => ?hy209) (by assumption) ?hrest209
  case hy209 => go_simp; (try with_reducible rfl)
  simp only [Act.put]
  refine takeH 6 (v := ?vv212) rfl (by kernel_rfl) (by kernel_rfl) (by kernel_rfl) (fun _ _ _ h => h) (by kernel_rfl) (fun Wx hSx => ?hy212) (by assumption) ?hrest212
  case hy212 => go_simp; (try with_reducible rfl)
  simp only [Act.put]
  refine takeH 7 (v := ?vv215) rfl (by kernel_rfl) (by kernel_rfl) (by kernel_rfl) (fun _ _ _ h => h) (by kernel_rfl) (fun Wx hSx => ?hy215) (by assumption) ?hrest215
  case hy215 => go_simp; (try with_reducible rfl)
  simp only [Act.put]
  refine takeH 8 (v := ?vv218) rfl (by kernel_rfl) (by kernel_rfl) (by kernel_rfl) (fun _ _ _ h => h) (by kernel_rfl) (fun Wx hSx => ?hy218) (by assumption) ?hrest218
  case hy218 => go_simp; (try with_reducible rfl)
  simp only [Act.put]
  refine takeH 9 (v := ?vv221) rfl (by kernel_rfl) (by kernel_rfl) (by kernel_rfl) (fun _ _ _ h => h) (by kernel_rfl) (fun Wx hSx => ?hy221) (by assumption) ?hrest221
  case hy221 => have q0 := hSx.cell x0 (by simp); have q1 := hSx.cell x1 (by simp); have q2 := hSx.cell x2 (by simp); go_simp; (try with_reducible rfl)
  simp only [Act.put]
  refine wpAnyH_ready (rs := [10]) (by kernel_rfl) (by simp) ?_
  refine (AllReadyH.cons rfl (fun K hK => ?_) AllReadyH.nil)
  all_goals try simp only [List.getElem_toArray, List.getElem_cons_succ, List.getElem_cons_zero]
  go_simp
  refine (loose95 _).mono ?_
  rintro e w1 ⟨rfl, hC⟩
  go_simp
  refine hK.out _ _ (hS.trans hC) (fun hHeld => ?_)
  clear hK K
  try simp only [Act.put, List.getElem_toArray, List.getElem_cons_succ, List.getElem_cons_zero, List.setIfInBounds_toArray, List.set_cons_zero, List.set_cons_succ]
  refine wpAnyH_done (by kernel_rfl) ?_ _
  simp only [cutQ]
  have h1 := h.chg hHeld (by simp) (by simp) (by simp)
  clear x0 x1 x2 hq hx hC HW h hS
  obtain ⟨x0, x1, x2⟩ := cells3 h1.nds hn
  obtain ⟨y0, y1, y2⟩ := cells3 h1.eds hi
  obtain ⟨fx0, fx1, fx2⟩ := free3 h1.nds n
  obtain ⟨fy0, fy1, fy2⟩ := free3 h1.eds i
  rw [HE.out] at y1
  have l1 := h1.nds.lt
  have l2 := h1.eds.lt
  have hF0 := ((h1.setN (n * 3) m).setN (n * 3 + 1) (-1)).setN (n * 3 + 2) i
  have hF := ((hF0.setN (m * 3 + 1) n).setE (i * 3 + 1) n).setE (i * 3 + 2) (wrap64 (ef (i * 3 + 2) + 1))
  have hD : Chg [nb, eb] w _ := (hHeld.nil (S := [nb, eb])).trans ((((((Chg.setCell (S := [nb, eb]) w1 ⟨nb, n * 3, none⟩ (.int .i64 (m : Int)) (by simp)).trans (Chg.setCell _ ⟨nb, n * 3 + 1, none⟩ (.int .i64 (-1)) (by simp))).trans (Chg.setCell _ ⟨nb, n * 3 + 2, none⟩ (.int .i64 (i : Int)) (by simp))).trans (Chg.setCell _ ⟨nb, m * 3 + 1, none⟩ (.int .i64 (n : Int)) (by simp))).trans (Chg.setCell _ ⟨eb, i * 3 + 1, none⟩ (.int .i64 (n : Int)) (by simp))).trans (Chg.setCell _ ⟨eb, i * 3 + 2, none⟩ (.int .i64 (wrap64 (ef (i * 3 + 2) + 1))) (by simp)))
  have HF := Lib.hid (And.intro hF hD)
  have hx := node103 _ q nb eb _ ef hF0 m hm
  obtain ⟨_, z1, _⟩ := cells3 h1.nds hm
  obtain ⟨_, fz1, _⟩ := free3 h1.nds m
  clear hF hD h1 hHeld hF0
  go_wp2_with fail
  refine hx.mono ?_
  clear hx
  rintro e w' ⟨rfl, rfl⟩
  go_wp2
  go_ret
  exact ⟨rfl, HF.out.1, HF.out.2⟩
end Go.Proofs.Ytdcjfaplgpeonaa
