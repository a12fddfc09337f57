/-
  The program's queues of nodes: their block, the small functions, Push.
-/
import Derived.Test.YtdcjfaplgpeonaaQ4
import Derived.Test.YtdcjfaplgpeonaaQ1
namespace Go.Proofs.Ytdcjfaplgpeonaa
open Go.RowKit Go.Dm

/-- Queues in block q: 60 nodes in block nb, 60 queues in block eb. -/
structure FfAt (w : World) (q nb eb : Nat) (nf ef : Nat → Int) : Prop where
  blk : w.heap[q]? = some (.cells #[.slice (some ⟨nb, 0, none⟩) 60 60, .slice (some ⟨eb, 0, none⟩) 60 60] 183 (0, 0))
  nds : IntsAt w nb 185 180 nf
  eds : IntsAt w eb 188 180 ef
theorem FfAt.chg {w w' : World} {q nb eb : Nat} {nf ef : Nat → Int} {S : List Nat} (h : FfAt w q nb eb nf ef) (hC : Chg S w w') (h0 : q ∉ S) (h1 : nb ∉ S) (h2 : eb ∉ S) : FfAt w' q nb eb nf ef :=
  ⟨hC.at_ h.blk h0, h.nds.chg hC h1, h.eds.chg hC h2⟩
theorem FfAt.q_nb {w : World} {q nb eb : Nat} {nf ef : Nat → Int} (h : FfAt w q nb eb nf ef) : q ≠ nb := h.nds.ne h.blk (by decide)
theorem FfAt.q_eb {w : World} {q nb eb : Nat} {nf ef : Nat → Int} (h : FfAt w q nb eb nf ef) : q ≠ eb := h.eds.ne h.blk (by decide)
theorem FfAt.nb_eb {w : World} {q nb eb : Nat} {nf ef : Nat → Int} (h : FfAt w q nb eb nf ef) : nb ≠ eb := by
  obtain ⟨cs, hb, _⟩ := h.nds
  exact h.eds.ne hb (by decide)

theorem loose95 (w : World) : Calls Try.prog 95 #[] w fun e w' => e = .returned (.agg #[.int .i64 (-1), .int .i64 (-1), .int .i64 (-1)]) ∧ Chg [] w w' := by
  go_enter Try.func95, Try.ntmps95
  go_wp2
  exact bodyPost_ret (v := .agg #[.int .i64 (-1), .int .i64 (-1), .int .i64 (-1)]) (by simp [results, Try.f95, go_sem]) rfl ⟨rfl, Chg.alloc _ _ _⟩
theorem empty96 (w : World) : Calls Try.prog 96 #[] w fun e w' => e = .returned (.agg #[.int .i64 (-1), .int .i64 (-1), .int .i64 0]) ∧ Chg [] w w' := by
  go_enter Try.func96, Try.ntmps96
  go_wp2
  exact bodyPost_ret (v := .agg #[.int .i64 (-1), .int .i64 (-1), .int .i64 0]) (by simp [results, Try.f96, go_sem]) rfl ⟨rfl, Chg.alloc _ _ _⟩

set_option maxHeartbeats 1000000 in
theorem queue102 (w : World) (q nb eb : Nat) (nf ef : Nat → Int) (h : FfAt w q nb eb nf ef) (i : Nat) (hi : i < 60) :
    Calls Try.prog 102 #[.pointer (some ⟨q, 0, none⟩), .int .i64 i] w fun e w' => e = .returned (.pointer (some ⟨eb, i * 3, none⟩)) ∧ w = w' := by
  obtain ⟨c0, c1⟩ := blk2 h.blk
  have i0 : (0 : Int) ≤ (i : Int) := Int.natCast_nonneg _
  have i1 : (i : Int) < 60 := by omega
  go_enter Try.func102, Try.ntmps102
  go_wp2
  go_ret
  exact ⟨rfl, rfl⟩
set_option maxHeartbeats 1000000 in
theorem node103 (w : World) (q nb eb : Nat) (nf ef : Nat → Int) (h : FfAt w q nb eb nf ef) (i : Nat) (hi : i < 60) :
    Calls Try.prog 103 #[.pointer (some ⟨q, 0, none⟩), .int .i64 i] w fun e w' => e = .returned (.pointer (some ⟨nb, i * 3, none⟩)) ∧ w = w' := by
  obtain ⟨c0, c1⟩ := blk2 h.blk
  have i0 : (0 : Int) ≤ (i : Int) := Int.natCast_nonneg _
  have i1 : (i : Int) < 60 := by omega
  go_enter Try.func103, Try.ntmps103
  go_wp2
  go_ret
  exact ⟨rfl, rfl⟩
set_option maxHeartbeats 1000000 in
theorem node103_no (w : World) (q : Nat) :
    Calls Try.prog 103 #[.pointer (some ⟨q, 0, none⟩), .int .i64 (-1)] w fun e w' => e = .returned (.pointer none) ∧ w = w' := by
  go_enter Try.func103, Try.ntmps103
  go_wp2
  go_ret
  exact ⟨rfl, rfl⟩

theorem cells3 {w : World} {b t : Nat} {c : Nat → Int} (h : IntsAt w b t 180 c) {i : Nat} (hi : i < 60) :
    w.cell? ⟨b, i * 3, none⟩ = some (.int .i64 (c (i * 3))) ∧ w.cell? ⟨b, i * 3 + 1, none⟩ = some (.int .i64 (c (i * 3 + 1))) ∧ w.cell? ⟨b, i * 3 + 2, none⟩ = some (.int .i64 (c (i * 3 + 2))) :=
  ⟨h.cell (by omega), h.cell (by omega), h.cell (by omega)⟩
theorem free3 {w : World} {b t : Nat} {c : Nat → Int} (h : IntsAt w b t 180 c) (i : Nat) : w.frozen? ⟨b, i * 3, none⟩ = false ∧ w.frozen? ⟨b, i * 3 + 1, none⟩ = false ∧ w.frozen? ⟨b, i * 3 + 2, none⟩ = false :=
  ⟨h.free _, h.free _, h.free _⟩

/-- A node that is in no queue. -/
def Loose (nf : Nat → Int) (n : Nat) : Prop := nf (n * 3) = -1 ∧ nf (n * 3 + 1) = -1 ∧ nf (n * 3 + 2) = -1
def upd3 (c : Nat → Int) (k : Nat) (x y z : Int) : Nat → Int := upd (upd (upd c k x) (k + 1) y) (k + 2) z
/-- What Push makes of a queue that is empty. -/
def pushN0 (nf : Nat → Int) (i n : Nat) : Nat → Int := upd3 nf (n * 3) (-1) (-1) i
def pushE0 (ef : Nat → Int) (i n : Nat) : Nat → Int := upd (upd (upd ef (i * 3) n) (i * 3 + 1) n) (i * 3 + 2) (wrap64 (ef (i * 3 + 2) + 1))
def pushN1 (nf : Nat → Int) (i m n : Nat) : Nat → Int := upd (upd3 nf (n * 3) m (-1) i) (m * 3 + 1) n
def pushE1 (ef : Nat → Int) (i n : Nat) : Nat → Int := upd (upd ef (i * 3 + 1) n) (i * 3 + 2) (wrap64 (ef (i * 3 + 2) + 1))

theorem FfAt.setN {w : World} {q nb eb : Nat} {nf ef : Nat → Int} (h : FfAt w q nb eb nf ef) (j : Nat) (x : Int) : FfAt (w.setCell ⟨nb, j, none⟩ (.int .i64 x)) q nb eb (upd nf j x) ef :=
  ⟨(Chg.setCell (S := [nb]) w _ _ (by simp)).at_ h.blk (by simp [h.q_nb]), h.nds.set j x, h.eds.chg (Chg.setCell (S := [nb]) w _ _ (by simp)) (by simp [Ne.symm h.nb_eb])⟩
theorem FfAt.setE {w : World} {q nb eb : Nat} {nf ef : Nat → Int} (h : FfAt w q nb eb nf ef) (j : Nat) (x : Int) : FfAt (w.setCell ⟨eb, j, none⟩ (.int .i64 x)) q nb eb nf (upd ef j x) :=
  ⟨(Chg.setCell (S := [eb]) w _ _ (by simp)).at_ h.blk (by simp [h.q_eb]), h.nds.chg (Chg.setCell (S := [eb]) w _ _ (by simp)) (by simp [h.nb_eb]), h.eds.set j x⟩

set_option maxRecDepth 100000 in
set_option maxHeartbeats 2000000 in
theorem push0 (w : World) (q nb eb : Nat) (nf ef : Nat → Int) (h : FfAt w q nb eb nf ef) (i n : Nat) (hi : i < 60) (hn : n < 60) (hL : Loose nf n) (hE : ef (i * 3 + 1) = -1) :
    Calls Try.prog 83 #[.pointer (some ⟨q, 0, none⟩), .int .i64 i, .int .i64 n] w fun e w' => e = .returned (.bool true) ∧ FfAt w' q nb eb (pushN0 nf i n) (pushE0 ef i n) ∧ Chg [nb, eb] w w' := by
  have n0 := h.nb_eb
  have n1 := h.q_nb
  have n2 := h.q_eb
  obtain ⟨x0, x1, x2⟩ := cells3 h.nds hn
  rw [hL.1] at x0
  rw [hL.2.1] at x1
  rw [hL.2.2] at x2
  have HE := Lib.hid hE
  clear hL hE
  have hq := queue102 w q nb eb nf ef h i hi
  have hx := node103 w q nb eb nf ef h n hn
  go_enter Try.func83, Try.ntmps83
  go_wp2_with fail
  refine hq.mono ?_
  rintro e w' ⟨rfl, rfl⟩
  go_wp2_with fail
  refine hx.mono ?_
  rintro e w' ⟨rfl, rfl⟩
  go_wp2_with fail
  refine wp_cutR (Chg [] w) 11 (by kernel_rfl) (by kernel_rfl) (fun _ h => h) (fun W hW hS => ?_)
  simp only [List.take_succ_cons, List.take_zero, List.drop_succ_cons, List.drop_zero]
  have HW := Lib.hid hW
  clear hW
  refine takeH 0 (v := ?vv105) rfl (by kernel_rfl) (by kernel_rfl) (by kernel_rfl) (fun _ _ _ h => h) (by kernel_rfl) (fun Wx hSx => ?hy105) (by assumption) ?hrest105
  case hy105 => go_simp; (try with_reducible rfl)
  simp only [Act.put, List.setIfInBounds_toArray]
  refine takeH 1 (v := ?vv108) rfl (by kernel_rfl) (by kernel_rfl) (by kernel_rfl) (fun _ _ _ h => h) (by kernel_rfl) (fun Wx hSx => ?hy108) (by assumption) ?hrest108
  case hy108 => go_simp; (try with_reducible rfl)
  simp only [Act.put]
  refine takeH 2 (v := ?vv111) rfl (by kernel_rfl) (by kernel_rfl) (by kernel_rfl) (fun _ _ _ h => h) (by kernel_rfl) (fun Wx hSx => ?hy111) (by assumption) ?hrest111
  case hy111 => go_simp; (try with_reducible rfl)
  simp only [Act.put]
  refine takeH 3 (v := ?vv114) rfl (by kernel_rfl) (by kernel_rfl) (by kernel_rfl) (fun _ _ _ h => h) (by kernel_rfl) (fun Wx hSx => ?hy114) (by assumption) ?hrest114
  case hy114 => go_simp; (try with_reducible rfl)
  simp only [Act.put]
  refine takeH 4 (v := ?vv117) rfl (by kernel_rfl) (by kernel_rfl) (by kernel_rfl) (fun _ _ _ h => h) (by kernel_rfl) (fun Wx hSx => ?hy117) (by assumption) ?hrest117
  case hy117 => go_simp; (try with_reducible rfl)
  simp only [Act.put]
  refine takeH 5 (v := ?vv120) rfl (by kernel_rfl) (by kernel_rfl) (by kernel_rfl) (fun _ _ _ h => h) (by kernel_rfl) (fun Wx hSx => ?hy120) (by assumption) ?hrest120
  case hy120 => go_simp; (try with_reducible rfl)
  simp only [Act.put]
  refine takeH 6 (v := ?vv123) rfl (by kernel_rfl) (by kernel_rfl) (by kernel_rfl) (fun _ _ _ h => h) (by kernel_rfl) (fun Wx hSx => ?hy123) (by assumption) ?hrest123
  case hy123 => go_simp; (try with_reducible rfl)
  simp only [Act.put]
  refine takeH 7 (v := ?vv126) rfl (by kernel_rfl) (by kernel_rfl) (by kernel_rfl) (fun _ _ _ h => h) (by kernel_rfl) (fun Wx hSx => ?hy126) (by assumption) ?hrest126
  case hy126 => go_simp; (try with_reducible rfl)
  simp only [Act.put]
  refine takeH 8 (v := ?vv129) rfl (by kernel_rfl) (by kernel_rfl) (by kernel_rfl) (fun _ _ _ h => h) (by kernel_rfl) (fun Wx hSx => ?hy129) (by assumption) ?hrest129
  case hy129 => go_simp; (try with_reducible rfl)
  simp only [Act.put]
  refine takeH 9 (v := ?vv132) rfl (by kernel_rfl) (by kernel_rfl) (by kernel_rfl) (fun _ _ _ h => h) (by kernel_rfl) (fun Wx hSx => ?hy132) (by assumption) ?hrest132
  case hy132 => have q0 := hSx.cell x0 (by simp); have q1 := hSx.cell x1 (by simp); have q2 := hSx.cell x2 (by simp); go_simp; (try with_reducible rfl)
  simp only [Act.put]
  refine wpAnyH_ready (rs := [10]) (by kernel_rfl) (by simp) ?_
  refine (AllReadyH.cons rfl (fun K hK => ?_) AllReadyH.nil)
  all_goals try simp only [List.getElem_toArray, List.getElem_cons_succ, List.getElem_cons_zero]
  go_simp
  refine (loose95 _).mono ?_
  rintro e w1 ⟨rfl, hC⟩
  go_simp
  refine hK.out _ _ (hS.trans hC) (fun hHeld => ?_)
  clear hK K
  try simp only [Act.put, List.getElem_toArray, List.getElem_cons_succ, List.getElem_cons_zero, List.setIfInBounds_toArray, List.set_cons_zero, List.set_cons_succ]
  refine wpAnyH_done (by kernel_rfl) ?_ _
  simp only [cutQ]
  have h1 := h.chg hHeld (by simp) (by simp) (by simp)
  clear x0 x1 x2 hq hx hC HW h hS
  obtain ⟨x0, x1, x2⟩ := cells3 h1.nds hn
  obtain ⟨y0, y1, y2⟩ := cells3 h1.eds hi
  obtain ⟨fx0, fx1, fx2⟩ := free3 h1.nds n
  obtain ⟨fy0, fy1, fy2⟩ := free3 h1.eds i
  rw [HE.out] at y1
  have l1 := h1.nds.lt
  have l2 := h1.eds.lt
  have hF := ((((((h1.setN (n * 3) (-1)).setN (n * 3 + 1) (-1)).setN (n * 3 + 2) i).setE (i * 3) n).setE (i * 3 + 1) n).setE (i * 3 + 2) (wrap64 (ef (i * 3 + 2) + 1)))
  have hD : Chg [nb, eb] w _ := (hHeld.nil (S := [nb, eb])).trans ((((((Chg.setCell (S := [nb, eb]) w1 ⟨nb, n * 3, none⟩ (.int .i64 (-1)) (by simp)).trans (Chg.setCell _ ⟨nb, n * 3 + 1, none⟩ (.int .i64 (-1)) (by simp))).trans (Chg.setCell _ ⟨nb, n * 3 + 2, none⟩ (.int .i64 (i : Int)) (by simp))).trans (Chg.setCell _ ⟨eb, i * 3, none⟩ (.int .i64 (n : Int)) (by simp))).trans (Chg.setCell _ ⟨eb, i * 3 + 1, none⟩ (.int .i64 (n : Int)) (by simp))).trans (Chg.setCell _ ⟨eb, i * 3 + 2, none⟩ (.int .i64 (wrap64 (ef (i * 3 + 2) + 1))) (by simp)))
  have HF := Lib.hid (And.intro hF hD)
  clear hF hD h1 hHeld
  go_wp2_with fail
  refine (node103_no _ q).mono ?_
  rintro e w' ⟨rfl, rfl⟩
  go_wp2
  go_ret
  exact ⟨rfl, HF.out.1, HF.out.2⟩

set_option maxRecDepth 100000 in
set_option maxHeartbeats 2000000 in
theorem push1 (w : World) (q nb eb : Nat) (nf ef : Nat → Int) (h : FfAt w q nb eb nf ef) (i n m : Nat) (hi : i < 60) (hn : n < 60) (hm : m < 60) (hmn : m ≠ n) (hL : Loose nf n) (hE : ef (i * 3 + 1) = m) :
    Calls Try.prog 83 #[.pointer (some ⟨q, 0, none⟩), .int .i64 i, .int .i64 n] w fun e w' => e = .returned (.bool true) ∧ FfAt w' q nb eb (pushN1 nf i m n) (pushE1 ef i n) ∧ Chg [nb, eb] w w' := by
  have n0 := h.nb_eb
  have n1 := h.q_nb
  have n2 := h.q_eb
  obtain ⟨x0, x1, x2⟩ := cells3 h.nds hn
  rw [hL.1] at x0
  rw [hL.2.1] at x1
  rw [hL.2.2] at x2
  have HE := Lib.hid hE
  clear hL hE
  have hq := queue102 w q nb eb nf ef h i hi
  have hx := node103 w q nb eb nf ef h n hn
  go_enter Try.func83, Try.ntmps83
  go_wp2_with fail
  refine hq.mono ?_
  rintro e w' ⟨rfl, rfl⟩
  go_wp2_with fail
  refine hx.mono ?_
  rintro e w' ⟨rfl, rfl⟩
  go_wp2_with fail
  refine wp_cutR (Chg [] w) 11 (by kernel_rfl) (by kernel_rfl) (fun _ h => h) (fun W hW hS => ?_)
  simp only [List.take_succ_cons, List.take_zero, List.drop_succ_cons, List.drop_zero]
  have HW := Lib.hid hW
  clear hW
  refine takeH 0 (v := ?vv194) rfl (by kernel_rfl) (by kernel_rfl) (by kernel_rfl) (fun _ _ _ h => h) (by kernel_rfl) (fun Wx hSx => ?hy194) (by assumption) ?hrest194
  case hy194 => go_simp; (try with_reducible rfl)
  simp only [Act.put, List.setIfInBounds_toArray]
  refine takeH 1 (v := ?vv197) rfl (by kernel_rfl) (by kernel_rfl) (by kernel_rfl) (fun _ _ _ h => h) (by kernel_rfl) (fun Wx hSx => ?hy197) (by assumption) ?hrest197
  case hy197 => go_simp; (try with_reducible rfl)
  simp only [Act.put]
  refine takeH 2 (v := ?vv200) rfl (by kernel_rfl) (by kernel_rfl) (by kernel_rfl) (fun _ _ _ h => h) (by kernel_rfl) (fun Wx hSx => ?hy200) (by assumption) ?hrest200
  case hy200 => go_simp; (try with_reducible rfl)
  simp only [Act.put]
  refine takeH 3 (v := ?vv203) rfl (by kernel_rfl) (by kernel_rfl) (by kernel_rfl) (fun _ _ _ h => h) (by kernel_rfl) (fun Wx hSx => ?hy203) (by assumption) ?hrest203
  case hy203 => go_simp; (try with_reducible rfl)
  simp only [Act.put]
  refine takeH 4 (v := ?vv206) rfl (by kernel_rfl) (by kernel_rfl) (by kernel_rfl) (fun _ _ _ h => h) (by kernel_rfl) (fun Wx hSx => ?hy206) (by assumption) ?hrest206
  case hy206 => go_simp; (try with_reducible rfl)
  simp only [Act.put]
  refine takeH 5 (v := ?vv209) rfl (by kernel_rfl) (by kernel_rfl) (by kernel_rfl) (fun _ _ _ h => h) (by kernel_rfl) (fun Wx hSx => ?hy209) (by assumption) ?hrest209
  case hy209 => go_simp; (try with_reducible rfl)
  simp only [Act.put]
  refine takeH 6 (v := ?vv212) rfl (by kernel_rfl) (by kernel_rfl) (by kernel_rfl) (fun _ _ _ h => h) (by kernel_rfl) (fun Wx hSx => ?hy212) (by assumption) ?hrest212
  case hy212 => go_simp; (try with_reducible rfl)
  simp only [Act.put]
  refine takeH 7 (v := ?vv215) rfl (by kernel_rfl) (by kernel_rfl) (by kernel_rfl) (fun _ _ _ h => h) (by kernel_rfl) (fun Wx hSx => ?hy215) (by assumption) ?hrest215
  case hy215 => go_simp; (try with_reducible rfl)
  simp only [Act.put]
  refine takeH 8 (v := ?vv218) rfl (by kernel_rfl) (by kernel_rfl) (by kernel_rfl) (fun _ _ _ h => h) (by kernel_rfl) (fun Wx hSx => ?hy218) (by assumption) ?hrest218
  case hy218 => go_simp; (try with_reducible rfl)
  simp only [Act.put]
  refine takeH 9 (v := ?vv221) rfl (by kernel_rfl) (by kernel_rfl) (by kernel_rfl) (fun _ _ _ h => h) (by kernel_rfl) (fun Wx hSx => ?hy221) (by assumption) ?hrest221
  case hy221 => have q0 := hSx.cell x0 (by simp); have q1 := hSx.cell x1 (by simp); have q2 := hSx.cell x2 (by simp); go_simp; (try with_reducible rfl)
  simp only [Act.put]
  refine wpAnyH_ready (rs := [10]) (by kernel_rfl) (by simp) ?_
  refine (AllReadyH.cons rfl (fun K hK => ?_) AllReadyH.nil)
  all_goals try simp only [List.getElem_toArray, List.getElem_cons_succ, List.getElem_cons_zero]
  go_simp
  refine (loose95 _).mono ?_
  rintro e w1 ⟨rfl, hC⟩
  go_simp
  refine hK.out _ _ (hS.trans hC) (fun hHeld => ?_)
  clear hK K
  try simp only [Act.put, List.getElem_toArray, List.getElem_cons_succ, List.getElem_cons_zero, List.setIfInBounds_toArray, List.set_cons_zero, List.set_cons_succ]
  refine wpAnyH_done (by kernel_rfl) ?_ _
  simp only [cutQ]
  have h1 := h.chg hHeld (by simp) (by simp) (by simp)
  clear x0 x1 x2 hq hx hC HW h hS
  obtain ⟨x0, x1, x2⟩ := cells3 h1.nds hn
  obtain ⟨y0, y1, y2⟩ := cells3 h1.eds hi
  obtain ⟨fx0, fx1, fx2⟩ := free3 h1.nds n
  obtain ⟨fy0, fy1, fy2⟩ := free3 h1.eds i
  rw [HE.out] at y1
  have l1 := h1.nds.lt
  have l2 := h1.eds.lt
  have hF0 := ((h1.setN (n * 3) m).setN (n * 3 + 1) (-1)).setN (n * 3 + 2) i
  have hF := ((hF0.setN (m * 3 + 1) n).setE (i * 3 + 1) n).setE (i * 3 + 2) (wrap64 (ef (i * 3 + 2) + 1))
  have hD : Chg [nb, eb] w _ := (hHeld.nil (S := [nb, eb])).trans ((((((Chg.setCell (S := [nb, eb]) w1 ⟨nb, n * 3, none⟩ (.int .i64 (m : Int)) (by simp)).trans (Chg.setCell _ ⟨nb, n * 3 + 1, none⟩ (.int .i64 (-1)) (by simp))).trans (Chg.setCell _ ⟨nb, n * 3 + 2, none⟩ (.int .i64 (i : Int)) (by simp))).trans (Chg.setCell _ ⟨nb, m * 3 + 1, none⟩ (.int .i64 (n : Int)) (by simp))).trans (Chg.setCell _ ⟨eb, i * 3 + 1, none⟩ (.int .i64 (n : Int)) (by simp))).trans (Chg.setCell _ ⟨eb, i * 3 + 2, none⟩ (.int .i64 (wrap64 (ef (i * 3 + 2) + 1))) (by simp)))
  have HF := Lib.hid (And.intro hF hD)
  have hx := node103 _ q nb eb _ ef hF0 m hm
  obtain ⟨_, z1, _⟩ := cells3 h1.nds hm
  obtain ⟨_, fz1, _⟩ := free3 h1.nds m
  clear hF hD h1 hHeld hF0
  go_wp2_with fail
  refine hx.mono ?_
  clear hx
  rintro e w' ⟨rfl, rfl⟩
  go_wp2
  go_ret
  exact ⟨rfl, HF.out.1, HF.out.2⟩
end Go.Proofs.Ytdcjfaplgpeonaa

/-
  New queues; a new ladder; a new book.
-/
namespace Go.Proofs.Ytdcjfaplgpeonaa
open Go.RowKit Go.Dm

theorem made3 : madeCells #[.int .i64 0, .int .i64 0, .int .i64 0] 180 = Array.replicate 180 (.int .i64 0) := by kernel_rfl
theorem make180 (w : World) : (Instr.makeSlice 180 (.int .i64 60) (.int .i64 60)).run Try.prog w = .ok (.slice (some ⟨w.heap.size, 0, none⟩) 60 60) (w.alloc (.cells (Array.replicate 180 (.int .i64 0)) 185)) := by
  obtain ⟨i, hi, hz, h1, h2⟩ := info_parts (show (Try.prog.info? 185).map (fun i => (i.zero, i.size, i.bytes)) = some (some (.agg #[.int .i64 0, .int .i64 0, .int .i64 0]), 3, 24) by kernel_rfl)
  have := run_make (P := Try.prog) w 180 185 i _ Try.underlying180 hi hz .i64 .i64 60 60 (by omega) (Int.le_refl _) (by rw [h2]; omega) (by omega)
  simp only [h1, Value.cells] at this
  rw [show (60 : Int).toNat * 3 = 180 from rfl, made3] at this
  exact this
theorem make181 (w : World) : (Instr.makeSlice 181 (.int .i64 60) (.int .i64 60)).run Try.prog w = .ok (.slice (some ⟨w.heap.size, 0, none⟩) 60 60) (w.alloc (.cells (Array.replicate 180 (.int .i64 0)) 188)) := by
  obtain ⟨i, hi, hz, h1, h2⟩ := info_parts (show (Try.prog.info? 188).map (fun i => (i.zero, i.size, i.bytes)) = some (some (.agg #[.int .i64 0, .int .i64 0, .int .i64 0]), 3, 24) by kernel_rfl)
  have := run_make (P := Try.prog) w 181 188 i _ Try.underlying181 hi hz .i64 .i64 60 60 (by omega) (Int.le_refl _) (by rw [h2]; omega) (by omega)
  simp only [h1, Value.cells] at this
  rw [show (60 : Int).toNat * 3 = 180 from rfl, made3] at this
  exact this

def newNf (k : Nat) : Nat → Int := fun j => if j < k * 3 then -1 else 0
def newEf (k : Nat) : Nat → Int := fun j => if j < k * 3 ∧ j % 3 ≠ 2 then -1 else 0
theorem FfAt.ext {w : World} {q nb eb : Nat} {nf ef nf' ef' : Nat → Int} (h : FfAt w q nb eb nf ef) (h1 : ∀ j, j < 180 → nf j = nf' j) (h2 : ∀ j, j < 180 → ef j = ef' j) : FfAt w q nb eb nf' ef' :=
  ⟨h.blk, h.nds.ext h1, h.eds.ext h2⟩
theorem newNf_succ (k : Nat) (j : Nat) (_ : j < 180) : upd (upd (upd (newNf k) (k * 3) (-1)) (k * 3 + 1) (-1)) (k * 3 + 2) (-1) j = newNf (k + 1) j := by
  unfold upd newNf
  by_cases h2 : j = k * 3 + 2
  · rw [if_pos h2, if_pos (by omega)]
  · rw [if_neg h2]
    by_cases h1 : j = k * 3 + 1
    · rw [if_pos h1, if_pos (by omega)]
    · rw [if_neg h1]
      by_cases h0 : j = k * 3
      · rw [if_pos h0, if_pos (by omega)]
      · rw [if_neg h0]
        by_cases h : j < k * 3
        · rw [if_pos h, if_pos (by omega)]
        · rw [if_neg h, if_neg (by omega)]
theorem newEf_succ (k : Nat) (j : Nat) (_ : j < 180) : upd (upd (upd (newEf k) (k * 3) (-1)) (k * 3 + 1) (-1)) (k * 3 + 2) 0 j = newEf (k + 1) j := by
  unfold upd newEf
  by_cases h2 : j = k * 3 + 2
  · rw [if_pos h2, if_neg (by omega)]
  · rw [if_neg h2]
    by_cases h1 : j = k * 3 + 1
    · rw [if_pos h1, if_pos (by omega)]
    · rw [if_neg h1]
      by_cases h0 : j = k * 3
      · rw [if_pos h0, if_pos (by omega)]
      · rw [if_neg h0]
        by_cases h : j < k * 3 ∧ j % 3 ≠ 2
        · rw [if_pos h, if_pos (by omega)]
        · rw [if_neg h, if_neg (by omega)]
def NodesRel (w : World) (q nb eb : Nat) (m : Nat) (i : Value) (wr : World) : Prop :=
  ∃ k : Nat, k ≤ 60 ∧ m = 60 - k + 1 ∧ i = .int .i64 k ∧ FfAt wr q nb eb (newNf k) (fun _ => 0) ∧ Chg [] w wr
def EndsRel (w : World) (q nb eb : Nat) (m : Nat) (i : Value) (wr : World) : Prop :=
  ∃ k : Nat, k ≤ 60 ∧ m = 60 - k + 1 ∧ i = .int .i64 k ∧ FfAt wr q nb eb (newNf 60) (newEf k) ∧ Chg [] w wr

set_option maxRecDepth 100000 in
set_option maxHeartbeats 2000000 in
theorem fnew (w : World) :
    Calls Try.prog 78 #[.int .i64 60, .int .i64 60] w fun e w' => ∃ q nb eb, e = .returned (.tuple #[.pointer (some ⟨q, 0, none⟩), .int .i64 0]) ∧ FfAt w' q nb eb (newNf 60) (newEf 60) ∧ Chg [] w w' ∧ w.heap.size ≤ q ∧ w.heap.size ≤ nb ∧ w.heap.size ≤ eb := by
  have m1 := make180
  have m2 := make181
  go_enter Try.func78, Try.ntmps78
  go_wp2_with fail
  go_region
  · have a1 := ints_made w 185 180
    have a2 := ints_made (w.alloc (.cells (Array.replicate 180 (.int .i64 0)) 185)) 188 180
    have hC1 := Chg.alloc [] w (.cells (Array.replicate 180 (.int .i64 0)) 185)
    have hC2 := Chg.alloc [] (w.alloc (.cells (Array.replicate 180 (.int .i64 0)) 185)) (.cells (Array.replicate 180 (.int .i64 0)) 188)
    have a3 := heap_alloc_new ((w.alloc (.cells (Array.replicate 180 (.int .i64 0)) 185)).alloc (.cells (Array.replicate 180 (.int .i64 0)) 188)) (.cells #[.slice (some ⟨w.heap.size, 0, none⟩) 60 60, .slice (some ⟨w.heap.size + 1, 0, none⟩) 60 60] 183)
    have hC3 := (Chg.alloc [] ((w.alloc (.cells (Array.replicate 180 (.int .i64 0)) 185)).alloc (.cells (Array.replicate 180 (.int .i64 0)) 188)) (.cells #[.slice (some ⟨w.heap.size, 0, none⟩) 60 60, .slice (some ⟨w.heap.size + 1, 0, none⟩) 60 60] 183)).trans (Chg.drew [] _)
    simp only [World.size_alloc] at a2 a3
    have hF : FfAt _ (w.heap.size + 1 + 1) w.heap.size (w.heap.size + 1) (newNf 0) (fun _ => 0) := ⟨(Chg.drew [] _).at_ a3 (by simp), (a1.chg hC2 (by simp)).chg hC3 (by simp), a2.chg hC3 (by simp)⟩
    have hC := (hC1.trans hC2).trans hC3
    clear m1 m2 a1 a2 a3 hC1 hC2 hC3
    go_wp2_with fail
    go_loopg [34] 61 (fun m i wr => NodesRel w (w.heap.size + 1 + 1) w.heap.size (w.heap.size + 1) m i wr)
    case atStart => exact ⟨0, by omega, rfl, rfl, hF, hC⟩
    case round =>
      clear hF hC
      obtain ⟨k, hk, hm, rfl, hF, hC⟩ := hrel
      have Hm := Lib.hid hm
      clear hm
      obtain ⟨c0, c1⟩ := blk2 hF.blk
      by_cases hlt : k < 60
      · have k0 : (0 : Int) ≤ (k : Int) := Int.natCast_nonneg _
        have k1 : (k : Int) < 60 := by omega
        obtain ⟨wo, rfl⟩ : ∃ wo : World, wo = wr := ⟨_, rfl⟩
        go_wp2_with fail
        refine wp_cutR (Chg [] wo) 6 (by kernel_rfl) (by kernel_rfl) (fun _ h => h) (fun W hW hS => ?_)
        simp only [List.take_succ_cons, List.take_zero, List.drop_succ_cons, List.drop_zero]
        have HW := Lib.hid hW
        clear hW
        refine takeH 0 (v := ?vv95) rfl (by kernel_rfl) (by kernel_rfl) (by kernel_rfl) (fun _ _ _ h => h) (by kernel_rfl) (fun Wx hSx => ?hy95) (by assumption) ?hrest95
        case hy95 => go_simp; (try with_reducible rfl)
        simp only [Act.put, List.setIfInBounds_toArray]
        refine takeH 1 (v := ?vv98) rfl (by kernel_rfl) (by kernel_rfl) (by kernel_rfl) (fun _ _ _ h => h) (by kernel_rfl) (fun Wx hSx => ?hy98) (by assumption) ?hrest98
        case hy98 => go_simp; (try with_reducible rfl)
        simp only [Act.put]
        refine takeH 2 (v := ?vv101) rfl (by kernel_rfl) (by kernel_rfl) (by kernel_rfl) (fun _ _ _ h => h) (by kernel_rfl) (fun Wx hSx => ?hy101) (by assumption) ?hrest101
        case hy101 => go_simp; (try with_reducible rfl)
        simp only [Act.put]
        refine takeH 3 (v := ?vv104) rfl (by kernel_rfl) (by kernel_rfl) (by kernel_rfl) (fun _ _ _ h => h) (by kernel_rfl) (fun Wx hSx => ?hy104) (by assumption) ?hrest104
        case hy104 => have q0 := hSx.cell c0 (by simp); go_simp; (try with_reducible rfl)
        simp only [Act.put]
        refine takeH 4 (v := ?vv107) rfl (by kernel_rfl) (by kernel_rfl) (by kernel_rfl) (fun _ _ _ h => h) (by kernel_rfl) (fun Wx hSx => ?hy107) (by assumption) ?hrest107
        case hy107 => go_simp; (try with_reducible rfl)
        simp only [Act.put]
        refine wpAnyH_ready (rs := [5]) (by kernel_rfl) (by simp) ?_
        refine (AllReadyH.cons rfl (fun K hK => ?_) AllReadyH.nil)
        all_goals try simp only [List.getElem_toArray, List.getElem_cons_succ, List.getElem_cons_zero]
        go_simp
        refine (loose95 _).mono ?_
        rintro e w1 ⟨rfl, hC4⟩
        go_simp
        refine hK.out _ _ (hS.trans hC4) (fun hHeld => ?_)
        clear hK K
        try simp only [Act.put, List.getElem_toArray, List.getElem_cons_succ, List.getElem_cons_zero, List.setIfInBounds_toArray, List.set_cons_zero, List.set_cons_succ]
        refine wpAnyH_done (by kernel_rfl) ?_ _
        simp only [cutQ]
        have h1 := hF.chg hHeld (by simp) (by simp) (by simp)
        have hC5 := hC.trans hHeld
        obtain ⟨x0, x1, x2⟩ := cells3 h1.nds hlt
        obtain ⟨fx0, fx1, fx2⟩ := free3 h1.nds k
        have l1 := h1.nds.lt
        have H1 := Lib.hid h1
        clear hS hC4 HW c0 c1 hF hC hHeld h1
        go_wp2
        go_roundg (60 - (k + 1) + 1)
        case measure => rw [Hm.out]; omega
        case rel => exact ⟨k + 1, by omega, rfl, by go_num, ((((H1.out.setN _ _).setN _ _).setN _ _).ext (newNf_succ k) (fun _ _ => rfl)), ((hC5.putNew (by omega)).putNew (by omega)).putNew (by omega)⟩
      · have hk60 : k = 60 := by omega
        subst hk60
        clear hk hlt
        go_wp2_with fail
        go_loopg [50] 61 (fun m i wr => EndsRel w (w.heap.size + 1 + 1) w.heap.size (w.heap.size + 1) m i wr)
        case atStart => exact ⟨0, by omega, rfl, rfl, hF, hC⟩
        case round =>
          clear hF hC c0 c1
          obtain ⟨k, hk, hm, rfl, hF, hC⟩ := hrel
          have Hm := Lib.hid hm
          clear hm
          obtain ⟨c0, c1⟩ := blk2 hF.blk
          by_cases hlt : k < 60
          · have k0 : (0 : Int) ≤ (k : Int) := Int.natCast_nonneg _
            have k1 : (k : Int) < 60 := by omega
            obtain ⟨wo, rfl⟩ : ∃ wo : World, wo = wr := ⟨_, rfl⟩
            go_wp2_with fail
            refine wp_cutR (Chg [] wo) 6 (by kernel_rfl) (by kernel_rfl) (fun _ h => h) (fun W hW hS => ?_)
            simp only [List.take_succ_cons, List.take_zero, List.drop_succ_cons, List.drop_zero]
            have HW := Lib.hid hW
            clear hW
            refine takeH 0 (v := ?vv154) rfl (by kernel_rfl) (by kernel_rfl) (by kernel_rfl) (fun _ _ _ h => h) (by kernel_rfl) (fun Wx hSx => ?hy154) (by assumption) ?hrest154
            case hy154 => go_simp; (try with_reducible rfl)
            simp only [Act.put, List.setIfInBounds_toArray]
            refine takeH 1 (v := ?vv157) rfl (by kernel_rfl) (by kernel_rfl) (by kernel_rfl) (fun _ _ _ h => h) (by kernel_rfl) (fun Wx hSx => ?hy157) (by assumption) ?hrest157
            case hy157 => go_simp; (try with_reducible rfl)
            simp only [Act.put]
            refine takeH 2 (v := ?vv160) rfl (by kernel_rfl) (by kernel_rfl) (by kernel_rfl) (fun _ _ _ h => h) (by kernel_rfl) (fun Wx hSx => ?hy160) (by assumption) ?hrest160
            case hy160 => go_simp; (try with_reducible rfl)
            simp only [Act.put]
            refine takeH 3 (v := ?vv163) rfl (by kernel_rfl) (by kernel_rfl) (by kernel_rfl) (fun _ _ _ h => h) (by kernel_rfl) (fun Wx hSx => ?hy163) (by assumption) ?hrest163
            case hy163 => have q0 := hSx.cell c1 (by simp); go_simp; (try with_reducible rfl)
            simp only [Act.put]
            refine takeH 4 (v := ?vv166) rfl (by kernel_rfl) (by kernel_rfl) (by kernel_rfl) (fun _ _ _ h => h) (by kernel_rfl) (fun Wx hSx => ?hy166) (by assumption) ?hrest166
            case hy166 => go_simp; (try with_reducible rfl)
            simp only [Act.put]
            refine wpAnyH_ready (rs := [5]) (by kernel_rfl) (by simp) ?_
            refine (AllReadyH.cons rfl (fun K hK => ?_) AllReadyH.nil)
            all_goals try simp only [List.getElem_toArray, List.getElem_cons_succ, List.getElem_cons_zero]
            go_simp
            refine (empty96 _).mono ?_
            rintro e w1 ⟨rfl, hC4⟩
            go_simp
            refine hK.out _ _ (hS.trans hC4) (fun hHeld => ?_)
            clear hK K
            try simp only [Act.put, List.getElem_toArray, List.getElem_cons_succ, List.getElem_cons_zero, List.setIfInBounds_toArray, List.set_cons_zero, List.set_cons_succ]
            refine wpAnyH_done (by kernel_rfl) ?_ _
            simp only [cutQ]
            have h1 := hF.chg hHeld (by simp) (by simp) (by simp)
            have hC5 := hC.trans hHeld
            obtain ⟨x0, x1, x2⟩ := cells3 h1.eds hlt
            obtain ⟨fx0, fx1, fx2⟩ := free3 h1.eds k
            have l1 := h1.eds.lt
            have H1 := Lib.hid h1
            clear hS hC4 HW c0 c1 hF hC hHeld h1
            go_wp2
            go_roundg (60 - (k + 1) + 1)
            case measure => rw [Hm.out]; omega
            case rel => exact ⟨k + 1, by omega, rfl, by go_num, ((((H1.out.setE _ _).setE _ _).setE _ _).ext (fun _ _ => rfl) (newEf_succ k)), ((hC5.putNew (by omega)).putNew (by omega)).putNew (by omega)⟩
          · have hk60 : k = 60 := by omega
            subst hk60
            clear hk hlt c0 c1
            go_wp2
            go_ret2
            exact ⟨_, _, _, rfl, hF, hC, by omega, by omega, by omega⟩
  · have a1 := ints_made w 188 180
    have a2 := ints_made (w.alloc (.cells (Array.replicate 180 (.int .i64 0)) 188)) 185 180
    have hC1 := Chg.alloc [] w (.cells (Array.replicate 180 (.int .i64 0)) 188)
    have hC2 := Chg.alloc [] (w.alloc (.cells (Array.replicate 180 (.int .i64 0)) 188)) (.cells (Array.replicate 180 (.int .i64 0)) 185)
    have a3 := heap_alloc_new ((w.alloc (.cells (Array.replicate 180 (.int .i64 0)) 188)).alloc (.cells (Array.replicate 180 (.int .i64 0)) 185)) (.cells #[.slice (some ⟨w.heap.size + 1, 0, none⟩) 60 60, .slice (some ⟨w.heap.size, 0, none⟩) 60 60] 183)
    have hC3 := (Chg.alloc [] ((w.alloc (.cells (Array.replicate 180 (.int .i64 0)) 188)).alloc (.cells (Array.replicate 180 (.int .i64 0)) 185)) (.cells #[.slice (some ⟨w.heap.size + 1, 0, none⟩) 60 60, .slice (some ⟨w.heap.size, 0, none⟩) 60 60] 183)).trans (Chg.drew [] _)
    simp only [World.size_alloc] at a2 a3
    have hF : FfAt _ (w.heap.size + 1 + 1) (w.heap.size + 1) w.heap.size (newNf 0) (fun _ => 0) := ⟨(Chg.drew [] _).at_ a3 (by simp), a2.chg hC3 (by simp), (a1.chg hC2 (by simp)).chg hC3 (by simp)⟩
    have hC := (hC1.trans hC2).trans hC3
    clear m1 m2 a1 a2 a3 hC1 hC2 hC3
    go_wp2_with fail
    go_loopg [34] 61 (fun m i wr => NodesRel w (w.heap.size + 1 + 1) (w.heap.size + 1) w.heap.size m i wr)
    case atStart => exact ⟨0, by omega, rfl, rfl, hF, hC⟩
    case round =>
      clear hF hC
      obtain ⟨k, hk, hm, rfl, hF, hC⟩ := hrel
      have Hm := Lib.hid hm
      clear hm
      obtain ⟨c0, c1⟩ := blk2 hF.blk
      by_cases hlt : k < 60
      · have k0 : (0 : Int) ≤ (k : Int) := Int.natCast_nonneg _
        have k1 : (k : Int) < 60 := by omega
        obtain ⟨wo, rfl⟩ : ∃ wo : World, wo = wr := ⟨_, rfl⟩
        go_wp2_with fail
        refine wp_cutR (Chg [] wo) 6 (by kernel_rfl) (by kernel_rfl) (fun _ h => h) (fun W hW hS => ?_)
        simp only [List.take_succ_cons, List.take_zero, List.drop_succ_cons, List.drop_zero]
        have HW := Lib.hid hW
        clear hW
        refine takeH 0 (v := ?vv226) rfl (by kernel_rfl) (by kernel_rfl) (by kernel_rfl) (fun _ _ _ h => h) (by kernel_rfl) (fun Wx hSx => ?hy226) (by assumption) ?hrest226
        case hy226 => go_simp; (try with_reducible rfl)
        simp only [Act.put, List.setIfInBounds_toArray]
        refine takeH 1 (v := ?vv229) rfl (by kernel_rfl) (by kernel_rfl) (by kernel_rfl) (fun _ _ _ h => h) (by kernel_rfl) (fun Wx hSx => ?hy229) (by assumption) ?hrest229
        case hy229 => go_simp; (try with_reducible rfl)
        simp only [Act.put]
        refine takeH 2 (v := ?vv232) rfl (by kernel_rfl) (by kernel_rfl) (by kernel_rfl) (fun _ _ _ h => h) (by kernel_rfl) (fun Wx hSx => ?hy232) (by assumption) ?hrest232
        case hy232 => go_simp; (try with_reducible rfl)
        simp only [Act.put]
        refine takeH 3 (v := ?vv235) rfl (by kernel_rfl) (by kernel_rfl) (by kernel_rfl) (fun _ _ _ h => h) (by kernel_rfl) (fun Wx hSx => ?hy235) (by assumption) ?hrest235
        case hy235 => have q0 := hSx.cell c0 (by simp); go_simp; (try with_reducible rfl)
        simp only [Act.put]
        refine takeH 4 (v := ?vv238) rfl (by kernel_rfl) (by kernel_rfl) (by kernel_rfl) (fun _ _ _ h => h) (by kernel_rfl) (fun Wx hSx => ?hy238) (by assumption) ?hrest238
        case hy238 => go_simp; (try with_reducible rfl)
        simp only [Act.put]
        refine wpAnyH_ready (rs := [5]) (by kernel_rfl) (by simp) ?_
        refine (AllReadyH.cons rfl (fun K hK => ?_) AllReadyH.nil)
        all_goals try simp only [List.getElem_toArray, List.getElem_cons_succ, List.getElem_cons_zero]
        go_simp
        refine (loose95 _).mono ?_
        rintro e w1 ⟨rfl, hC4⟩
        go_simp
        refine hK.out _ _ (hS.trans hC4) (fun hHeld => ?_)
        clear hK K
        try simp only [Act.put, List.getElem_toArray, List.getElem_cons_succ, List.getElem_cons_zero, List.setIfInBounds_toArray, List.set_cons_zero, List.set_cons_succ]
        refine wpAnyH_done (by kernel_rfl) ?_ _
        simp only [cutQ]
        have h1 := hF.chg hHeld (by simp) (by simp) (by simp)
        have hC5 := hC.trans hHeld
        obtain ⟨x0, x1, x2⟩ := cells3 h1.nds hlt
        obtain ⟨fx0, fx1, fx2⟩ := free3 h1.nds k
        have l1 := h1.nds.lt
        have H1 := Lib.hid h1
        clear hS hC4 HW c0 c1 hF hC hHeld h1
        go_wp2
        go_roundg (60 - (k + 1) + 1)
        case measure => rw [Hm.out]; omega
        case rel => exact ⟨k + 1, by omega, rfl, by go_num, ((((H1.out.setN _ _).setN _ _).setN _ _).ext (newNf_succ k) (fun _ _ => rfl)), ((hC5.putNew (by omega)).putNew (by omega)).putNew (by omega)⟩
      · have hk60 : k = 60 := by omega
        subst hk60
        clear hk hlt
        go_wp2_with fail
        go_loopg [50] 61 (fun m i wr => EndsRel w (w.heap.size + 1 + 1) (w.heap.size + 1) w.heap.size m i wr)
        case atStart => exact ⟨0, by omega, rfl, rfl, hF, hC⟩
        case round =>
          clear hF hC c0 c1
          obtain ⟨k, hk, hm, rfl, hF, hC⟩ := hrel
          have Hm := Lib.hid hm
          clear hm
          obtain ⟨c0, c1⟩ := blk2 hF.blk
          by_cases hlt : k < 60
          · have k0 : (0 : Int) ≤ (k : Int) := Int.natCast_nonneg _
            have k1 : (k : Int) < 60 := by omega
            obtain ⟨wo, rfl⟩ : ∃ wo : World, wo = wr := ⟨_, rfl⟩
            go_wp2_with fail
            refine wp_cutR (Chg [] wo) 6 (by kernel_rfl) (by kernel_rfl) (fun _ h => h) (fun W hW hS => ?_)
            simp only [List.take_succ_cons, List.take_zero, List.drop_succ_cons, List.drop_zero]
            have HW := Lib.hid hW
            clear hW
            refine takeH 0 (v := ?vv285) rfl (by kernel_rfl) (by kernel_rfl) (by kernel_rfl) (fun _ _ _ h => h) (by kernel_rfl) (fun Wx hSx => ?hy285) (by assumption) ?hrest285
            case hy285 => go_simp; (try with_reducible rfl)
            simp only [Act.put, List.setIfInBounds_toArray]
            refine takeH 1 (v := ?vv288) rfl (by kernel_rfl) (by kernel_rfl) (by kernel_rfl) (fun _ _ _ h => h) (by kernel_rfl) (fun Wx hSx => ?hy288) (by assumption) ?hrest288
            case hy288 => go_simp; (try with_reducible rfl)
            simp only [Act.put]
            refine takeH 2 (v := ?vv291) rfl (by kernel_rfl) (by kernel_rfl) (by kernel_rfl) (fun _ _ _ h => h) (by kernel_rfl) (fun Wx hSx => ?hy291) (by assumption) ?hrest291
            case hy291 => go_simp; (try with_reducible rfl)
            simp only [Act.put]
            refine takeH 3 (v := ?vv294) rfl (by kernel_rfl) (by kernel_rfl) (by kernel_rfl) (fun _ _ _ h => h) (by kernel_rfl) (fun Wx hSx => ?hy294) (by assumption) ?hrest294
            case hy294 => have q0 := hSx.cell c1 (by simp); go_simp; (try with_reducible rfl)
            simp only [Act.put]
            refine takeH 4 (v := ?vv297) rfl (by kernel_rfl) (by kernel_rfl) (by kernel_rfl) (fun _ _ _ h => h) (by kernel_rfl) (fun Wx hSx => ?hy297) (by assumption) ?hrest297
            case hy297 => go_simp; (try with_reducible rfl)
            simp only [Act.put]
            refine wpAnyH_ready (rs := [5]) (by kernel_rfl) (by simp) ?_
            refine (AllReadyH.cons rfl (fun K hK => ?_) AllReadyH.nil)
            all_goals try simp only [List.getElem_toArray, List.getElem_cons_succ, List.getElem_cons_zero]
            go_simp
            refine (empty96 _).mono ?_
            rintro e w1 ⟨rfl, hC4⟩
            go_simp
            refine hK.out _ _ (hS.trans hC4) (fun hHeld => ?_)
            clear hK K
            try simp only [Act.put, List.getElem_toArray, List.getElem_cons_succ, List.getElem_cons_zero, List.setIfInBounds_toArray, List.set_cons_zero, List.set_cons_succ]
            refine wpAnyH_done (by kernel_rfl) ?_ _
            simp only [cutQ]
            have h1 := hF.chg hHeld (by simp) (by simp) (by simp)
            have hC5 := hC.trans hHeld
            obtain ⟨x0, x1, x2⟩ := cells3 h1.eds hlt
            obtain ⟨fx0, fx1, fx2⟩ := free3 h1.eds k
            have l1 := h1.eds.lt
            have H1 := Lib.hid h1
            clear hS hC4 HW c0 c1 hF hC hHeld h1
            go_wp2
            go_roundg (60 - (k + 1) + 1)
            case measure => rw [Hm.out]; omega
            case rel => exact ⟨k + 1, by omega, rfl, by go_num, ((((H1.out.setE _ _).setE _ _).setE _ _).ext (fun _ _ => rfl) (newEf_succ k)), ((hC5.putNew (by omega)).putNew (by omega)).putNew (by omega)⟩
          · have hk60 : k = 60 := by omega
            subst hk60
            clear hk hlt c0 c1
            go_wp2
            go_ret2
            exact ⟨_, _, _, rfl, hF, hC, by omega, by omega, by omega⟩
end Go.Proofs.Ytdcjfaplgpeonaa

/-
  A new ladder; a new book.
-/
namespace Go.Proofs.Ytdcjfaplgpeonaa
open Go.RowKit Go.Dm

/-- A level: price, quantity, how many orders, its queue; and the slots that stand in the queue. -/
structure Lvl where
  p : Int
  q : Int
  n : Int
  u : Nat
  s : List Nat
def lvE (x : Lvl) : List Value := [.int .i64 x.p, .int .i64 x.q, .int .i64 x.n, .int .i64 x.u]
theorem lvR : REnc 4 lvE := ⟨fun _ => rfl, fun a u hu => by simp [lvE] at hu; rcases hu with rfl | rfl | rfl | rfl <;> rfl⟩
theorem elem175 : ElemIs Try.prog 175 167 4 32 := ⟨Try.underlying175, by
  obtain ⟨i, hi, hz, h1, h2⟩ := info_parts (show (Try.prog.info? 167).map (fun i => (i.zero, i.size, i.bytes)) = some (some (.agg #[.int .i64 0, .int .i64 0, .int .i64 0, .int .i64 0]), 4, 32) by kernel_rfl)
  exact ⟨i, _, hi, hz, h1, h2, rfl⟩, by decide⟩
theorem lvs_at {w : World} {g n c : Nat} {l : List Lvl} (h : SlAt 167 4 lvE w (.slice (some ⟨g, 0, none⟩) n c) l) {k : Nat} {x : Lvl} (hp : l[k]? = some x) :
    w.cell? ⟨g, k * 4, none⟩ = some (.int .i64 x.p) ∧ w.cell? ⟨g, k * 4 + 1, none⟩ = some (.int .i64 x.q) ∧ w.cell? ⟨g, k * 4 + 2, none⟩ = some (.int .i64 x.n) ∧ w.cell? ⟨g, k * 4 + 3, none⟩ = some (.int .i64 x.u) :=
  ⟨h.at_ lvR hp (j := 0) (by omega), h.at_ lvR hp (j := 1) (by omega), h.at_ lvR hp (j := 2) (by omega), h.at_ lvR hp (j := 3) (by omega)⟩

/-- A side's ladder in block r: its levels; the queues below u's bits are taken. -/
def LdBlk (w : World) (r : Nat) (sd : Int) (v : Value) (u : Nat) : Prop := w.heap[r]? = some (.cells #[.int .i64 sd, .int .i64 60, v, .int .u64 u, .int .u64 0, .int .u64 0, .int .u64 0] 179 (0, 0))
def LdAt (w : World) (r : Nat) (sd : Int) (l : List Lvl) (u : Nat) : Prop := ∃ v, LdBlk w r sd v u ∧ SlAt 167 4 lvE w v l

set_option maxHeartbeats 1000000 in
theorem lnew (w : World) (sd : Int) (hs : sd = 0 ∨ sd = 1) :
    Calls Try.prog 77 #[.int .i64 sd, .int .i64 60] w fun e w' => e = .returned (.tuple #[.pointer (some ⟨w.heap.size, 0, none⟩), .int .i64 0]) ∧ LdAt w' w.heap.size sd [] 0 ∧ Chg [] w w' := by
  rcases hs with rfl | rfl
  all_goals
    go_enter Try.func77, Try.ntmps77
    go_wp2
    go_ret2
    exact ⟨rfl, ⟨_, heap_alloc_new w _, SlAt.nil _ _ _ _⟩, Chg.alloc _ _ _⟩

/-- The program's book: the blocks of its parts. -/
structure Bks where
  b : Nat
  ar : Nat
  l0 : Nat
  q0 : Nat
  l1 : Nat
  q1 : Nat
  ix : Nat

theorem blk6 {w : World} {b : Nat} {u0 u1 u2 u3 u4 u5 : Value} {t : TypeId} {fr : Nat × Nat} (h : w.heap[b]? = some (.cells #[u0, u1, u2, u3, u4, u5] t fr)) :
    w.cell? ⟨b, 0, none⟩ = some u0 ∧ w.cell? ⟨b, 1, none⟩ = some u1 ∧ w.cell? ⟨b, 2, none⟩ = some u2 ∧ w.cell? ⟨b, 3, none⟩ = some u3 ∧ w.cell? ⟨b, 4, none⟩ = some u4 ∧ w.cell? ⟨b, 5, none⟩ = some u5 := by
  simp [World.cell?, h]

end Go.Proofs.Ytdcjfaplgpeonaa
