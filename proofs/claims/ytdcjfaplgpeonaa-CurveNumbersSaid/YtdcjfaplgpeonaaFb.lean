/-
  New queues; a new ladder; a new book.
-/
import Derived.Test.YtdcjfaplgpeonaaFa
namespace Go.Proofs.Ytdcjfaplgpeonaa
open Go.RowKit Go.Dm

theorem made3 : madeCells #[.int .i64 0, .int .i64 0, .int .i64 0] 180 = Array.replicate 180 (.int .i64 0) := by kernel_rfl
theorem make180 (w : World) : (Instr.makeSlice 180 (.int .i64 60) (.int .i64 60)).run Try.prog w = .ok (.slice (some ⟨w.heap.size, 0, none⟩) 60 60) (w.alloc (.cells (Array.replicate 180 (.int .i64 0)) 185)) := by
  obtain ⟨i, hi, hz, h1, h2⟩ := info_parts (show (Try.prog.info? 185).map (fun i => (i.zero, i.size, i.bytes)) = some (some (.agg #[.int .i64 0, .int .i64 0, .int .i64 0]), 3, 24) by kernel_rfl)
  have := run_make (P := Try.prog) w 180 185 i _ Try.underlying180 hi hz .i64 .i64 60 60 (by omega) (Int.le_refl _) (by rw [h2]; omega) (by omega)
  simp only [h1, Value.cells] at this
  rw [show (60 : Int).toNat * 3 = 180 from rfl, made3] at this
  exact this
theorem make181 (w : World) : (Instr.makeSlice 181 (.int .i64 60) (.int .i64 60)).run Try.prog w = .ok (.slice (some ⟨w.heap.size, 0, none⟩) 60 60) (w.alloc (.cells (Array.replicate 180 (.int .i64 0)) 188)) := by
  obtain ⟨i, hi, hz, h1, h2⟩ := info_parts (show (Try.prog.info? 188).map (fun i => (i.zero, i.size, i.bytes)) = some (some (.agg #[.int .i64 0, .int .i64 0, .int .i64 0]), 3, 24) by kernel_rfl)
  have := run_make (P := Try.prog) w 181 188 i _ Try.underlying181 hi hz .i64 .i64 60 60 (by omega) (Int.le_refl _) (by rw [h2]; omega) (by omega)
  simp only [h1, Value.cells] at this
  rw [show (60 : Int).toNat * 3 = 180 from rfl, made3] at this
  exact this

def newNf (k : Nat) : Nat → Int := fun j => if j < k * 3 then -1 else 0
def newEf (k : Nat) : Nat → Int := fun j => if j < k * 3 ∧ j % 3 ≠ 2 then -1 else 0
theorem FfAt.ext {w : World} {q nb eb : Nat} {nf ef nf' ef' : Nat → Int} (h : FfAt w q nb eb nf ef) (h1 : ∀ j, j < 180 → nf j = nf' j) (h2 : ∀ j, j < 180 → ef j = ef' j) : FfAt w q nb eb nf' ef' :=
  ⟨h.blk, h.nds.ext h1, h.eds.ext h2⟩
theorem newNf_succ (k : Nat) (j : Nat) (_ : j < 180) : upd (upd (upd (newNf k) (k * 3) (-1)) (k * 3 + 1) (-1)) (k * 3 + 2) (-1) j = newNf (k + 1) j := by
  unfold upd newNf
  by_cases h2 : j = k * 3 + 2
  · rw [if_pos h2, if_pos (by omega)]
  · rw [if_neg h2]
    by_cases h1 : j = k * 3 + 1
    · rw [if_pos h1, if_pos (by omega)]
    · rw [if_neg h1]
      by_cases h0 : j = k * 3
      · rw [if_pos h0, if_pos (by omega)]
      · rw [if_neg h0]
        by_cases h : j < k * 3
        · rw [if_pos h, if_pos (by omega)]
        · rw [if_neg h, if_neg (by omega)]
theorem newEf_succ (k : Nat) (j : Nat) (_ : j < 180) : upd (upd (upd (newEf k) (k * 3) (-1)) (k * 3 + 1) (-1)) (k * 3 + 2) 0 j = newEf (k + 1) j := by
  unfold upd newEf
  by_cases h2 : j = k * 3 + 2
  · rw [if_pos h2, if_neg (by omega)]
  · rw [if_neg h2]
    by_cases h1 : j = k * 3 + 1
    · rw [if_pos h1, if_pos (by omega)]
    · rw [if_neg h1]
      by_cases h0 : j = k * 3
      · rw [if_pos h0, if_pos (by omega)]
      · rw [if_neg h0]
        by_cases h : j < k * 3 ∧ j % 3 ≠ 2
        · rw [if_pos h, if_pos (by omega)]
        · rw [if_neg h, if_neg (by omega)]
def NodesRel (w : World) (q nb eb : Nat) (m : Nat) (i : Value) (wr : World) : Prop :=
  ∃ k : Nat, k ≤ 60 ∧ m = 60 - k + 1 ∧ i = .int .i64 k ∧ FfAt wr q nb eb (newNf k) (fun _ => 0) ∧ Chg [] w wr
def EndsRel (w : World) (q nb eb : Nat) (m : Nat) (i : Value) (wr : World) : Prop :=
  ∃ k : Nat, k ≤ 60 ∧ m = 60 - k + 1 ∧ i = .int .i64 k ∧ FfAt wr q nb eb (newNf 60) (newEf k) ∧ Chg [] w wr

set_option maxRecDepth 100000 in
set_option maxHeartbeats 2000000 in
theorem fnew (w : World) :
    Calls Try.prog 78 #[.int .i64 60, .int .i64 60] w fun e w' => ∃ q nb eb, e = .returned (.tuple #[.pointer (some ⟨q, 0, none⟩), .int .i64 0]) ∧ FfAt w' q nb eb (newNf 60) (newEf 60) ∧ Chg [] w w' ∧ w.heap.size ≤ q ∧ w.heap.size ≤ nb ∧ w.heap.size ≤ eb := by
  have m1 := make180
  have m2 := make181
  go_enter Try.func78, Try.ntmps78
  go_wp2_with fail
  go_region
  · have a1 := ints_made w 185 180
    have a2 := ints_made (w.alloc (.cells (Array.replicate 180 (.int .i64 0)) 185)) 188 180
    have hC1 := Chg.alloc [] w (.cells (Array.replicate 180 (.int .i64 0)) 185)
    have hC2 := Chg.alloc [] (w.alloc (.cells (Array.replicate 180 (.int .i64 0)) 185)) (.cells (Array.replicate 180 (.int .i64 0)) 188)
    have a3 := heap_alloc_new ((w.alloc (.cells (Array.replicate 180 (.int .i64 0)) 185)).alloc (.cells (Array.replicate 180 (.int .i64 0)) 188)) (.cells #[.slice (some ⟨w.heap.size, 0, none⟩) 60 60, .slice (some ⟨w.heap.size + 1, 0, none⟩) 60 60] 183)
    have hC3 := (Chg.alloc [] ((w.alloc (.cells (Array.replicate 180 (.int .i64 0)) 185)).alloc (.cells (Array.replicate 180 (.int .i64 0)) 188)) (.cells #[.slice (some ⟨w.heap.size, 0, none⟩) 60 60, .slice (some ⟨w.heap.size + 1, 0, none⟩) 60 60] 183)).trans (Chg.drew [] _)
    simp only [World.size_alloc] at a2 a3
    have hF : FfAt _ (w.heap.size + 1 + 1) w.heap.size (w.heap.size + 1) (newNf 0) (fun _ => 0) := ⟨(Chg.drew [] _).at_ a3 (by simp), (a1.chg hC2 (by simp)).chg hC3 (by simp), a2.chg hC3 (by simp)⟩
    have hC := (hC1.trans hC2).trans hC3
    clear m1 m2 a1 a2 a3 hC1 hC2 hC3
    go_wp2_with fail
    go_loopg [34] 61 (fun m i wr => NodesRel w (w.heap.size + 1 + 1) w.heap.size (w.heap.size + 1) m i wr)
    case atStart => exact ⟨0, by omega, rfl, rfl, hF, hC⟩
    case round =>
      clear hF hC
      obtain ⟨k, hk, hm, rfl, hF, hC⟩ := hrel
      have Hm := Lib.hid hm
      clear hm
      obtain ⟨c0, c1⟩ := blk2 hF.blk
      by_cases hlt : k < 60
      · have k0 : (0 : Int) ≤ (k : Int) := Int.natCast_nonneg _
        have k1 : (k : Int) < 60 := by omega
        obtain ⟨wo, rfl⟩ : ∃ wo : World, wo = wr := ⟨_, rfl⟩
        go_wp2_with fail
        refine wp_cutR (Chg [] wo) 6 (by kernel_rfl) (by kernel_rfl) (fun _ h => h) (fun W hW hS => ?_)
        simp only [List.take_succ_cons, List.take_zero, List.drop_succ_cons, List.drop_zero]
        have HW := Lib.hid hW
        clear hW
        refine takeH 0 (v := ?vv95) rfl (by kernel_rfl) (by kernel_rfl) (by kernel_rfl) (fun _ _ _ h => h) (by kernel_rfl) (fun Wx hSx => ?hy95) (by assumption) ?hrest95
        case hy95 => go_simp; (try with_reducible rfl)
        simp only [Act.put, List.setIfInBounds_toArray]
        refine takeH 1 (v := ?vv98) rfl (by kernel_rfl) (by kernel_rfl) (by kernel_rfl) (fun _ _ _ h => h) (by kernel_rfl) (fun Wx hSx => ?hy98) (by assumption) ?hrest98
        case hy98 => go_simp; (try with_reducible rfl)
        simp only [Act.put]
        refine takeH 2 (v := ?vv101) rfl (by kernel_rfl) (by kernel_rfl) (by kernel_rfl) (fun _ _ _ h => h) (by kernel_rfl) (fun Wx hSx => ?hy101) (by assumption) ?hrest101
        case hy101 => go_simp; (try with_reducible rfl)
        simp only [Act.put]
        refine takeH 3 (v := ?vv104) rfl (by kernel_rfl) (by kernel_rfl) (by kernel_rfl) (fun _ _ _ h => h) (by kernel_rfl) (fun Wx hSx => ?hy104) (by assumption) ?hrest104
        case hy104 => have q0 := hSx.cell c0 (by simp); go_simp; (try with_reducible rfl)
        simp only [Act.put]
        refine takeH 4 (v := ?vv107) rfl (by kernel_rfl) (by kernel_rfl) (by kernel_rfl) (fun _ _ _ h => h) (by kernel_rfl) (fun Wx hSx => ?hy107) (by assumption) ?hrest107
        case hy107 => go_simp; (try with_reducible rfl)
        simp only [Act.put]
        refine wpAnyH_ready (rs := [5]) (by kernel_rfl) (by simp) ?_
        refine (AllReadyH.cons rfl (fun K hK => ?_) AllReadyH.nil)
        all_goals try simp only [List.getElem_toArray, List.getElem_cons_succ, List.getElem_cons_zero]
        go_simp
        refine (loose95 _).mono ?_
        rintro e w1 ⟨rfl, hC4⟩
        go_simp
        refine hK.out _ _ (hS.trans hC4) (fun hHeld => ?_)
        clear hK K
        try simp only [Act.put, List.getElem_toArray, List.getElem_cons_succ, List.getElem_cons_zero, List.setIfInBounds_toArray, List.set_cons_zero, List.set_cons_succ]
        refine wpAnyH_done (by kernel_rfl) ?_ _
        simp only [cutQ]
        have h1 := hF.chg hHeld (by simp) (by simp) (by simp)
        have hC5 := hC.trans hHeld
        obtain ⟨x0, x1, x2⟩ := cells3 h1.nds hlt
        obtain ⟨fx0, fx1, fx2⟩ := free3 h1.nds k
        have l1 := h1.nds.lt
        have H1 := Lib.hid h1
        clear hS hC4 HW c0 c1 hF hC hHeld h1
        go_wp2
        go_roundg (60 - (k + 1) + 1)
        case measure => rw [Hm.out]; omega
        case rel => exact ⟨k + 1, by omega, rfl, by go_num, ((((H1.out.setN _ _).setN _ _).setN _ _).ext (newNf_succ k) (fun _ _ => rfl)), ((hC5.putNew (by omega)).putNew (by omega)).putNew (by omega)⟩
      · have hk60 : k = 60 := by omega
        subst hk60
        clear hk hlt
        go_wp2_with fail
        go_loopg [50] 61 (fun m i wr => EndsRel w (w.heap.size + 1 + 1) w.heap.size (w.heap.size + 1) m i wr)
        case atStart => exact ⟨0, by omega, rfl, rfl, hF, hC⟩
        case round =>
          clear hF hC c0 c1
          obtain ⟨k, hk, hm, rfl, hF, hC⟩ := hrel
          have Hm := Lib.hid hm
          clear hm
          obtain ⟨c0, c1⟩ := blk2 hF.blk
          by_cases hlt : k < 60
          · have k0 : (0 : Int) ≤ (k : Int) := Int.natCast_nonneg _
            have k1 : (k : Int) < 60 := by omega
            obtain ⟨wo, rfl⟩ : ∃ wo : World, wo = wr := ⟨_, rfl⟩
            go_wp2_with fail
            refine wp_cutR (Chg [] wo) 6 (by kernel_rfl) (by kernel_rfl) (fun _ h => h) (fun W hW hS => ?_)
            simp only [List.take_succ_cons, List.take_zero, List.drop_succ_cons, List.drop_zero]
            have HW := Lib.hid hW
            clear hW
            refine takeH 0 (v := ?vv154) rfl (by kernel_rfl) (by kernel_rfl) (by kernel_rfl) (fun _ _ _ h => h) (by kernel_rfl) (fun Wx hSx => ?hy154) (by assumption) ?hrest154
            case hy154 => go_simp; (try with_reducible rfl)
            simp only [Act.put, List.setIfInBounds_toArray]
            refine takeH 1 (v := ?vv157) rfl (by kernel_rfl) (by kernel_rfl) (by kernel_rfl) (fun _ _ _ h => h) (by kernel_rfl) (fun Wx hSx => ?hy157) (by assumption) ?hrest157
            case hy157 => go_simp; (try with_reducible rfl)
            simp only [Act.put]
            refine takeH 2 (v := ?vv160) rfl (by kernel_rfl) (by kernel_rfl) (by kernel_rfl) (fun _ _ _ h => h) (by kernel_rfl) (fun Wx hSx => ?hy160) (by assumption) ?hrest160
            case hy160 => go_simp; (try with_reducible rfl)
            simp only [Act.put]
            refine takeH 3 (v := ?vv163) rfl (by kernel_rfl) (by kernel_rfl) (by kernel_rfl) (fun _ _ _ h => h) (by kernel_rfl) (fun Wx hSx => ?hy163) (by assumption) ?hrest163
            case hy163 => have q0 := hSx.cell c1 (by simp); go_simp; (try with_reducible rfl)
            simp only [Act.put]
            refine takeH 4 (v := ?vv166) rfl (by kernel_rfl) (by kernel_rfl) (by kernel_rfl) (fun _ _ _ h => h) (by kernel_rfl) (fun Wx hSx => ?hy166) (by assumption) ?hrest166
            case hy166 => go_simp; (try with_reducible rfl)
            simp only [Act.put]
            refine wpAnyH_ready (rs := [5]) (by kernel_rfl) (by simp) ?_
            refine (AllReadyH.cons rfl (fun K hK => ?_) AllReadyH.nil)
            all_goals try simp only [List.getElem_toArray, List.getElem_cons_succ, List.getElem_cons_zero]
            go_simp
            refine (empty96 _).mono ?_
            rintro e w1 ⟨rfl, hC4⟩
            go_simp
            refine hK.out _ _ (hS.trans hC4) (fun hHeld => ?_)
            clear hK K
            try simp only [Act.put, List.getElem_toArray, List.getElem_cons_succ, List.getElem_cons_zero, List.setIfInBounds_toArray, List.set_cons_zero, List.set_cons_succ]
            refine wpAnyH_done (by kernel_rfl) ?_ _
            simp only [cutQ]
            have h1 := hF.chg hHeld (by simp) (by simp) (by simp)
            have hC5 := hC.trans hHeld
            obtain ⟨x0, x1, x2⟩ := cells3 h1.eds hlt
            obtain ⟨fx0, fx1, fx2⟩ := free3 h1.eds k
            have l1 := h1.eds.lt
            have H1 := Lib.hid h1
            clear hS hC4 HW c0 c1 hF hC hHeld h1
            go_wp2
            go_roundg (60 - (k + 1) + 1)
            case measure => rw [Hm.out]; omega
            case rel => exact ⟨k + 1, by omega, rfl, by go_num, ((((H1.out.setE _ _).setE _ _).setE _ _).ext (fun _ _ => rfl) (newEf_succ k)), ((hC5.putNew (by omega)).putNew (by omega)).putNew (by omega)⟩
          · have hk60 : k = 60 := by omega
            subst hk60
            clear hk hlt c0 c1
            go_wp2
            go_ret2
            exact ⟨_, _, _, rfl, hF, hC, by omega, by omega, by omega⟩
  · have a1 := ints_made w 188 180
    have a2 := ints_made (w.alloc (.cells (Array.replicate 180 (.int .i64 0)) 188)) 185 180
    have hC1 := Chg.alloc [] w (.cells (Array.replicate 180 (.int .i64 0)) 188)
    have hC2 := Chg.alloc [] (w.alloc (.cells (Array.replicate 180 (.int .i64 0)) 188)) (.cells (Array.replicate 180 (.int .i64 0)) 185)
    have a3 := heap_alloc_new ((w.alloc (.cells (Array.replicate 180 (.int .i64 0)) 188)).alloc (.cells (Array.replicate 180 (.int .i64 0)) 185)) (.cells #[.slice (some ⟨w.heap.size + 1, 0, none⟩) 60 60, .slice (some ⟨w.heap.size, 0, none⟩) 60 60] 183)
    have hC3 := (Chg.alloc [] ((w.alloc (.cells (Array.replicate 180 (.int .i64 0)) 188)).alloc (.cells (Array.replicate 180 (.int .i64 0)) 185)) (.cells #[.slice (some ⟨w.heap.size + 1, 0, none⟩) 60 60, .slice (some ⟨w.heap.size, 0, none⟩) 60 60] 183)).trans (Chg.drew [] _)
    simp only [World.size_alloc] at a2 a3
    have hF : FfAt _ (w.heap.size + 1 + 1) (w.heap.size + 1) w.heap.size (newNf 0) (fun _ => 0) := ⟨(Chg.drew [] _).at_ a3 (by simp), a2.chg hC3 (by simp), (a1.chg hC2 (by simp)).chg hC3 (by simp)⟩
    have hC := (hC1.trans hC2).trans hC3
    clear m1 m2 a1 a2 a3 hC1 hC2 hC3
    go_wp2_with fail
    go_loopg [34] 61 (fun m i wr => NodesRel w (w.heap.size + 1 + 1) (w.heap.size + 1) w.heap.size m i wr)
    case atStart => exact ⟨0, by omega, rfl, rfl, hF, hC⟩
    case round =>
      clear hF hC
      obtain ⟨k, hk, hm, rfl, hF, hC⟩ := hrel
      have Hm := Lib.hid hm
      clear hm
      obtain ⟨c0, c1⟩ := blk2 hF.blk
      by_cases hlt : k < 60
      · have k0 : (0 : Int) ≤ (k : Int) := Int.natCast_nonneg _
        have k1 : (k : Int) < 60 := by omega
        obtain ⟨wo, rfl⟩ : ∃ wo : World, wo = wr := ⟨_, rfl⟩
        go_wp2_with fail
        refine wp_cutR (Chg [] wo) 6 (by kernel_rfl) (by kernel_rfl) (fun _ h => h) (fun W hW hS => ?_)
        simp only [List.take_succ_cons, List.take_zero, List.drop_succ_cons, List.drop_zero]
        have HW := Lib.hid hW
        clear hW
        refine takeH 0 (v := ?vv226) rfl (by kernel_rfl) (by kernel_rfl) (by kernel_rfl) (fun _ _ _ h => h) (by kernel_rfl) (fun Wx hSx => ?hy226) (by assumption) ?hrest226
        case hy226 => go_simp; (try with_reducible rfl)
        simp only [Act.put, List.setIfInBounds_toArray]
        refine takeH 1 (v := ?vv229) rfl (by kernel_rfl) (by kernel_rfl) (by kernel_rfl) (fun _ _ _ h => h) (by kernel_rfl) (fun Wx hSx => ?hy229) (by assumption) ?hrest229
        case hy229 => go_simp; (try with_reducible rfl)
        simp only [Act.put]
        refine takeH 2 (v := ?vv232) rfl (by kernel_rfl) (by kernel_rfl) (by kernel_rfl) (fun _ _ _ h => h) (by kernel_rfl) (fun Wx hSx => ?hy232) (by assumption) ?hrest232
        case hy232 => go_simp; (try with_reducible rfl)
        simp only [Act.put]
        refine takeH 3 (v := ?vv235) rfl (by kernel_rfl) (by kernel_rfl) (by kernel_rfl) (fun _ _ _ h => h) (by kernel_rfl) (fun Wx hSx => ?hy235) (by assumption) ?hrest235
        case hy235 => have q0 := hSx.cell c0 (by simp); go_simp; (try with_reducible rfl)
        simp only [Act.put]
        refine takeH 4 (v := ?vv238) rfl (by kernel_rfl) (by kernel_rfl) (by kernel_rfl) (fun _ _ _ h => h) (by kernel_rfl) (fun Wx hSx => ?hy238) (by assumption) ?hrest238
        case hy238 => go_simp; (try with_reducible rfl)
        simp only [Act.put]
        refine wpAnyH_ready (rs := [5]) (by kernel_rfl) (by simp) ?_
        refine (AllReadyH.cons rfl (fun K hK => ?_) AllReadyH.nil)
        all_goals try simp only [List.getElem_toArray, List.getElem_cons_succ, List.getElem_cons_zero]
        go_simp
        refine (loose95 _).mono ?_
        rintro e w1 ⟨rfl, hC4⟩
        go_simp
        refine hK.out _ _ (hS.trans hC4) (fun hHeld => ?_)
        clear hK K
        try simp only [Act.put, List.getElem_toArray, List.getElem_cons_succ, List.getElem_cons_zero, List.setIfInBounds_toArray, List.set_cons_zero, List.set_cons_succ]
        refine wpAnyH_done (by kernel_rfl) ?_ _
        simp only [cutQ]
        have h1 := hF.chg hHeld (by simp) (by simp) (by simp)
        have hC5 := hC.trans hHeld
        obtain ⟨x0, x1, x2⟩ := cells3 h1.nds hlt
        obtain ⟨fx0, fx1, fx2⟩ := free3 h1.nds k
        have l1 := h1.nds.lt
        have H1 := Lib.hid h1
        clear hS hC4 HW c0 c1 hF hC hHeld h1
        go_wp2
        go_roundg (60 - (k + 1) + 1)
        case measure => rw [Hm.out]; omega
        case rel => exact ⟨k + 1, by omega, rfl, by go_num, ((((H1.out.setN _ _).setN _ _).setN _ _).ext (newNf_succ k) (fun _ _ => rfl)), ((hC5.putNew (by omega)).putNew (by omega)).putNew (by omega)⟩
      · have hk60 : k = 60 := by omega
        subst hk60
        clear hk hlt
        go_wp2_with fail
        go_loopg [50] 61 (fun m i wr => EndsRel w (w.heap.size + 1 + 1) (w.heap.size + 1) w.heap.size m i wr)
        case atStart => exact ⟨0, by omega, rfl, rfl, hF, hC⟩
        case round =>
          clear hF hC c0 c1
          obtain ⟨k, hk, hm, rfl, hF, hC⟩ := hrel
          have Hm := Lib.hid hm
          clear hm
          obtain ⟨c0, c1⟩ := blk2 hF.blk
          by_cases hlt : k < 60
          · have k0 : (0 : Int) ≤ (k : Int) := Int.natCast_nonneg _
            have k1 : (k : Int) < 60 := by omega
            obtain ⟨wo, rfl⟩ : ∃ wo : World, wo = wr := ⟨_, rfl⟩
            go_wp2_with fail
            refine wp_cutR (Chg [] wo) 6 (by kernel_rfl) (by kernel_rfl) (fun _ h => h) (fun W hW hS => ?_)
            simp only [List.take_succ_cons, List.take_zero, List.drop_succ_cons, List.drop_zero]
            have HW := Lib.hid hW
            clear hW
            refine takeH 0 (v := ?vv285) rfl (by kernel_rfl) (by kernel_rfl) (by kernel_rfl) (fun _ _ _ h => h) (by kernel_rfl) (fun Wx hSx => ?hy285) (by assumption) ?hrest285
            case hy285 => go_simp; (try with_reducible rfl)
            simp only [Act.put, List.setIfInBounds_toArray]
            refine takeH 1 (v := ?vv288) rfl (by kernel_rfl) (by kernel_rfl) (by kernel_rfl) (fun _ _ _ h => h) (by kernel_rfl) (fun Wx hSx => ?hy288) (by assumption) ?hrest288
            case hy288 => go_simp; (try with_reducible rfl)
            simp only [Act.put]
            refine takeH 2 (v := ?vv291) rfl (by kernel_rfl) (by kernel_rfl) (by kernel_rfl) (fun _ _ _ h => h) (by kernel_rfl) (fun Wx hSx => ?hy291) (by assumption) ?hrest291
            case hy291 => go_simp; (try with_reducible rfl)
            simp only [Act.put]
            refine takeH 3 (v := ?vv294) rfl (by kernel_rfl) (by kernel_rfl) (by kernel_rfl) (fun _ _ _ h => h) (by kernel_rfl) (fun Wx hSx => ?hy294) (by assumption) ?hrest294
            case hy294 => have q0 := hSx.cell c1 (by simp); go_simp; (try with_reducible rfl)
            simp only [Act.put]
            refine takeH 4 (v := ?vv297) rfl (by kernel_rfl) (by kernel_rfl) (by kernel_rfl) (fun _ _ _ h => h) (by kernel_rfl) (fun Wx hSx => ?hy297) (by assumption) ?hrest297
            case hy297 => go_simp; (try with_reducible rfl)
            simp only [Act.put]
            refine wpAnyH_ready (rs := [5]) (by kernel_rfl) (by simp) ?_
            refine (AllReadyH.cons rfl (fun K hK => ?_) AllReadyH.nil)
            all_goals try simp only [List.getElem_toArray, List.getElem_cons_succ, List.getElem_cons_zero]
            go_simp
            refine (empty96 _).mono ?_
            rintro e w1 ⟨rfl, hC4⟩
            go_simp
            refine hK.out _ _ (hS.trans hC4) (fun hHeld => ?_)
            clear hK K
            try simp only [Act.put, List.getElem_toArray, List.getElem_cons_succ, List.getElem_cons_zero, List.setIfInBounds_toArray, List.set_cons_zero, List.set_cons_succ]
            refine wpAnyH_done (by kernel_rfl) ?_ _
            simp only [cutQ]
            have h1 := hF.chg hHeld (by simp) (by simp) (by simp)
            have hC5 := hC.trans hHeld
            obtain ⟨x0, x1, x2⟩ := cells3 h1.eds hlt
            obtain ⟨fx0, fx1, fx2⟩ := free3 h1.eds k
            have l1 := h1.eds.lt
            have H1 := Lib.hid h1
            clear hS hC4 HW c0 c1 hF hC hHeld h1
            go_wp2
            go_roundg (60 - (k + 1) + 1)
            case measure => rw [Hm.out]; omega
            case rel => exact ⟨k + 1, by omega, rfl, by go_num, ((((H1.out.setE _ _).setE _ _).setE _ _).ext (fun _ _ => rfl) (newEf_succ k)), ((hC5.putNew (by omega)).putNew (by omega)).putNew (by omega)⟩
          · have hk60 : k = 60 := by omega
            subst hk60
            clear hk hlt c0 c1
            go_wp2
            go_ret2
            exact ⟨_, _, _, rfl, hF, hC, by omega, by omega, by omega⟩
end Go.Proofs.Ytdcjfaplgpeonaa
