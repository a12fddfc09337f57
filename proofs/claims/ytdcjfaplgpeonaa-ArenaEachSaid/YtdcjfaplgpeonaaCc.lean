/-
  The law ArenaEach, walked.
-/
import Derived.Test.YtdcjfaplgpeonaaCb
import Derived.Test.YtdcjfaplgpeonaaCr
namespace Go.Proofs.Ytdcjfaplgpeonaa
open Go.RowKit Go.Dm Go.Shelf
attribute [local go_sem] Oper.semAt_some
attribute [local simp] wide_fn
attribute [local go_sem] wide_fn

/-- The variables that lie in memory: how far to go; what is answered; the reference. -/
structure Boxes3 (W : World) (p5 p6 p9 : Nat) (stop : Int) (r : Nat) : Prop where
  b5 : W.heap[p5]? = some (.cells #[.int .i64 stop] 3 (0, 0))
  b6 : W.heap[p6]? = some (.cells #[.bool false] 4 (0, 0))
  b9 : W.heap[p9]? = some (.cells #[.pointer (some ⟨r, 0, none⟩)] 57 (0, 0))
theorem Boxes3.chg {W W' : World} {p5 p6 p9 : Nat} {stop : Int} {r : Nat} {S : List Nat} (h : Boxes3 W p5 p6 p9 stop r) (hC : Chg S W W') (h5 : p5 ∉ S) (h6 : p6 ∉ S) (h9 : p9 ∉ S) : Boxes3 W' p5 p6 p9 stop r :=
  ⟨hC.at_ h.b5 h5, hC.at_ h.b6 h6, hC.at_ h.b9 h9⟩

theorem KeepsFrom.of_chg {B : Nat} {S : List Nat} {W W' : World} (hC : Chg S W W') (hS : ∀ k ∈ S, k < B) : KeepsFrom B W W' :=
  ⟨hC.size, fun k o hk ho _ => hC.at_ ho (fun hm => by have := hS k hm; omega)⟩
theorem ownFrom_cells {β : Type} {B k : Nat} (f : β → Obj) (hc : ∀ s, (f s).isCells = true) : OwnFrom B (fun s W => W.heap[k]? = some (f s)) := fun s W W' row hs hg hr =>
  (hg.block k (blk_lt hs) (fun e => by obtain ⟨_, o, ho, hc'⟩ := hr k e.symm; rw [hs] at ho; cases ho; rw [hc s] at hc'; cases hc')).trans hs

theorem name_act {P : Program} {c : Code} {Q : Exit → Act → World → Prop} {a : Act} {w : World} (h : ∀ a0, a0 = a → c.wp P Q a0 w) : c.wp P Q a w := h a rfl
def lastK {n : Nat} {T : Nat → Bool} (pre : List (Tk n T)) : Int := match pre.getLast? with | some x => x.1 | none => -1
theorem lastK_app {n : Nat} {T : Nat → Bool} (pre : List (Tk n T)) (x : Tk n T) : lastK (pre ++ [x]) = x.1 := by simp [lastK]
/-- The last one lies behind the one before. -/
def Rises {n : Nat} {T : Nat → Bool} (xs : List (Tk n T)) : Prop := ∀ pre x, xs = pre ++ [x] → lastK pre < x.1
theorem upto_rises {n : Nat} {T : Nat → Bool} {k : Nat} {xs : List (Tk n T)} (h : UptoK k xs) : Rises xs := by
  rintro pre x rfl
  unfold UptoK at h
  have hp : ((List.range k).filter T).Pairwise (· < ·) := List.Pairwise.filter _ List.pairwise_lt_range
  rw [← h, List.map_append] at hp
  have h2 := (List.pairwise_append.1 hp).2.2
  unfold lastK
  cases hl : pre.getLast? with
  | none => simp; omega
  | some y =>
    have hy := List.mem_of_getLast? hl
    have := h2 y.1 (List.mem_map_of_mem hy) x.1 (by simp)
    simp; omega

theorem cntT_mono (T : Nat → Bool) {k : Nat} : ∀ {n : Nat}, k ≤ n → cntT T k ≤ cntT T n
  | 0, h => by have : k = 0 := by omega
               subst this; exact Nat.le_refl _
  | n + 1, h => by
    by_cases e : k = n + 1
    · subst e; exact Nat.le_refl _
    · have := cntT_mono T (k := k) (n := n) (by omega)
      rw [cntT_succ]; omega

def Each9Rel (w : World) (acts : List Act09) (p5 p6 p9 : Nat) (stop : Int) (b r bo bt n : Nat) (q : Nat) (i : Value) (wr : World) : Prop :=
  ∃ k : Nat, k ≤ acts.length ∧ q = acts.length - k + 1 ∧ i = .int .i64 k ∧ Duo wr b r bo bt n ∧ Chg [] w wr ∧ Boxes3 wr p5 p6 p9 stop r ∧ p9 < wr.heap.size

set_option maxRecDepth 100000 in
set_option maxHeartbeats 4000000 in
theorem each9_any (w : World) (A : Option Addr) (cap : Nat) (slots stop : Int) (acts : List Act09) (h : ActsAt9 w A acts) :
    Calls Try.prog 7 #[.int .i64 slots, .slice A acts.length cap, .int .i64 stop] w fun e w' => e = .returned (.bool true) ∧ Below w.heap.size w w' := by
  have bb := heap_alloc_new (w.alloc (.cells #[.int .i64 stop] 3)) (.cells #[.bool false] 4)
  have ba := heap_alloc_new w (.cells #[.int .i64 stop] 3)
  rw [World.size_alloc] at bb
  have hA0 : Chg [] w ((w.alloc (.cells #[.int .i64 stop] 3)).alloc (.cells #[.bool false] 4)) := (Chg.alloc _ _ _).trans (Chg.alloc _ _ _)
  have ba1 := (Chg.alloc [] _ (.cells #[.bool false] 4)).at_ ba (by simp)
  by_cases hbig : slots < 1 ∨ slots > 500 ∨ (acts.length : Int) > 200
  · have HB := Lib.hid hbig
    clear hbig
    by_cases b1 : slots < 1
    · go_enter Try.func7, Try.ntmps7
      go_wp2_with fail
      refine (alive09 _).mono ?_
      rintro e W1 ⟨rfl, hC⟩
      have b6 := hC.at_ bb (by simp)
      have c6 := blk1 b6
      have f6 := blkfree b6 0
      have hD := hA0.trans hC
      clear hC ba ba1 hA0
      go_wp2
      have hc5 : (W1.setCell ⟨w.heap.size + 1, 0, none⟩ (.bool true)).cell? ⟨w.heap.size + 1, 0, none⟩ = some (.bool true) := World.cell?_setCell_same' _ _ _ (by rw [c6]; rfl)
      refine bodyPost_ret (v := .bool true) ?_ rfl ⟨rfl, (hD.putIn (.inr (by omega))).below (Nat.le_refl _) (by simp)⟩
      simp [results, Try.f7, go_sem, hc5]
    · by_cases b2 : slots > 500
      · go_enter Try.func7, Try.ntmps7
        go_wp2_with fail
        refine (alive09 _).mono ?_
        rintro e W1 ⟨rfl, hC⟩
        have b6 := hC.at_ bb (by simp)
        have c6 := blk1 b6
        have f6 := blkfree b6 0
        have hD := hA0.trans hC
        clear hC ba ba1 hA0
        go_wp2
        have hc5 : (W1.setCell ⟨w.heap.size + 1, 0, none⟩ (.bool true)).cell? ⟨w.heap.size + 1, 0, none⟩ = some (.bool true) := World.cell?_setCell_same' _ _ _ (by rw [c6]; rfl)
        refine bodyPost_ret (v := .bool true) ?_ rfl ⟨rfl, (hD.putIn (.inr (by omega))).below (Nat.le_refl _) (by simp)⟩
        simp [results, Try.f7, go_sem, hc5]
      · have b3 : (acts.length : Int) > 200 := by have := HB.out; omega
        go_enter Try.func7, Try.ntmps7
        go_wp2_with fail
        refine (alive09 _).mono ?_
        rintro e W1 ⟨rfl, hC⟩
        have b6 := hC.at_ bb (by simp)
        have c6 := blk1 b6
        have f6 := blkfree b6 0
        have hD := hA0.trans hC
        clear hC ba ba1 hA0
        go_wp2
        have hc5 : (W1.setCell ⟨w.heap.size + 1, 0, none⟩ (.bool true)).cell? ⟨w.heap.size + 1, 0, none⟩ = some (.bool true) := World.cell?_setCell_same' _ _ _ (by rw [c6]; rfl)
        refine bodyPost_ret (v := .bool true) ?_ rfl ⟨rfl, (hD.putIn (.inr (by omega))).below (Nat.le_refl _) (by simp)⟩
        simp [results, Try.f7, go_sem, hc5]
  · obtain ⟨n, rfl⟩ := Int.eq_ofNat_of_zero_le (show 0 ≤ slots by omega)
    have n0 : 1 ≤ n := by omega
    have n5 : n ≤ 500 := by omega
    have g1 : decide ((n : Int) < 1) = false := decide_eq_false (by omega)
    have g2 : decide ((n : Int) > 500) = false := decide_eq_false (by omega)
    have g3 : decide ((acts.length : Int) > 200) = false := decide_eq_false (by omega)
    have hlen : acts.length ≤ 200 := by omega
    clear hbig
    refine callsIn_wide.1 (callsIn_of_wp_marks (n := 5) Try.func7 rfl trivial (wpIn_wide.2 ?_) rfl)
    simp only [Try.ntmps7, List.size_toArray, List.length_cons, List.length_nil, Nat.reduceAdd, Nat.reduceSub, Array.replicate_succ, Array.replicate_zero, List.push_toArray, List.append_toArray, List.nil_append, List.cons_append]
    go_wp2_with fail
    refine (alive09 _).mono ?_
    rintro e W1 ⟨rfl, hC⟩
    have b6 := hC.at_ bb (by simp)
    have b5 := hC.at_ ba1 (by simp)
    have hD := hA0.trans hC
    clear hC ba ba1 hA0 bb
    go_wp2_with fail
    refine (new09 _ n n0 n5).mono ?_
    rintro e W2 ⟨rfl, hA1, hC1⟩
    go_wp2_with fail
    refine (rnew09 _ n n0 n5).mono ?_
    rintro e W3 ⟨r, bo, bt, rfl, hR2, hC2, hr, hbo, hbt⟩
    have hdu := duo_new n0 n5 hA1 hC2 hR2
    have hC12 := hC1.trans hC2
    have hC3 := hC12.trans (Chg.alloc [] W3 (.cells #[.pointer (some ⟨r, 0, none⟩)] 57))
    have hD3 := hD.trans hC3
    have lr := hR2.lt
    have lo := hR2.os.lt
    have lt := hR2.ts.lt
    have lb : W1.heap.size < W3.heap.size := by have := hA1.lt; have := hC2.size; omega
    have l6 : w.heap.size + 1 < W1.heap.size := blk_lt b6
    have hbx : Boxes3 (W3.alloc (.cells #[.pointer (some ⟨r, 0, none⟩)] 57)) w.heap.size (w.heap.size + 1) W3.heap.size stop r := ⟨hC3.at_ b5 (by simp), hC3.at_ b6 (by simp), heap_alloc_new W3 _⟩
    have hdu3 := hdu.chg (Chg.alloc [] W3 (.cells #[.pointer (some ⟨r, 0, none⟩)] 57))
    have hs2 := hC1.size
    have hr1 : W1.heap.size ≤ r := by omega
    have hbo1 : W1.heap.size ≤ bo := by omega
    have hbt1 : W1.heap.size ≤ bt := by omega
    clear hA1 hR2 hC1 hC2 hC12 hC3 hdu hD b5 b6 hs2 hr hbo hbt
    go_wp2_with fail
    go_loopg [11] (acts.length + 1) (fun q i wr => Each9Rel w acts w.heap.size (w.heap.size + 1) W3.heap.size stop W1.heap.size r bo bt n q i wr)
    case atStart => exact ⟨0, Nat.zero_le _, rfl, rfl, hdu3, hD3, hbx, by simp⟩
    case round =>
      clear hdu3 hD3 hbx
      obtain ⟨k, hk, hq, rfl, hdu, hC, hbx, hlt9⟩ := hrel
      have Hq := Lib.hid hq
      clear hq
      by_cases hlt : k < acts.length
      · rcases h with h | ⟨b, off, rfl, hbl, hcells⟩
        · subst h; simp at hlt
        obtain ⟨p, hp⟩ : ∃ p, acts[k]? = some p := ⟨acts[k], by simp [hlt]⟩
        obtain ⟨c0, c1, c2, c3, c4, c5, c6, c7, c8⟩ := hcells k p hp
        obtain ⟨kd, sl, x⟩ := p
        have k0 : (0 : Int) ≤ (k : Int) := Int.natCast_nonneg _
        have k1 : (k : Int) < (acts.length : Int) := by omega
        clear hcells hp
        go_wp2_with fail
        refine wp_tail 6 (by kernel_rfl) (by kernel_rfl) ?_
        intro W hW
        have hC' := hC.trans hW
        have f0 := hC'.cell c0 (by simp)
        have f1 := hC'.cell c1 (by simp)
        have f2 := hC'.cell c2 (by simp)
        have f3 := hC'.cell c3 (by simp)
        have f4 := hC'.cell c4 (by simp)
        have f5 := hC'.cell c5 (by simp)
        have f6 := hC'.cell c6 (by simp)
        have f7 := hC'.cell c7 (by simp)
        have f8 := hC'.cell c8 (by simp)
        have hbr : b < W.heap.size := by have := hC'.size; omega
        have hbx' := hbx.chg hW (by simp) (by simp) (by simp)
        have cp9 := blk1 hbx'.b9
        have hdu' := hdu.chg hW
        have hlt9' : W3.heap.size < W.heap.size := by have := hW.size; omega
        clear c0 c1 c2 c3 c4 c5 c6 c7 c8 hW hC hbx hdu
        simp only [List.take_succ_cons, List.take_zero, List.drop_succ_cons, List.drop_zero]
        repeat still_step
        refine wpStill_nil ?_
        have ha := act09_any W W1.heap.size r bo bt n hdu' kd sl x
        unfold b9 at ha
        go_wp2_with fail
        refine ha.mono ?_
        rintro e W4 ⟨rfl, hdu4, hC4⟩
        have hE : Chg [] w W4 := hC'.trans' hC4 (by simp) (by simp; omega)
        have hbx4 := hbx'.chg hC4 (by simp; omega) (by simp; omega) (by simp; omega)
        have h94 : W3.heap.size < W4.heap.size := by have := hC4.size; omega
        clear f0 f1 f2 f3 f4 f5 f6 f7 f8 ha hbr hbx' hdu' hC' hC4 cp9
        go_wp2
        go_roundg (acts.length - (k + 1) + 1)
        case measure => rw [Hq.out]; omega
        case rel => exact ⟨k + 1, by omega, rfl, by go_num, hdu4, hE, hbx4, h94⟩
      · clear Hq hk h
        obtain ⟨c, o, T, D, m, hP, hA, hR⟩ := hdu
        go_wp2_with fail
        refine (each09 _ (some ⟨W1.heap.size, 0, none⟩)).mono ?_
        rintro e W5 ⟨rfl, rfl⟩
        have s12 : ((wr.alloc (.cells #[.int .i64 0] 3)).alloc (.cells #[.int .i64 (-1)] 3)).heap.size = wr.heap.size + 1 + 1 := by simp
        have hW0 : Chg [] wr (((wr.alloc (.cells #[.int .i64 0] 3)).alloc (.cells #[.int .i64 (-1)] 3)).alloc (.cells #[.pointer (some ⟨W1.heap.size, 0, none⟩)] 44)) := ((Chg.alloc [] _ _).trans (Chg.alloc [] _ _)).trans (Chg.alloc [] _ _)
        have q12 : (((wr.alloc (.cells #[.int .i64 0] 3)).alloc (.cells #[.int .i64 (-1)] 3)).alloc (.cells #[.pointer (some ⟨W1.heap.size, 0, none⟩)] 44)).heap[wr.heap.size]? = some (.cells #[.int .i64 0] 3 (0, 0)) := ((Chg.alloc [] _ _).trans (Chg.alloc [] _ _)).at_ (heap_alloc_new wr _) (by simp)
        have q13 : (((wr.alloc (.cells #[.int .i64 0] 3)).alloc (.cells #[.int .i64 (-1)] 3)).alloc (.cells #[.pointer (some ⟨W1.heap.size, 0, none⟩)] 44)).heap[wr.heap.size + 1]? = some (.cells #[.int .i64 (-1)] 3 (0, 0)) := (Chg.alloc [] _ _).at_ (by
          have := heap_alloc_new (wr.alloc (.cells #[.int .i64 0] 3)) (.cells #[.int .i64 (-1)] 3); rw [World.size_alloc] at this; exact this) (by simp)
        have q14 : (((wr.alloc (.cells #[.int .i64 0] 3)).alloc (.cells #[.int .i64 (-1)] 3)).alloc (.cells #[.pointer (some ⟨W1.heap.size, 0, none⟩)] 44)).cell? ⟨wr.heap.size + 1 + 1, 0, none⟩ = some (.pointer (some ⟨W1.heap.size, 0, none⟩)) := blk1 (by
          have := heap_alloc_new ((wr.alloc (.cells #[.int .i64 0] 3)).alloc (.cells #[.int .i64 (-1)] 3)) (.cells #[.pointer (some ⟨W1.heap.size, 0, none⟩)] 44); rw [s12] at this; exact this)
        have z0 : (((wr.alloc (.cells #[.int .i64 0] 3)).alloc (.cells #[.int .i64 (-1)] 3)).alloc (.cells #[.pointer (some ⟨W1.heap.size, 0, none⟩)] 44)).heap.size = wr.heap.size + 1 + 1 + 1 := by simp
        have hbx0 := hbx.chg hW0 (by simp) (by simp) (by simp)
        have hA0 := hA.chg hW0 (by simp)
        have hR0 := hR.chg hW0
        have hC0 := hC.trans hW0
        have hRS : ∀ W, Chg [wr.heap.size, wr.heap.size + 1] (((wr.alloc (.cells #[.int .i64 0] 3)).alloc (.cells #[.int .i64 (-1)] 3)).alloc (.cells #[.pointer (some ⟨W1.heap.size, 0, none⟩)] 44)) W → RfAt W r bo bt n o T D m := fun W hCW => by
          have l1 := hR.lt
          have l2 := hR.os.lt
          have l3 := hR.ts.lt
          have hCC := hW0.nil.trans hCW
          obtain ⟨v, hb, hs⟩ := hR.blk
          refine ⟨⟨v, hCC.at_ hb (by simp; omega), hs.chg hCC fun g hg hm => ?_⟩, hR.os.chg hCC (by simp; omega), hR.ts.chg hCC (by simp; omega)⟩
          obtain ⟨cur, hcur⟩ := hs.typed hg
          have lg := hs.lt hg
          simp only [List.mem_cons, List.not_mem_nil, or_false] at hm
          rcases hm with hm | hm
          · omega
          · omega
        clear hbx hA hR hC s12
        go_wp2_with fail
        obtain ⟨W0, eW0⟩ : ∃ W0, (((wr.alloc (.cells #[.int .i64 0] 3)).alloc (.cells #[.int .i64 (-1)] 3)).alloc (.cells #[.pointer (some ⟨W1.heap.size, 0, none⟩)] 44)) = W0 := ⟨_, rfl⟩
        rw [eW0] at q12 q13 q14 z0 hbx0 hA0 hR0 hC0 hW0 hRS ⊢
        clear eW0
        have hno : ∀ i, i < n → T i = false → takenI c (i : Int) = false := fun i _ hT => by rw [hP.taken]; simp [hasR, hT]
        have lA := hA0.lt
        refine name_act (fun a0 ha => ?_)
        obtain ⟨f, hf⟩ : ∃ f : Tk n T → Nat → Act, ∀ x B, f x B = { tmps := (((a0.tmps.setIfInBounds 56 (.int .i64 (x.1 : Int))).setIfInBounds 57 (oV (ordAt c (x.1 * 8)))).setIfInBounds 14 (.int .i64 (x.1 : Int))).setIfInBounds 15 (.pointer (some ⟨B, 0, none⟩)), defers := [] } := ⟨_, fun _ _ => rfl⟩
        subst ha
        refine (wpIn_wide (n := 5)).1 ?_
        refine wpIn_rangeFunc_ownH rfl (by omega) (gf := 60) (lb := #[.pointer (some ⟨wr.heap.size + 1 + 1, 0, none⟩)]) rfl trivial (enters_of Try.func60 (by kernel_rfl) rfl)
          (iter09 4 (by omega) (n := n) (T := T) c W1.heap.size (wr.heap.size + 1 + 1) n5 hP.size hP.nx hno W0 q14 (by omega) hA0) (fun h k => KeepB.t h k) (KeepB.put lA) (Below.refl _ _) (fun _ => rfl)
          (fun pre W => W.heap[wr.heap.size]? = some (.cells #[.int .i64 (pre.length : Int)] 3 (0, 0)) ∧ W.heap[wr.heap.size + 1]? = some (.cells #[.int .i64 (lastK pre)] 3 (0, 0)) ∧ Chg [wr.heap.size, wr.heap.size + 1] W0 W ∧ (stop ≤ 0 ∨ (pre.length : Int) < stop))
          (fun c' pre W => (c' = .exit 2 ∧ Chg [wr.heap.size, wr.heap.size + 1] W0 W ∧ W.heap[wr.heap.size]? = some (.cells #[.int .i64 (pre.length : Int)] 3 (0, 0)) ∧ (pre.length : Int) = stop ∧ 0 < stop) ∨ (c' = .ret ∧ ¬ Rises pre))
          ((ownFrom_cells (fun pre => .cells #[.int .i64 (pre.length : Int)] 3 (0, 0)) (fun _ => rfl)).and ((ownFrom_cells (fun pre => .cells #[.int .i64 (lastK pre)] 3 (0, 0)) (fun _ => rfl)).and ((ownFrom_chg _ _).and (ownFrom_const _))))
          (fun c' s W W' row hs hg hr => hs.imp (fun ⟨h1, h4, h2, h3⟩ => ⟨h1, ownFrom_chg (β := Unit) _ _ () W W' row h4 hg hr, ownFrom_cells (fun _ => .cells #[.int .i64 (s.length : Int)] 3 (0, 0)) (fun _ => rfl) () W W' row h2 hg hr, h3⟩) id)
          ⟨q12, q13, Chg.refl _ _, by simp; omega⟩
          (fun (x : Tk n T) (a' : Act) (W : World) => ∃ B : Nat, W.heap[B]? = some (Obj.cells (oCs (ordAt c (x.1 * 8))) 52 (0, 0)) ∧ a' = f x B)
          (fun x a' s W W' row ⟨B, hB, e⟩ hg hr => ⟨B, ownFrom_cells (fun _ => Obj.cells (oCs (ordAt c (x.1 * 8))) 52 (0, 0)) (fun _ => rfl) () W W' row hB hg hr, e⟩) ?assign ?body ?done ?stop
        case assign =>
          intro l pre x W K hi hK
          obtain ⟨B, hB⟩ : ∃ B, W.heap.size = B := ⟨_, rfl⟩
          simp only [encTk, oV]
          gi_wp2
          exact hK _ _ (KeepsFrom.of_chg (Chg.alloc [] _ _) (by simp)) (KeepB.chg (Chg.alloc [] _ _) (by simp)) ⟨(Chg.alloc [] _ _).at_ hi.1 (by simp), (Chg.alloc [] _ _).at_ hi.2.1 (by simp), hi.2.2.1.trans (Chg.alloc _ _ _), hi.2.2.2⟩ ⟨B, hB ▸ heap_alloc_new W _, by rw [hf]; simp [oV]⟩
        case body =>
          rintro l pre x a' W hl hrec ⟨hi1, hi2, hi3, hi4⟩ ⟨B, hBx, ea⟩ hlen2
          rw [hf] at ea
          subst ea
          simp only [oV]
          have hRW := hRS W hi3
          have hh := fun k => has_any (hRW.chg (Chg.drewN [] W k)) x.1
          have hxn : x.1 < n := x.2.1
          have hxT : T x.1 = true := x.2.2
          have ehas : hasR n T x.1 = true := by simp [hasR, hxn, hxT]
          simp only [ehas] at hh
          have c13 := blk1 hi2
          have c9 : W.cell? ⟨W3.heap.size, 0, none⟩ = some (.pointer (some ⟨r, 0, none⟩)) := blk1 (hi3.at_ hbx0.b9 (by simp; omega))
          obtain ⟨x0, x1, x2, x3, x4, x5, x6⟩ := blk7 hBx
          obtain ⟨v, hvb, _⟩ := hRW.blk
          obtain ⟨v0, _, _, _⟩ := blk4' hvb
          obtain ⟨y0, y1, y2, y3, y4, y5, y6⟩ := os_cells hRW hxn
          have e0 := hP.ord x.1 hxn hxT 0 (by omega)
          have e1 := hP.ord x.1 hxn hxT 1 (by omega)
          have e2 := hP.ord x.1 hxn hxT 2 (by omega)
          have e3 := hP.ord x.1 hxn hxT 3 (by omega)
          have e4 := hP.ord x.1 hxn hxT 4 (by omega)
          have e5 := hP.ord x.1 hxn hxT 5 (by omega)
          have e6 := hP.ord x.1 hxn hxT 6 (by omega)
          simp only [Nat.add_zero] at e0
          rw [← e0] at y0
          rw [← e1] at y1
          rw [← e2] at y2
          rw [← e3] at y3
          rw [← e4] at y4
          rw [← e5] at y5
          rw [← e6] at y6
          simp only [ordAt, Nat.add_zero] at x0 x1 x2 x3 x4 x5 x6
          clear e0 e1 e2 e3 e4 e5 e6
          have hxi0 : (0 : Int) ≤ (x.1 : Int) := Int.natCast_nonneg _
          have hxi1 : (x.1 : Int) < (n : Int) := by omega
          have hbW := hbx0.chg hi3 (by simp; omega) (by simp; omega) (by simp; omega)
          by_cases hle : (x.1 : Int) ≤ lastK pre
          · have dle : decide ((x.1 : Int) ≤ lastK pre) = true := decide_eq_true hle
            have c6 := blk1 hbW.b6
            have f6 := blkfree hbW.b6 0
            gi_wp2
            refine region_round (by kernel_rfl) (by kernel_rfl) (by kernel_rfl) ?_
            repeat (gi_big_quiet_step (fail))
            refine wpQuietIn_nil ?_
            intro _ hw'
            obtain ⟨nq, hw''⟩ := hw'
            subst hw''
            gi_wp2
            refine ⟨KeepsFrom.of_chg ((Chg.drewN [w.heap.size + 1] W nq).trans (Chg.refl [w.heap.size + 1] _).put) (by simp; omega), .inr ⟨rfl, fun hr => ?_⟩⟩
            have := hr pre x rfl
            omega
          · have dle : decide ((x.1 : Int) ≤ lastK pre) = false := decide_eq_false hle
            have c12 := blk1 hi1
            have f12 := blkfree hi1 0
            have f13 := blkfree hi2 0
            have c5 := blk1 hbW.b5
            have hl5 : IntKind.i64.wrap ((pre.length : Int) + 1) = (pre.length : Int) + 1 := wrapOk (by omega) (by omega)
            have lW : wr.heap.size + 1 < W.heap.size := blk_lt hi2
            have hne : wr.heap.size + 1 ≠ wr.heap.size := by omega
            have fin : ∀ nq : Nat, (Chg [wr.heap.size, wr.heap.size + 1] W (((W.drewN nq).setCell ⟨wr.heap.size + 1, 0, none⟩ (.int .i64 (x.1 : Int))).setCell ⟨wr.heap.size, 0, none⟩ (.int .i64 ((pre.length : Int) + 1)))) ∧
                (((W.drewN nq).setCell ⟨wr.heap.size + 1, 0, none⟩ (.int .i64 (x.1 : Int))).setCell ⟨wr.heap.size, 0, none⟩ (.int .i64 ((pre.length : Int) + 1))).heap[wr.heap.size]? = some (.cells #[.int .i64 ((pre ++ [x]).length : Int)] 3 (0, 0)) ∧
                (((W.drewN nq).setCell ⟨wr.heap.size + 1, 0, none⟩ (.int .i64 (x.1 : Int))).setCell ⟨wr.heap.size, 0, none⟩ (.int .i64 ((pre.length : Int) + 1))).heap[wr.heap.size + 1]? = some (.cells #[.int .i64 (lastK (pre ++ [x]))] 3 (0, 0)) := fun nq => by
              have a1 : (W.drewN nq).heap[wr.heap.size]? = some (.cells #[.int .i64 (pre.length : Int)] 3 (0, 0)) := hi1
              have a2 : (W.drewN nq).heap[wr.heap.size + 1]? = some (.cells #[.int .i64 (lastK pre)] 3 (0, 0)) := hi2
              have b1 := (Chg.refl [wr.heap.size + 1] (W.drewN nq)).put (j := 0) (u := .int .i64 (x.1 : Int))
              have b2 := blk_set a2 0 (.int .i64 (x.1 : Int))
              have b3 := b1.at_ a1 (by simp)
              have b4 := blk_set b3 0 (.int .i64 ((pre.length : Int) + 1))
              refine ⟨((Chg.drewN _ W nq).putIn (.inl (by simp))).putIn (.inl (by simp)), ?_, ?_⟩
              · rw [b4, List.length_append]; rfl
              · rw [(Chg.refl [wr.heap.size] _).put.at_ b2 (by simp), lastK_app]; rfl
            by_cases hst : (pre.length : Int) + 1 = stop
            · have dst : ((pre.length : Int) + 1 == stop) = true := by simpa using hst
              have Hst := Lib.hid hst
              clear hst
              gi_wp2
              refine region_round (by kernel_rfl) (by kernel_rfl) (by kernel_rfl) ?_
              repeat (gi_big_quiet_step (exact (callsIn_wide.2 (hh _)).mono fun e w' ⟨h1, h2⟩ => ⟨h1, _, h2.symm⟩))
              refine wpQuietIn_nil ?_
              intro _ hw'
              obtain ⟨nq, hw''⟩ := hw'
              subst hw''
              have hfin := fin nq
              clear fin
              gi_wp2
              exact ⟨KeepsFrom.of_chg hfin.1 (by simp; omega), .inl ⟨rfl, hi3.trans hfin.1, hfin.2.1, by have := Hst.out; simp; omega, by have := Hst.out; omega⟩⟩
            · have dst : ((pre.length : Int) + 1 == stop) = false := by simpa using hst
              gi_wp2
              refine region_round (by kernel_rfl) (by kernel_rfl) (by kernel_rfl) ?_
              repeat (gi_big_quiet_step (exact (callsIn_wide.2 (hh _)).mono fun e w' ⟨h1, h2⟩ => ⟨h1, _, h2.symm⟩))
              refine wpQuietIn_nil ?_
              intro _ hw'
              obtain ⟨nq, hw''⟩ := hw'
              subst hw''
              have hfin := fin nq
              clear fin
              gi_wp2
              exact ⟨KeepsFrom.of_chg hfin.1 (by simp; omega), KeepB.chg hfin.1 (by simp; omega), hfin.2.1, hfin.2.2, hi3.trans hfin.1, by simp; omega⟩
        case done =>
          rintro D xs W hD hU ⟨hi1, hi2, hi3, hi4⟩ hK
          have hRW := hRS W hi3
          have hu := rused09 hRW n5
          have hbW := hbx0.chg hi3 (by simp; omega) (by simp; omega) (by simp; omega)
          have c9 := blk1 hbW.b9
          have c5 := blk1 hbW.b5
          have c6 := blk1 hbW.b6
          have f6 := blkfree hbW.b6 0
          have c12 := blk1 hi1
          have hl := upto_len hU
          rw [hl] at c12 hi4
          have hDD := hC0.trans' hi3 (U := []) (by simp) (by simp; omega)
          have hDn : w.heap.size ≤ D := by omega
          have hne : D ≠ w.heap.size + 1 := by intro e; subst e; rw [hbW.b6] at hK; cases hK
          clear hRS q14 hbx0 hA0 hR0 hC0 hW0 hi1 hi2 hi3 hRW hl hU
          by_cases hs : stop > 0
          · have s1 : decide (stop > 0) = true := decide_eq_true hs
            have s2 : decide (stop < (cntT T n : Int)) = false := decide_eq_false (by omega)
            go_wp2_with fail
            refine hu.mono ?_
            rintro e W6 ⟨rfl, rfl⟩
            clear hu
            go_wp2
            have hK' : (W.setCell ⟨w.heap.size + 1, 0, none⟩ (.bool true)).heap[D]? = some (.deferred (some [])) := (Chg.refl [w.heap.size + 1] W).put.at_ hK (by simpa using hne)
            have hB : Below w.heap.size w (W.setCell ⟨w.heap.size + 1, 0, none⟩ (.bool true)) := (hDD.putIn (.inr (by omega))).below (Nat.le_refl _) (by simp)
            refine ⟨by simp, .inl ⟨_, _, rfl, run_takeDeferred hK', ?_⟩⟩
            have hc5 := cell_kept (World.cell?_setCell_same' W ⟨w.heap.size + 1, 0, none⟩ (.bool true) (by rw [c6]; rfl)) (grownBy_putObj' _ D (.deferred none)) (fun r e => by cases e; exact ⟨_, hK', rfl⟩)
            refine ⟨.bool true, ?_, rfl, hB.trans (belowK_b (w := w) (Nat.le_refl _) _ D _ _ hDn hK' rfl rfl)⟩
            simp [results, Try.f7, go_sem, hc5]
          · have s1 : decide (stop > 0) = false := decide_eq_false hs
            go_wp2_with fail
            refine hu.mono ?_
            rintro e W6 ⟨rfl, rfl⟩
            clear hu
            go_wp2
            have hK' : (W.setCell ⟨w.heap.size + 1, 0, none⟩ (.bool true)).heap[D]? = some (.deferred (some [])) := (Chg.refl [w.heap.size + 1] W).put.at_ hK (by simpa using hne)
            have hB : Below w.heap.size w (W.setCell ⟨w.heap.size + 1, 0, none⟩ (.bool true)) := (hDD.putIn (.inr (by omega))).below (Nat.le_refl _) (by simp)
            refine ⟨by simp, .inl ⟨_, _, rfl, run_takeDeferred hK', ?_⟩⟩
            have hc5 := cell_kept (World.cell?_setCell_same' W ⟨w.heap.size + 1, 0, none⟩ (.bool true) (by rw [c6]; rfl)) (grownBy_putObj' _ D (.deferred none)) (fun r e => by cases e; exact ⟨_, hK', rfl⟩)
            refine ⟨.bool true, ?_, rfl, hB.trans (belowK_b (w := w) (Nat.le_refl _) _ D _ _ hDn hK' rfl rfl)⟩
            simp [results, Try.f7, go_sem, hc5]
        case stop =>
          rintro D c' pre W hD ⟨k', hk', hU⟩ hx hK
          rcases hx with ⟨rfl, hi3, hi1, hst, hs0⟩ | ⟨rfl, hr⟩
          · have hRW := hRS W hi3
            have hu := rused09 hRW n5
            have hbW := hbx0.chg hi3 (by simp; omega) (by simp; omega) (by simp; omega)
            have c9 := blk1 hbW.b9
            have c5 := blk1 hbW.b5
            have c6 := blk1 hbW.b6
            have f6 := blkfree hbW.b6 0
            have c12 := blk1 hi1
            rw [hst] at c12
            have hl := upto_len hU
            have hmono := cntT_mono T hk'
            have hDD := hC0.trans' hi3 (U := []) (by simp) (by simp; omega)
            have hDn : w.heap.size ≤ D := by omega
            have hne : D ≠ w.heap.size + 1 := by intro e; subst e; rw [hbW.b6] at hK; cases hK
            clear hRS q14 hbx0 hA0 hR0 hC0 hW0 hi1 hi3 hRW hU
            have s1 : decide (stop > 0) = true := decide_eq_true hs0
            by_cases hlt2 : stop < (cntT T n : Int)
            · have s2 : decide (stop < (cntT T n : Int)) = true := decide_eq_true hlt2
              clear hl hmono hst hlt2
              gi_wp2
              go_wp2_with fail
              refine hu.mono ?_
              rintro e W6 ⟨rfl, rfl⟩
              clear hu
              go_wp2
              have hK' : (W.setCell ⟨w.heap.size + 1, 0, none⟩ (.bool true)).heap[D]? = some (.deferred (some [])) := (Chg.refl [w.heap.size + 1] W).put.at_ hK (by simpa using hne)
              have hB : Below w.heap.size w (W.setCell ⟨w.heap.size + 1, 0, none⟩ (.bool true)) := (hDD.putIn (.inr (by omega))).below (Nat.le_refl _) (by simp)
              refine ⟨by simp, .inl ⟨_, _, rfl, run_takeDeferred hK', ?_⟩⟩
              have hc5 := cell_kept (World.cell?_setCell_same' W ⟨w.heap.size + 1, 0, none⟩ (.bool true) (by rw [c6]; rfl)) (grownBy_putObj' _ D (.deferred none)) (fun r e => by cases e; exact ⟨_, hK', rfl⟩)
              refine ⟨.bool true, ?_, rfl, hB.trans (belowK_b (w := w) (Nat.le_refl _) _ D _ _ hDn hK' rfl rfl)⟩
              simp [results, Try.f7, go_sem, hc5]
            · have s2 : decide (stop < (cntT T n : Int)) = false := decide_eq_false hlt2
              have s3 : (stop == (cntT T n : Int)) = true := by
                have : stop = (cntT T n : Int) := by omega
                simpa using this
              clear hl hmono hst hlt2
              gi_wp2
              go_wp2_with fail
              refine hu.mono ?_
              rintro e W6 ⟨rfl, rfl⟩
              clear hu
              go_wp2
              have hK' : (W.setCell ⟨w.heap.size + 1, 0, none⟩ (.bool true)).heap[D]? = some (.deferred (some [])) := (Chg.refl [w.heap.size + 1] W).put.at_ hK (by simpa using hne)
              have hB : Below w.heap.size w (W.setCell ⟨w.heap.size + 1, 0, none⟩ (.bool true)) := (hDD.putIn (.inr (by omega))).below (Nat.le_refl _) (by simp)
              refine ⟨by simp, .inl ⟨_, _, rfl, run_takeDeferred hK', ?_⟩⟩
              have hc5 := cell_kept (World.cell?_setCell_same' W ⟨w.heap.size + 1, 0, none⟩ (.bool true) (by rw [c6]; rfl)) (grownBy_putObj' _ D (.deferred none)) (fun r e => by cases e; exact ⟨_, hK', rfl⟩)
              refine ⟨.bool true, ?_, rfl, hB.trans (belowK_b (w := w) (Nat.le_refl _) _ D _ _ hDn hK' rfl rfl)⟩
              simp [results, Try.f7, go_sem, hc5]
          · exact absurd (upto_rises hU) hr
end Go.Proofs.Ytdcjfaplgpeonaa
