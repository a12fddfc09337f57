/-
  A range over a function whose iterator ranges over functions itself: a law of the loop for iterators that want more of what the loop keeps. Nothing of the program stands in it.
-/
import Derived.RangeFuncNested
import Derived.Test.YtdcjfaplgpeonaaM
namespace Go.Dm
open Go Go.RowKit

section
variable {α : Type} {P : Program} {n : Nat}

/-- The iterator's word: for whatever J, Jx that abide the turn of blocks (none of cells) laid since it was called. -/
def SeqO (n : Nat) (P : Program) (g : Nat) (lb : Array Value) (encs : α → Array Value) (T : List Nat) (S Sp : List α → Prop) (N : Nat) (w : World) : Prop :=
  ∀ (l : Nat) (J Jx : List α → World → Prop) (W : World), Below w.heap.size w W → (∀ k ∈ T, k < W.heap.size) → OwnFrom W.heap.size J → OwnFrom W.heap.size Jx →
    (∀ pre x W1, J pre W1 → pre.length < N → YieldAt Fence.wide (n - 1) P l (encs x) W1 fun e W' =>
      (e = .returned (.bool true) ∧ J (pre ++ [x]) W' ∧ Chg T W1 W') ∨ (e = .returned (.bool false) ∧ Jx (pre ++ [x]) W' ∧ Chg T W1 W')) →
    J [] W →
    CallsIn Fence.wide n P g (#[.func (.yield l) #[] #[]] ++ lb) W fun e W' => (∃ v, e = .returned v) ∧ ((∃ xs, S xs ∧ J xs W') ∨ (∃ pre, Sp pre ∧ Jx pre W'))

/-- How a round's body may be left: it has turned blocks of T alone. -/
def roundO (T : List Nat) (I : List α → World → Prop) (Ix : Code → List α → World → Prop) (xs : List α) (W : World) : Exit → Act → World → Prop
  | .normal, _, W' => Chg T W W' ∧ I xs W'
  | .ret, _, W' => Chg T W W' ∧ Ix .ret xs W'
  | .exit id, _, W' => Chg T W W' ∧ Ix (.exit id) xs W'
  | .goto t, _, W' => Chg T W W' ∧ Ix (.goto t) xs W'
  | .panic _, _, _ => False
  | .outgrown, _, _ => False

theorem Chg.putObj {S : List Nat} (W : World) (l : Nat) (o : Obj) (hl : l ∈ S) : Chg S W (W.putObj l o) :=
  ⟨rfl, rfl, rfl, by simp, fun k _ hn => World.putObj_heap_other (fun e => hn (e ▸ hl))⟩

theorem rangeO {g : Operand} {ps : Array Tmp} {assign body : Code} {Q : Exit → Act → World → Prop} {a : Act} {w : World}
    {gf : Nat} {lb : Array Value} (hg : a.eval g = .func (.func gf) #[] lb) (eg : ∀ args w, (callFunc gf args).run P w = .ok (.enter gf args) w)
    {encs : α → Array Value} {T : List Nat} {S Sp : List α → Prop} {N : Nat} {w0 : World} (hT : ∀ k ∈ T, k < w.heap.size)
    (hseq : SeqO (n - 1) P gf lb encs ((w.heap.size + 1) :: T) S Sp N w0) (hb0 : Below w0.heap.size w0 w) (hps : ∀ x, (encs x).size = ps.size)
    (I : List α → World → Prop) (Ix : Code → List α → World → Prop) (hI : OwnFrom w.heap.size I) (hIx : ∀ c, OwnFrom w.heap.size (Ix c)) (h0 : I [] w) (Ax : α → Act → World → Prop) (hAx : ∀ x a', OwnFrom w.heap.size (fun (_ : Unit) W => Ax x a' W))
    (hassign : ∀ (l : Nat) (pre : List α) (x : α) (W : World) (K : Act → World → Prop), I pre W → (∀ a' W', Chg [] W W' → I pre W' → Ax x a' W' → K a' W') →
      assign.wpIn (Fence.wide.inRound l) (n - 1 - 1) P (Exit.then K (fun _ _ _ => False)) { tmps := (ps.zip (encs x)).foldl (fun t (p, v) => t.setIfInBounds p v) a.tmps, defers := [] } W)
    (hbody : ∀ (l : Nat) (pre : List α) (x : α) (a' : Act) (W : World), I pre W → Ax x a' W → pre.length < N → body.wpIn (Fence.wide.inRound l) (n - 1 - 1) P (roundO T I Ix (pre ++ [x]) W) a' W)
    (hdone : ∀ (D : Nat) (xs : List α) (W : World), w.heap.size ≤ D → S xs → I xs W → W.heap[D]? = some (.deferred (some [])) → Q .normal { a with defers := { target := .collected D, args := #[] } :: a.defers } W)
    (hstop : ∀ (D : Nat) (c : Code) (pre : List α) (W : World), w.heap.size ≤ D → Sp pre → Ix c pre W → W.heap[D]? = some (.deferred (some [])) → c.wpIn Fence.wide n P Q { a with defers := { target := .collected D, args := #[] } :: a.defers } W) :
    (Code.rangeFunc g ps assign body).wpIn Fence.wide n P Q a w := by
  refine wpIn_rangeFunc fun fn hfn => ?_
  -- the loop's record, in each of its states
  obtain ⟨rc, hrc⟩ : ∃ rc : LoopState → Option Code → Loop, rc = fun st pe => { state := st, pending := pe, fn, tmps := a.tmps, params := ps, assign, body, defers := w.heap.size } := ⟨_, rfl⟩
  obtain ⟨W1, hW1⟩ : ∃ W1, W1 = (w.alloc (.deferred (some []))).alloc (.loop (rc .ready none)) := ⟨_, rfl⟩
  have hz : W1.heap.size = w.heap.size + 2 := by rw [hW1]; simp
  have hl1 : W1.heap[w.heap.size + 1]? = some (.loop (rc .ready none)) := by
    rw [hW1]; have := World.alloc_heap_new (w.alloc (.deferred (some []))) (.loop (rc .ready none)); rwa [World.size_alloc] at this
  have hd1 : W1.heap[w.heap.size]? = some (.deferred (some [])) := by
    rw [hW1]; exact (Chg.alloc [] _ _).at_ (World.alloc_heap_new w _) (by simp)
  have hB1 : Below w0.heap.size w0 W1 := by
    rw [hW1]; exact hb0.trans ((((Below.refl _ w).alloc (Nat.le_refl _) _).alloc (by simp) _).mono hb0.size)
  have hI1 : I [] W1 := by rw [hW1]; exact hI.alloc _ (hI.alloc _ h0)
  -- blocks of book-keeping are none of T
  have nR : w.heap.size + 1 ∉ T := fun h => by have := hT _ h; omega
  have nD : w.heap.size ∉ T := fun h => by have := hT _ h; omega
  refine ⟨w.heap.size + 1, [{ target := .collected w.heap.size, args := #[] }], W1, { target := .fn (.func gf) lb, args := #[.func (.yield (w.heap.size + 1)) #[] #[]] }, W1, gf,
    #[.func (.yield (w.heap.size + 1)) #[] #[]] ++ lb, W1, by rw [hW1, hrc]; exact run_enterLoop_outer _ _ _ _ _, by simp only [resolve, hg]; simp [go_sem], fun _ _ => trivial, by simp [invoke, go_sem, eg], (fun h => by cases h), ?_⟩
  -- what lies between two rounds
  let J : List α → World → Prop := fun pre W => I pre W ∧ W.heap[w.heap.size + 1]? = some (.loop (rc .ready none)) ∧ W.heap[w.heap.size]? = some (.deferred (some []))
  let Jx : List α → World → Prop := fun pre W => ∃ c, Ix c pre W ∧ W.heap[w.heap.size + 1]? = some (.loop (rc .done (some c))) ∧ W.heap[w.heap.size]? = some (.deferred (some []))
  have far : ∀ {A B : World} {row : Option Nat} {k : Nat} {o : Obj}, A.grownBy B row → (∀ r, row = some r → W1.heap.size ≤ r) → k < W1.heap.size → A.heap[k]? = some o → B.heap[k]? = some o := fun hgr hr hk ho =>
    (hgr.block _ (Array.getElem?_eq_some_iff.1 ho).1 (fun e => by have := hr _ e.symm; omega)).trans ho
  have lift : ∀ {A : World} {row : Option Nat}, (∀ r, row = some r → W1.heap.size ≤ r ∧ ∃ o : Obj, A.heap[r]? = some o ∧ o.isCells = false) → (∀ r, row = some r → w.heap.size ≤ r ∧ ∃ o : Obj, A.heap[r]? = some o ∧ o.isCells = false) :=
    fun hr r e => ⟨by have := (hr r e).1; omega, (hr r e).2⟩
  have hJ : OwnFrom W1.heap.size J := fun s A B row hs hgr hr =>
    ⟨hI s A B row hs.1 hgr (lift hr), far hgr (fun r e => (hr r e).1) (by omega) hs.2.1, far hgr (fun r e => (hr r e).1) (by omega) hs.2.2⟩
  have hJx : OwnFrom W1.heap.size Jx := fun s A B row ⟨c, hc, h2, h3⟩ hgr hr =>
    ⟨c, hIx c s A B row hc hgr (lift hr), far hgr (fun r e => (hr r e).1) (by omega) h2, far hgr (fun r e => (hr r e).1) (by omega) h3⟩
  refine (hseq (w.heap.size + 1) J Jx W1 hB1 (fun k hk => by
    rcases List.mem_cons.1 hk with rfl | hk
    · omega
    · have := hT k hk; omega) hJ hJx ?_ ⟨hI1, hl1, hd1⟩).mono ?_
  · -- one round
    rintro pre x W ⟨hi, hl, hd⟩ hlen
    have hy := run_yield (P := P) (args := encs x) hl (by rw [hrc]; exact hps x)
    rw [hrc] at hy
    refine ⟨fn, _, assign, body, hy, roundIn_of_wpIn hfn (hassign _ pre x W _ hi fun a' Wa hCa hia hax => ?_)⟩
    have hla := hCa.at_ hl (by simp)
    have hda := hCa.at_ hd (by simp)
    have hlt : w.heap.size + 1 < Wa.heap.size := (Array.getElem?_eq_some_iff.1 hla).1
    refine ⟨_, run_beginRound hla (by rw [hrc]), ?_⟩
    obtain ⟨Wb, hWb⟩ : ∃ Wb, Wb = Wa.putObj (w.heap.size + 1) (.loop { rc .ready none with state := .busy }) := ⟨_, rfl⟩
    have hlb : Wb.heap[w.heap.size + 1]? = some (.loop { rc .ready none with state := .busy }) := by rw [hWb]; exact World.putObj_heap_same hlt
    have hdb : Wb.heap[w.heap.size]? = some (.deferred (some [])) := by rw [hWb]; exact (World.putObj_heap_other (by omega)).trans hda
    have hCb : Chg ((w.heap.size + 1) :: T) W Wb := by rw [hWb]; exact hCa.nil.trans (Chg.putObj _ _ _ (by simp))
    have hib : I pre Wb := by rw [hWb]; exact hI.putObj _ hia (by omega) hla rfl
    have haxb : Ax x a' Wb := by rw [hWb]; exact (hAx x a').putObj (s := ()) _ hax (by omega) hla rfl
    rw [← hWb]
    -- the end of a round, whichever way
    have fin : ∀ (jump : Option Code) (W3 : World), Chg T Wb W3 → ∃ W4, (Instr.endRound (w.heap.size + 1) jump).run P W3 = .ok (.bool jump.isNone) W4 ∧
        W4 = W3.putObj (w.heap.size + 1) (.loop (rc (if jump.isNone then .ready else .done) jump)) ∧ W4.heap[w.heap.size + 1]? = some (.loop (rc (if jump.isNone then .ready else .done) jump)) ∧ W4.heap[w.heap.size]? = some (.deferred (some [])) ∧
        W3.heap[w.heap.size + 1]? = some (.loop { rc .ready none with state := .busy }) ∧ Chg ((w.heap.size + 1) :: T) W W4 := fun jump W3 hC3 => by
      have hl3 := hC3.at_ hlb nR
      have hrun := run_endRound (P := P) jump hl3
      refine ⟨W3.putObj (w.heap.size + 1) (.loop (rc (if jump.isNone then .ready else .done) jump)), ?_, rfl, World.putObj_heap_same (Array.getElem?_eq_some_iff.1 hl3).1, (World.putObj_heap_other (by omega)).trans (hC3.at_ hdb nD), hl3, ?_⟩
      · rw [hrc] at hrun ⊢; exact hrun
      · exact (hCb.trans (hC3.mono (fun k hk => .inl (List.mem_cons_of_mem _ hk)))).trans (Chg.putObj _ _ _ (by simp))
    refine wpIn_mono (hbody _ pre x a' Wb hib haxb hlen) fun e a3 W3 hp => ?_
    have leave : ∀ (c : Code), Chg T Wb W3 → Ix c (pre ++ [x]) W3 → ∃ v W4, (Instr.endRound (w.heap.size + 1) (some c)).run P W3 = .ok v W4 ∧
        ((Ending.returned v = .returned (.bool true) ∧ J (pre ++ [x]) W4 ∧ Chg ((w.heap.size + 1) :: T) W W4) ∨ (Ending.returned v = .returned (.bool false) ∧ Jx (pre ++ [x]) W4 ∧ Chg ((w.heap.size + 1) :: T) W W4)) := fun c hC3 hi3 => by
      obtain ⟨W4, hr, he, h4, h5, h6, h7⟩ := fin (some c) W3 hC3
      exact ⟨_, W4, hr, .inr ⟨rfl, ⟨c, by rw [he]; exact (hIx c).putObj _ hi3 (by omega) h6 rfl, h4, h5⟩, h7⟩⟩
    cases e with
    | normal =>
      obtain ⟨hC3, hi3⟩ := hp
      obtain ⟨W4, hr, he, h4, h5, h6, h7⟩ := fin none W3 hC3
      exact ⟨_, W4, hr, .inl ⟨rfl, ⟨by rw [he]; exact hI.putObj _ hi3 (by omega) h6 rfl, h4, h5⟩, h7⟩⟩
    | ret => exact leave .ret hp.1 hp.2
    | exit id => exact leave (.exit id) hp.1 hp.2
    | goto t => exact leave (.goto t) hp.1 hp.2
    | panic ch => exact hp.elim
    | outgrown => exact hp.elim
  · -- behind the iterator
    rintro e W2 ⟨⟨v, rfl⟩, h⟩
    rcases h with ⟨xs, hS, hi, hl, hd⟩ | ⟨pre, hSp, c, hi, hl, hd⟩
    · have hr := run_endLoop (P := P) hl (by rw [hrc]; simp)
      rw [show (rc .ready none).pending = none by rw [hrc]] at hr
      exact ⟨none, _, hr, hdone _ xs _ (Nat.le_refl _) hS (hI.putObj _ hi (by omega) hl rfl) ((World.putObj_heap_other (by omega)).trans hd)⟩
    · have hr := run_endLoop (P := P) hl (by rw [hrc]; simp)
      rw [show (rc .done (some c)).pending = some c by rw [hrc]] at hr
      exact ⟨some c, _, hr, hstop _ c pre _ (Nat.le_refl _) hSp ((hIx c).putObj _ hi (by omega) hl rfl) ((World.putObj_heap_other (by omega)).trans hd)⟩
end
end Go.Dm
