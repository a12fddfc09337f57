/-
  curve.Of: what each price has.
-/
import Derived.Test.YtdcjfaplgpeonaaQc
import Derived.Test.YtdcjfaplgpeonaaQ1
namespace Go.Proofs.Ytdcjfaplgpeonaa
open Go.RowKit Go.Dm Go.Shelf
attribute [local go_sem] Oper.semAt_some
attribute [local simp] wide_fn
attribute [local go_sem] wide_fn

/-- What Each hands, of each side. -/
def EachIs (w : World) (p : Option Addr) (L : List Ord) (X : Nat → List Nat) : Prop :=
  ∀ (s : Nat) (W : World) (bx by_ : Nat) (T : List Nat) (m : Nat), s < 2 → 8 ≤ m → Chg [] w W → W.heap[bx]? = some (.cells #[.pointer p] 87 (0, 0)) → W.heap[by_]? = some (.cells #[.int .i64 (s : Nat)] 3 (0, 0)) → (∀ k ∈ T, w.heap.size ≤ k) →
    SeqO m Try.prog 87 #[.pointer (some ⟨bx, 0, none⟩), .pointer (some ⟨by_, 0, none⟩)] (slotV L) T (fun xs => xs = toS L (X s)) (fun pre => pre <+: toS L (X s)) 4000 W

theorem z132 (w : World) : (zeroValue 132).run Try.prog w = .ok (nenc (0, 0)) w := by kernel_rfl
theorem ordsS_len {L : List Ord} (pre : List (SlotL L)) : (ordsS pre).length = pre.length := by simp [ordsS]
theorem sideO_len (L : List Ord) (s : List Nat) : (sideO L s).length ≤ s.length := by unfold sideO; rw [ordsS_len]; exact toS_len L s

theorem blkfreeU {w : World} {b : Nat} {cs : Array Value} {t : TypeId} (h : w.heap[b]? = some (.cells cs t (0, 0))) (j : Nat) : w.frozen? ⟨b, j, none⟩ = false := by
  simp [World.frozen?, h]
def marks (Ds : List Nat) : List Deferred := Ds.map (fun D => { target := .collected D, args := #[] })
def Marked (W : World) (Ds : List Nat) : Prop := Ds.Nodup ∧ ∀ D ∈ Ds, W.heap[D]? = some (.deferred (some []))
theorem leaves_marks {F : Fence} {n : Nat} {P : Program} {fn : Func} {tmps : Array Value} {R : Ending → World → Prop} : ∀ (Ds : List Nat) (w : World), Marked w Ds → (∀ w', Chg Ds w w' → LeavesInM F n P fn tmps R [] .returning w') → LeavesInM F n P fn tmps R (marks Ds) .returning w
  | [], w, _, h => h w (Chg.refl _ _)
  | D :: Ds, w, ⟨hn, hD⟩, h => by
    refine ⟨by simp, .inl ⟨_, _, rfl, run_takeDeferred (hD D (by simp)), ?_⟩⟩
    refine leaves_marks Ds _ ⟨(List.nodup_cons.1 hn).2, fun E hE => ?_⟩ (fun w' hC => h w' ((Chg.putObj (S := D :: Ds) w D _ (by simp)).trans (hC.mono (fun k hk => .inl (List.mem_cons_of_mem _ hk)))))
    have : E ≠ D := fun e => (List.nodup_cons.1 hn).1 (e ▸ hE)
    rw [World.putObj_heap_other this]
    exact hD E (List.mem_cons_of_mem _ hE)

structure OfSt (w W0 : World) (L : List Ord) (X : Nat → List Nat) (k : Nat) (Ds : List Nat) (W : World) : Prop where
  map : ∃ il, MapAt qenc nenc W w.heap.size il ∧ ∀ q, mLook il q = endA L X k q
  box : W.heap[w.heap.size + 1]? = some (.cells #[.map (some w.heap.size)] 128 (0, 0))
  chg : Chg [w.heap.size] W0 W
  marks : Marked W Ds
  low : ∀ D ∈ Ds, W0.heap.size ≤ D

theorem idx132_0 (W : World) (a b : Int) : (Instr.index 132 (.agg #[.int .i64 a, .int .i64 b]) (.int .i64 0)).run Try.prog W = .ok (.int .i64 a) W := by kernel_rfl
theorem idx132_1 (W : World) (a b : Int) : (Instr.index 132 (.agg #[.int .i64 a, .int .i64 b]) (.int .i64 1)).run Try.prog W = .ok (.int .i64 b) W := by kernel_rfl
theorem step_append2 {α : Type} {P : Program} {o : Oper} {a : Act} {K : Act → World → Prop} {Q : Exit → Act → World → Prop} (s x : Operand) (t : TypeId)
    {e size bytes : Nat} {renc : α → List Value} (R : REnc size renc) (E : ElemIs P t e size bytes)
    {w w0 : World} {S : List Nat} (h0 : Chg S w0 w) {v u : Value} {l l2 : List α} (h : SlAt e size renc w v l) (hF : Fresh w0.heap.size v) (hs : SrcAt renc w u l2)
    (hlen : l.length + l2.length ≤ 1000000) (hbytes : bytes ≤ 1000)
    (hop : o.op = Op.call { callee := Callee.builtin Builtin.append, args := #[s, x], argTypes := #[t, t] }) (hev : a.eval s = v) (heu : a.eval x = u)
    (hK : ∀ v' w', SlAt e size renc w' v' (l ++ l2) → Chg S w0 w' → Fresh w0.heap.size v' → w.grownBy w' v.ownBlock → K (a.put o.dst v') w') :
    Oper.wp P o a w K Q := by
  obtain ⟨i, z, h1, h2, h3, h4, h5⟩ := E.info
  obtain ⟨v', w', hrun, r1, r2, r3⟩ := run_append_sl t o.type e i z size bytes R E.slice h1 h2 h3 h4 h5 E.pos h hs (maxOk hlen) (Nat.le_trans (Nat.mul_le_mul hlen hbytes) (by omega))
  unfold Oper.wp
  simp [execOp, hop, resolve, invoke, builtin, hev, heu, hrun, Result.andThen]
  exact hK v' w' r1 (hF.chg' r2 h0 (Nat.le_refl _)) (hF.next h0.size r3) r2
/-- No panic is let out. -/
def noP (Q : Exit → Act → World → Prop) : Exit → Act → World → Prop
  | .panic _, _, _ => False
  | .normal, a, w => Q .normal a w
  | .ret, a, w => Q .ret a w
  | .exit i, a, w => Q (.exit i) a w
  | .goto i, a, w => Q (.goto i) a w
  | .outgrown, a, w => Q .outgrown a w
theorem wp_noP {P : Program} {c : Code} {Q : Exit → Act → World → Prop} {a : Act} {w : World} (h : c.wp P (noP Q) a w) : c.wp P Q a w := Code.wp_mono (fun e a w q => by cases e <;> first | exact q | exact q.elim) h

def PtRel (w : World) (il : NL) (v : Value) (ss : List Int) (Ds : List Nat) (c : Nat) (pts : List Pt) (q : Nat) (i : Value) (wr : World) : Prop :=
  ∃ k : Nat, k ≤ pts.length ∧ q = pts.length - k + 1 ∧ i = .int .i64 k ∧ CSt w il v ss Ds wr ∧ CvAt wr w.heap.size c (pts.take k) ∧ Chg [] w wr

def P2Rel (w : World) (il : NL) (v : Value) (ss : List Int) (Ds : List Nat) (c : Nat) (l0 l1 : List Ord) (q : Nat) (i : Value) (wr : World) : Prop :=
  ∃ k : Nat, k ≤ ss.length ∧ q = ss.length - k + 1 ∧ i = .int .i64 k ∧ CSt w il v ss Ds wr ∧ CvAt wr w.heap.size c (ptsS ss l0 l1 k) ∧ Chg [] w wr
def P3Rel (w : World) (il : NL) (v : Value) (ss : List Int) (Ds : List Nat) (c : Nat) (l0 l1 : List Ord) (q : Nat) (i : Value) (wr : World) : Prop :=
  ∃ k : Nat, k ≤ ss.length ∧ q = k + 1 ∧ i = .int .i64 ((k : Int) - 2) ∧ CSt w il v ss Ds wr ∧ CvAt wr w.heap.size c (ptsD ss l0 l1 k) ∧ Chg [] w wr

set_option maxRecDepth 100000 in
set_option maxHeartbeats 4000000 in
theorem of44 (w : World) (p : Option Addr) (L : List Ord) (X : Nat → List Nat) (hE : EachIs w p L X) (hq : QtyOk L) (hX : ∀ s, (X s).length ≤ 60) :
    Calls Try.prog 44 #[.pointer p] w fun e w' => ∃ c ss, e = .returned (.pointer (some ⟨c, 0, none⟩)) ∧ Prices ss (sideO L (X 0)) (sideO L (X 1)) ∧ CvAt w' w.heap.size c (ptsC ss (sideO L (X 0)) (sideO L (X 1))) ∧ Chg [] w w' := by
  refine (callsIn_wide (n := 20)).1 ?_
  refine callsIn_of_wp_marks (n := 20) Try.func44 rfl trivial (wpIn_wide.2 ?_) rfl
  simp only [Try.ntmps44, List.size_toArray, List.length_cons, List.length_nil, Nat.reduceAdd, Nat.reduceSub, Array.replicate_succ, Array.replicate_zero, List.push_toArray, List.append_toArray, List.nil_append, List.cons_append]
  have hmm := @run_makeMap Try.prog
  refine wp_noP ?_
  go_wp2_with fail
  obtain ⟨W0, eW0⟩ : ∃ W0, ((w.alloc (Obj.map #[] 0)).alloc (Obj.cells #[Value.map (some w.heap.size)] 128)) = W0 := ⟨_, rfl⟩
  have hC0 : Chg [] w W0 := eW0 ▸ (Chg.alloc [] w (.map #[] 0)).trans (Chg.alloc [] _ _)
  have hS0 : OfSt w W0 L X 0 [] W0 := by
    refine ⟨⟨[], eW0 ▸ (MapAt.new w).chg (Chg.alloc [] _ _) (by simp), fun q => by simp [mLook, endA, semA, hasP]⟩, ?_, Chg.refl _ _, ⟨by simp, by simp⟩, by simp⟩
    have := heap_alloc_new (w.alloc (Obj.map #[] 0)) (.cells #[Value.map (some w.heap.size)] 128)
    rw [World.size_alloc] at this
    exact eW0 ▸ this
  have hz0 : W0.heap.size = w.heap.size + 1 + 1 := by rw [← eW0]; simp
  rw [eW0]
  clear eW0 hmm
  refine wp_loop_ghost (fun q a W => ∃ (k : Nat) (Ds : List Nat) (u4 u14 u15 u16 u17 u18 u35 : Value), a = { tmps := #[.pointer p, undef, .pointer none, .pointer (some ⟨w.heap.size + 1, 0, none⟩), u4, undef, undef, undef, undef, undef, undef, undef, .map (some w.heap.size), .int .i64 (k : Nat), u14, u15, u16, u17, u18, undef, undef, undef, undef, undef, undef, undef, undef, undef, undef, undef, undef, undef, undef, undef, undef, u35, undef, undef, undef, undef, undef, undef, undef, undef, undef, undef, undef, undef, undef, undef, undef, undef, undef, undef, undef, undef, undef, undef, undef, undef, undef, undef, undef, undef, undef, undef, undef, undef, undef, undef, undef, undef, undef, undef, undef, undef, undef, undef, undef, undef, undef, undef, undef, undef, undef, undef, undef, undef, undef, undef, undef, undef, undef, undef, undef, undef, undef, undef, undef, undef, undef, undef, undef, undef, undef, undef, undef, undef, undef, undef, undef, undef, undef, undef, undef, undef, undef, undef, undef, undef, undef, undef, undef, undef, undef, undef, undef, undef], defers := marks Ds } ∧ k ≤ 2 ∧ q = 3 - k ∧ OfSt w W0 L X k Ds W) 3 ⟨0, [], undef, undef, undef, undef, undef, undef, undef, rfl, by omega, rfl, hS0⟩ ?_
  clear hS0
  rintro q a W ⟨k, Ds, u4, u14, u15, u16, u17, u18, u35, rfl, hk, hq3, hS⟩
  have Hq := Lib.hid hq3
  clear hq3
  by_cases hk2 : k < 2
  · have k0 : (0 : Int) ≤ (k : Int) := Int.natCast_nonneg _
    have k1 : (k : Int) < 2 := by omega
    go_wp2_with fail
    refine (each68 _ _ _).mono ?_
    rintro e w' ⟨rfl, rfl⟩
    obtain ⟨il, hm, hil⟩ := hS.map
    have bs := heap_alloc_new W (.cells #[.int .i64 (k : Nat)] 3)
    have hA1 := Chg.alloc [] W (.cells #[.int .i64 (k : Nat)] 3)
    have bp := heap_alloc_new (W.alloc (.cells #[.int .i64 (k : Nat)] 3)) (.cells #[.pointer p] 87)
    have hA2 := Chg.alloc [] (W.alloc (.cells #[.int .i64 (k : Nat)] 3)) (.cells #[.pointer p] 87)
    have bi := heap_alloc_new ((W.alloc (.cells #[.int .i64 (k : Nat)] 3)).alloc (.cells #[.pointer p] 87)) (.cells #[.int .i64 (k : Nat)] 3)
    have hA3 := Chg.alloc [] ((W.alloc (.cells #[.int .i64 (k : Nat)] 3)).alloc (.cells #[.pointer p] 87)) (.cells #[.int .i64 (k : Nat)] 3)
    have hA := (hA1.trans hA2).trans hA3
    have bs := hA3.at_ (hA2.at_ bs (by simp)) (by simp)
    have bp := hA3.at_ bp (by simp)
    simp only [World.size_alloc] at bp bi
    have hz1 : (((W.alloc (.cells #[.int .i64 (k : Nat)] 3)).alloc (.cells #[.pointer p] 87)).alloc (.cells #[.int .i64 (k : Nat)] 3)).heap.size = W.heap.size + 1 + 1 + 1 := by simp
    simp only [World.size_alloc]
    obtain ⟨W1, eW1⟩ : ∃ W1, (((W.alloc (.cells #[.int .i64 (k : Nat)] 3)).alloc (.cells #[.pointer p] 87)).alloc (.cells #[.int .i64 (k : Nat)] 3)) = W1 := ⟨_, rfl⟩
    rw [eW1] at hA bs bp bi hz1 ⊢
    clear hA1 hA2 hA3 eW1
    go_wp2_with fail
    have hww : w.heap.size + 1 < W.heap.size := by have := hS.chg.size; omega
    have hw1 : w.heap.size < W1.heap.size := by have := hS.chg.size; omega
    have hCw : Chg [] w W1 := (hC0.trans' hS.chg (U := []) (by simp) (by simp)).trans hA
    have hm1 := hm.chg hA (by simp)
    have cb := hA.at_ hS.box (by simp)
    refine name_actW (fun a0 ha => ?_)
    obtain ⟨f, hf⟩ : ∃ f : SlotL L → Nat → Act, ∀ x B, f x B = { tmps := (a0.tmps.setIfInBounds 19 (oV (L.getD x.1 (fun _ => 0)))).setIfInBounds 5 (ptr B), defers := [] } := ⟨_, fun _ _ => rfl⟩
    subst ha
    refine (wpIn_wide (n := 20)).1 ?_
    refine rangeO (T := [w.heap.size]) (gf := 87) (lb := #[ptr (W.heap.size + 1), ptr (W.heap.size + 1 + 1)]) rfl (enters_of Try.func87 (by kernel_rfl) rfl) (by simpa using hw1)
      (hE k W1 (W.heap.size + 1) (W.heap.size + 1 + 1) [W1.heap.size + 1, w.heap.size] 19 hk2 (by omega) hCw bp bi (by simp; omega)) (Below.refl _ _) (fun _ => rfl)
      (fun pre Wc => (∃ il, MapAt qenc nenc Wc w.heap.size il ∧ ∀ q, mLook il q = stA L X k pre q) ∧ Chg [w.heap.size] W1 Wc)
      (fun _ _ _ => False)
      (fun pre A B row ⟨⟨il, h1, h2⟩, h3⟩ hg hr => ⟨⟨il, h1.same (hg.block _ h1.lt (fun e => by have := (hr _ e.symm).1; omega)), h2⟩, ownFrom_chgT (β := Unit) _ W1 () _ _ _ h3 hg hr⟩)
      (fun _ _ _ _ _ h _ _ => h)
      ⟨⟨il, hm1, fun q => by rw [hil, stA_start hk2]⟩, Chg.refl _ _⟩
      (fun x a' Wc => ∃ B : Nat, W1.heap.size ≤ B ∧ Wc.heap[B]? = some (Obj.cells (oCs (L.getD x.1 (fun _ => 0))) 52 (0, 0)) ∧ a' = f x B)
      (fun x a' s A C row ⟨B, hB0, hB, e⟩ hg hr => ⟨B, hB0, ownFrom_cellsT (fun _ => Obj.cells (oCs (L.getD x.1 (fun _ => 0))) 52 (0, 0)) (fun _ => rfl) () A C row hB hg hr, e⟩) ?assign ?body ?done ?stop
    case assign =>
      intro l pre x W2 K hi hK
      obtain ⟨B, hB⟩ : ∃ B, W2.heap.size = B := ⟨_, rfl⟩
      obtain ⟨o, ho⟩ : ∃ o, L.getD x.1 (fun _ => 0) = o := ⟨_, rfl⟩
      simp only [slotV, oV, ho]
      gi_wp2
      have hA := Chg.alloc [] W2 (.cells #[.int .i64 (o 0), .int .i64 (o 1), .int .i64 (o 2), .int .i64 (o 3), .int .i64 (o 4), .int .i64 (o 5), .int .i64 (o 6)] 52)
      obtain ⟨⟨il2, hm2, hl2⟩, hc2⟩ := hi
      refine hK _ _ hA ⟨⟨il2, hm2.chg hA (by simp), hl2⟩, hc2.trans hA.nil⟩ ⟨B, by rw [← hB]; exact hc2.size, by rw [ho]; exact hB ▸ heap_alloc_new W2 _, ?_⟩
      rw [hf, ho]; simp [oV, ptr]
    case body =>
      rintro l pre x a' W2 ⟨⟨il2, hm2, hl2⟩, hc2⟩ ⟨B, hB0, hBx, ea⟩ hlen
      rw [hf] at ea
      subst ea
      obtain ⟨o, ho⟩ : ∃ o, L.getD x.1 (fun _ => 0) = o := ⟨_, rfl⟩
      have hoL : o ∈ L := by rw [← ho]; have := x.2; simp [List.getD, this]
      obtain ⟨q0, q1⟩ := hq o hoL
      have happ := ordsS_app pre x
      rw [ho] at hBx happ ⊢
      have cb2 := blk1 (hc2.at_ cb (by simp))
      have cs2 := blk1 (hc2.at_ bs (by simp; omega))
      obtain ⟨_, _, _, x3, x4, _, _⟩ := blk7 hBx
      have hm2w := hm2
      rcases (by omega : k = 0 ∨ k = 1) with rfl | rfl
      · have hsm : ∀ q, mLook il2 q = semA (ordsS pre) [] q := fun q => by rw [hl2]; simp [stA]
        have hl := hm2.lookup MQ Try.underlying128 z132 (o 3) false
        rw [hsm, semA_found] at hl
        obtain ⟨b0, b1⟩ := sumP_le (l := (ordsS pre)) (hq.sub (ordsS_mem pre)) (o 3)
        obtain ⟨b2, b3⟩ := sumP_le (l := []) (fun _ h => by simp at h) (o 3)
        have hpl := ordsS_len pre
        skip
        have hputs := semA_put0 hsm o
        obtain ⟨n0, hn0⟩ : ∃ n0, sumP (ordsS pre) (o 3) = n0 := ⟨_, rfl⟩
        obtain ⟨n1, hn1⟩ : ∃ n1, sumP [] (o 3) = n1 := ⟨_, rfl⟩
        rw [hn0, hn1] at hl hputs
        rw [hn0] at b0 b1
        rw [hn1] at b2 b3
        simp only [qenc, nenc, Bool.false_eq_true, if_false] at hl
        have hw : IntKind.i64.wrap (n0 + o 4) = n0 + o 4 := wrapOk (by omega) (by omega)
        simp only [oV, ptr]
        clear hE hq hX hm hil hm1 cb bs bp bi hS hA hCw hC0
        gi_wp2
        have hA7 := Chg.alloc [] W2 (.cells #[.int .i64 n0, .int .i64 n1] 132)
        have bn := heap_alloc_new W2 (.cells #[.int .i64 n0, .int .i64 n1] 132)
        have hCd := hA7.trans (Chg.drew [] _)
        have bn := (Chg.drew [] (W2.alloc (.cells #[.int .i64 n0, .int .i64 n1] 132))).at_ bn (by simp)
        obtain ⟨B2, hB2⟩ : ∃ B2, W2.heap.size = B2 := ⟨_, rfl⟩
        refine tail_round 7 (by kernel_rfl) (by kernel_rfl) (by kernel_rfl) ?_
        obtain ⟨Wd, hd⟩ : ∃ Wd, (W2.alloc (.cells #[.int .i64 n0, .int .i64 n1] 132)).drew = Wd := ⟨_, rfl⟩
        rw [hd] at hCd bn ⊢
        rw [hB2] at bn ⊢
        clear hd hA7
        have cs3 := hCd.cell cs2 (by simp)
        have cb3 := hCd.cell cb2 (by simp)
        have y3 := hCd.cell x3 (by simp)
        have y4 := hCd.cell x4 (by simp)
        obtain ⟨m0, m1⟩ := blk2 bn
        have ff := blkfreeU bn
        clear cs2 cb2 x3 x4 hl
        simp only [List.take_succ_cons, List.take_zero, List.drop_succ_cons, List.drop_zero]
        repeat still_step
        refine wpStill_nil ?_
        have f5 := ff 0
        have bn5 := blk_set bn 0 (.int .i64 (n0 + o 4))
        have hC5 : Chg [] W2 (Wd.setCell ⟨B2, 0, none⟩ (.int .i64 (n0 + o 4))) := hCd.putNew (by omega)
        have hs5 := Chg.setCell (S := [B2]) Wd ⟨B2, 0, none⟩ (.int .i64 (n0 + o 4)) (by simp)
        have ltB : w.heap.size + 1 < B2 := by have := hc2.size; omega
        have neB : B ≠ B2 := by have := blk_lt hBx; omega
        have z3 := hs5.cell cb3 (by simp; omega)
        have w3 := hs5.cell y3 (by simp; omega)
        have hm5 := hm2.chg hC5 (by simp)
        simp only [List.setIfInBounds_toArray, List.set_cons_zero] at bn5
        obtain ⟨r0, r1⟩ := blk2 bn5
        obtain ⟨W6, hup, hm6, hC6, hz6⟩ := hm5.update MQ Try.underlying128 (o 3) (n0 + o 4, n1)
        simp only [qenc, nenc] at hup
        have HF := Lib.hid (And.intro hm6 (hC5.nil.trans hC6 : Chg [w.heap.size] W2 W6))
        clear hm6 hC6 hC5 hs5 hm5 bn5 bn ff hCd hm2 hBx
        gi_wp2
        have h1 := HF.out.1
        have h2 := HF.out.2
        exact ⟨h2, ⟨_, h1, fun q => by rw [hputs q]; simp [stA, happ]⟩, hc2.trans h2⟩
      · have hsm : ∀ q, mLook il2 q = semA (sideO L (X 0)) (ordsS pre) q := fun q => by rw [hl2]; simp [stA]
        have hl := hm2.lookup MQ Try.underlying128 z132 (o 3) false
        rw [hsm, semA_found] at hl
        obtain ⟨b0, b1⟩ := sumP_le (l := (sideO L (X 0))) (hq.sub (ordsS_mem _)) (o 3)
        obtain ⟨b2, b3⟩ := sumP_le (l := (ordsS pre)) (hq.sub (ordsS_mem pre)) (o 3)
        have hpl := ordsS_len pre
        have hsl := Nat.le_trans (sideO_len L (X 0)) (hX 0)
        have hputs := semA_put1 hsm o
        obtain ⟨n0, hn0⟩ : ∃ n0, sumP (sideO L (X 0)) (o 3) = n0 := ⟨_, rfl⟩
        obtain ⟨n1, hn1⟩ : ∃ n1, sumP (ordsS pre) (o 3) = n1 := ⟨_, rfl⟩
        rw [hn0, hn1] at hl hputs
        rw [hn0] at b0 b1
        rw [hn1] at b2 b3
        simp only [qenc, nenc, Bool.false_eq_true, if_false] at hl
        have hw : IntKind.i64.wrap (n1 + o 4) = n1 + o 4 := wrapOk (by omega) (by omega)
        simp only [oV, ptr]
        clear hE hq hX hm hil hm1 cb bs bp bi hS hA hCw hC0
        gi_wp2
        have hA7 := Chg.alloc [] W2 (.cells #[.int .i64 n0, .int .i64 n1] 132)
        have bn := heap_alloc_new W2 (.cells #[.int .i64 n0, .int .i64 n1] 132)
        have hCd := hA7.trans (Chg.drew [] _)
        have bn := (Chg.drew [] (W2.alloc (.cells #[.int .i64 n0, .int .i64 n1] 132))).at_ bn (by simp)
        obtain ⟨B2, hB2⟩ : ∃ B2, W2.heap.size = B2 := ⟨_, rfl⟩
        refine tail_round 7 (by kernel_rfl) (by kernel_rfl) (by kernel_rfl) ?_
        obtain ⟨Wd, hd⟩ : ∃ Wd, (W2.alloc (.cells #[.int .i64 n0, .int .i64 n1] 132)).drew = Wd := ⟨_, rfl⟩
        rw [hd] at hCd bn ⊢
        rw [hB2] at bn ⊢
        clear hd hA7
        have cs3 := hCd.cell cs2 (by simp)
        have cb3 := hCd.cell cb2 (by simp)
        have y3 := hCd.cell x3 (by simp)
        have y4 := hCd.cell x4 (by simp)
        obtain ⟨m0, m1⟩ := blk2 bn
        have ff := blkfreeU bn
        clear cs2 cb2 x3 x4 hl
        simp only [List.take_succ_cons, List.take_zero, List.drop_succ_cons, List.drop_zero]
        repeat still_step
        refine wpStill_nil ?_
        have f5 := ff 1
        have bn5 := blk_set bn 1 (.int .i64 (n1 + o 4))
        have hC5 : Chg [] W2 (Wd.setCell ⟨B2, 1, none⟩ (.int .i64 (n1 + o 4))) := hCd.putNew (by omega)
        have hs5 := Chg.setCell (S := [B2]) Wd ⟨B2, 1, none⟩ (.int .i64 (n1 + o 4)) (by simp)
        have ltB : w.heap.size + 1 < B2 := by have := hc2.size; omega
        have neB : B ≠ B2 := by have := blk_lt hBx; omega
        have z3 := hs5.cell cb3 (by simp; omega)
        have w3 := hs5.cell y3 (by simp; omega)
        have hm5 := hm2.chg hC5 (by simp)
        simp only [List.setIfInBounds_toArray, List.set_cons_zero, List.set_cons_succ] at bn5
        obtain ⟨r0, r1⟩ := blk2 bn5
        obtain ⟨W6, hup, hm6, hC6, hz6⟩ := hm5.update MQ Try.underlying128 (o 3) (n0, n1 + o 4)
        simp only [qenc, nenc] at hup
        have HF := Lib.hid (And.intro hm6 (hC5.nil.trans hC6 : Chg [w.heap.size] W2 W6))
        clear hm6 hC6 hC5 hs5 hm5 bn5 bn ff hCd hm2 hBx
        gi_wp2
        have h1 := HF.out.1
        have h2 := HF.out.2
        exact ⟨h2, ⟨_, h1, fun q => by rw [hputs q]; simp [stA, happ]⟩, hc2.trans h2⟩
    case done =>
      rintro D xs W2 hD rfl ⟨⟨il2, hm2, hl2⟩, hc2⟩ hK
      have hC2 : Chg [w.heap.size] W W2 := hA.nil.trans hc2
      have hb2 := hC2.at_ hS.box (by simp)
      have hmk : Marked W2 (D :: Ds) := by
        obtain ⟨n1, n2⟩ := hS.marks
        have hlt : ∀ E ∈ Ds, E < W.heap.size := fun E hE => blk_lt (n2 E hE)
        refine ⟨List.nodup_cons.2 ⟨fun h => by have := hlt D h; omega, n1⟩, fun E hE => ?_⟩
        rcases List.mem_cons.1 hE with rfl | hE
        · exact hK
        · exact hC2.at_ (n2 E hE) (by have := hS.low E hE; simp; omega)
      have hlow : ∀ E ∈ D :: Ds, W0.heap.size ≤ E := fun E hE => by
        rcases List.mem_cons.1 hE with rfl | hE
        · have := hS.chg.size; omega
        · exact hS.low E hE
      have hS2 : OfSt w W0 L X (k + 1) (D :: Ds) W2 := ⟨⟨il2, hm2, fun q => by rw [hl2, stA_end hk2]⟩, hb2, hS.chg.trans hC2, hmk, hlow⟩
      clear hS hb2 hmk hlow hm2 hl2 hA hm cb bs bp bi
      go_wp2_with fail
      exact ⟨3 - (k + 1), by rw [Hq.out]; omega, k + 1, D :: Ds, ⟨by omega, rfl⟩, by omega, rfl, hS2⟩
    case stop =>
      rintro D c pre W2 hD hp h hK
      exact h.elim
  · obtain rfl : k = 2 := by omega
    obtain ⟨il, hm, hil⟩ := hS.map
    have hil : ∀ q, mLook il q = semA (sideO L (X 0)) (sideO L (X 1)) q := fun q => by rw [hil]; rfl
    have hA1 := Chg.alloc [] W (.cells #[.slice none 0 0] 135)
    have bc := heap_alloc_new W (.cells #[.slice none 0 0] 135)
    have cb := blk1 (hA1.at_ hS.box (by simp))
    have hww : w.heap.size + 1 < W.heap.size := by have := hS.chg.size; omega
    go_wp2_with fail
    refine (keys70 _ _).mono ?_
    rintro e w' ⟨rfl, rfl⟩
    have hA2 := Chg.alloc [] (W.alloc (.cells #[.slice none 0 0] 135)) (.cells #[.map (some w.heap.size)] 128)
    have bk := heap_alloc_new (W.alloc (.cells #[.slice none 0 0] 135)) (.cells #[.map (some w.heap.size)] 128)
    have hA := hA1.trans hA2
    have bc := hA2.at_ bc (by simp)
    simp only [World.size_alloc] at bk
    have hm3 := hm.chg hA (by simp)
    have hln : il.length ≤ 1000 := by
      have h1 := keys_len hm.nodup hil
      have h2 := Nat.le_trans (sideO_len L (X 0)) (hX 0)
      have h3 := Nat.le_trans (sideO_len L (X 1)) (hX 1)
      omega
    have hso := sorted69 _ _ _ il bk hm3 hln
    simp only [World.size_alloc] at hso
    go_wp2_with fail
    refine hso.mono ?_
    rintro e W3 ⟨v, out, rfl, hsl, hperm, hC3, hfr⟩
    obtain ⟨ss, hss⟩ : ∃ ss, srt out = ss := ⟨_, rfl⟩
    have hout : ss.length ≤ 1000 := by rw [← hss, srt_len, hperm.length_eq]; simpa [keysL] using hln
    rw [hss] at hsl
    have hCw : Chg [] w W := hC0.trans' hS.chg (U := []) (by simp) (by simp)
    have hst : CSt w il v ss Ds W3 := ⟨hm3.chg hC3 (by simp), hC3.at_ (hA.at_ hS.box (by simp)) (by simp), hsl, hS.marks.1, fun D hD => hC3.at_ (hA.at_ (hS.marks.2 D hD) (by simp)) (by simp)⟩
    have hcv : CvAt W3 w.heap.size W.heap.size [] := ⟨_, hC3.at_ bc (by simp), SlAt.nil _ _ _ _, Fresh.none, by omega⟩
    have hC4 : Chg [] w W3 := (hCw.trans hA).trans hC3
    obtain ⟨pts, hpts⟩ : ∃ pts, ss.map (ptOf (sideO L (X 0)) (sideO L (X 1))) = pts := ⟨_, rfl⟩
    have hpl : pts.length = ss.length := by rw [← hpts, List.length_map]
    obtain ⟨cI, hcI⟩ : ∃ cI, W.heap.size = cI := ⟨_, rfl⟩
    rw [hcI] at hcv ⊢
    have hsm0 := sumOk (l := sideO L (X 0)) (hq.sub (ordsS_mem _)) (Nat.le_trans (sideO_len L (X 0)) (hX 0))
    have hsm1 := sumOk (l := sideO L (X 1)) (hq.sub (ordsS_mem _)) (Nat.le_trans (sideO_len L (X 1)) (hX 1))
    have hmn := hm.nodup
    obtain ⟨A, cap, rfl, _, hA0⟩ := hsl.form
    have HD := Lib.hid (show ∀ D ∈ Ds, w.heap.size ≤ D from fun D hD => Nat.le_trans hC0.size (hS.low D hD))
    have HL := Lib.hid (And.intro hout (And.intro hss hperm))
    have HPr := Lib.hid (show Prices ss _ _ from hss ▸ prices_of hmn hil hperm)
    have HQ := Lib.hid (And.intro hsm0 hsm1)
    clear hE hq hX hm hm3 bk bc hso hfr hsl hS hA hA1 hA2 cb hln hC3 hC0 hCw hout hss hperm hsm0 hsm1 hmn
    go_wp2_with fail
    go_loopg [42] (pts.length + 1) (fun q i wr => PtRel w il (.slice A ss.length cap) ss Ds cI pts q i wr)
    case atStart => exact ⟨0, Nat.zero_le _, rfl, rfl, hst, hcv, hC4⟩
    case round =>
      clear hst hcv hC4
      obtain ⟨k, hk, hkq, rfl, hst, hcv, hCr⟩ := hrel
      have Hkq := Lib.hid hkq
      clear hkq
      by_cases hlt : k < ss.length
      · obtain ⟨g, rfl⟩ := hA0 (by omega)
        obtain ⟨v1, hb1, hs1, hf1, hc1⟩ := hcv
        obtain ⟨x, hx⟩ : ∃ x, ss[k]? = some x := ⟨ss[k]'hlt, by simp [hlt]⟩
        have hid := hst.ids.at_ idR (i := k) (j := 0) hx (by omega)
        simp only [Nat.mul_one, Nat.add_zero, idE, List.getElem?_cons_zero] at hid
        have k0 : (0 : Int) ≤ (k : Int) := Int.natCast_nonneg _
        have k1 : (k : Int) < (ss.length : Int) := by omega
        have c0 := blk1 hb1
        have f0 := blkfreeU hb1 0
        have cb := blk1 hst.box
        have nO : ∀ b ∈ ownL v1, ∃ cs, wr.heap[b]? = some (.cells cs 83 (0, 0)) := fun b hb => by
          simp only [ownL, Option.mem_toList] at hb
          exact hs1.typed hb
        have nC : cI ∉ ownL v1 := fun h => by obtain ⟨cs, h2⟩ := nO _ h; rw [hb1] at h2; cases h2
        have nB : w.heap.size + 1 ∉ ownL v1 := fun h => by obtain ⟨cs, h2⟩ := nO _ h; rw [hst.box] at h2; cases h2
        have nM : w.heap.size ∉ ownL v1 := fun h => by obtain ⟨cs, h2⟩ := nO _ h; obtain ⟨_, _, h3, _⟩ := hst.map; rw [h3] at h2; cases h2
        obtain ⟨n0, hn0⟩ : ∃ n0, sumP (sideO L (X 0)) x = n0 := ⟨_, rfl⟩
        obtain ⟨n1, hn1⟩ : ∃ n1, sumP (sideO L (X 1)) x = n1 := ⟨_, rfl⟩
        have hlk := hil x
        have hfd := semA_found (sideO L (X 0)) (sideO L (X 1)) x
        rw [← hlk, hn0, hn1] at hfd
        have HFD := Lib.hid (And.intro hfd (And.intro hn0 hn1))
        clear hfd hn0 hn1 hlk
        go_wp2_with fail
        refine wp_cutR (Chg (ownL v1) wr) 17 (by kernel_rfl) (by kernel_rfl) (fun _ h => Chg.nil h) (fun W hW hS => ?_)
        simp only [List.take_succ_cons, List.take_zero, List.drop_succ_cons, List.drop_zero]
        have hWh := Lib.hid hW
        clear hW
        have HCv := Lib.hid (And.intro hs1 (And.intro hf1 (And.intro hc1 (And.intro hst (And.intro hb1 hCr)))))
        have HN := Lib.hid (And.intro nC (And.intro nB nM))
        clear hs1 hf1 hc1 hst hCr nO nC nB nM hb1 hid
        refine takeH 0 (v := ?vv384) rfl (by kernel_rfl) (by kernel_rfl) (by kernel_rfl) (fun _ _ _ h => h) (by kernel_rfl) (fun Wx hSx => ?hy384) (by assumption) ?hrest384
        case hy384 => go_simp; (try with_reducible rfl)
        simp only [Act.put, List.getElem_toArray, List.getElem_cons_zero, List.setIfInBounds_toArray, List.set_cons_zero, List.set_cons_succ]
        refine takeH 1 (v := ?vv387) rfl (by kernel_rfl) (by kernel_rfl) (by kernel_rfl) (fun _ _ _ h => h) (by kernel_rfl) (fun Wx hSx => ?hy387) (by assumption) ?hrest387
        case hy387 => go_simp; (try with_reducible rfl)
        simp only [Act.put, List.getElem_toArray, List.getElem_cons_succ, List.getElem_cons_zero, List.setIfInBounds_toArray, List.set_cons_zero, List.set_cons_succ]
        refine takeH 2 (v := ?vv390) rfl (by kernel_rfl) (by kernel_rfl) (by kernel_rfl) (fun _ _ _ h => h) (by kernel_rfl) (fun Wx hSx => ?hy390) (by assumption) ?hrest390
        case hy390 => go_simp; (try with_reducible rfl)
        simp only [Act.put, List.getElem_toArray, List.getElem_cons_succ, List.getElem_cons_zero, List.setIfInBounds_toArray, List.set_cons_zero, List.set_cons_succ]
        refine takeH 3 (v := ?vv393) rfl (by kernel_rfl) (by kernel_rfl) (by kernel_rfl) (fun _ _ _ h => h) (by kernel_rfl) (fun Wx hSx => ?hy393) (by assumption) ?hrest393
        case hy393 => go_simp; (try with_reducible rfl)
        simp only [Act.put, List.getElem_toArray, List.getElem_cons_succ, List.getElem_cons_zero, List.setIfInBounds_toArray, List.set_cons_zero, List.set_cons_succ]
        refine takeH 4 (v := ?vv396) rfl (by kernel_rfl) (by kernel_rfl) (by kernel_rfl) (fun _ _ _ h => h) (by kernel_rfl) (fun Wx hSx => ?hy396) (by assumption) ?hrest396
        case hy396 => have q0 := hSx.cell c0 HN.out.1; go_simp; (try with_reducible rfl)
        simp only [Act.put, List.getElem_toArray, List.getElem_cons_succ, List.getElem_cons_zero, List.setIfInBounds_toArray, List.set_cons_zero, List.set_cons_succ]
        refine takeH 5 (v := ?vv399) rfl (by kernel_rfl) (by kernel_rfl) (by kernel_rfl) (fun _ _ _ h => h) (by kernel_rfl) (fun Wx hSx => ?hy399) (by assumption) ?hrest399
        case hy399 => go_simp; (try with_reducible rfl)
        simp only [Act.put, List.getElem_toArray, List.getElem_cons_succ, List.getElem_cons_zero, List.setIfInBounds_toArray, List.set_cons_zero, List.set_cons_succ]
        refine takeH 6 (v := ?vv402) rfl (by kernel_rfl) (by kernel_rfl) (by kernel_rfl) (fun _ _ _ h => h) (by kernel_rfl) (fun Wx hSx => ?hy402) (by assumption) ?hrest402
        case hy402 => have q0 := hSx.cell cb HN.out.2.1; go_simp; (try with_reducible rfl)
        simp only [Act.put, List.getElem_toArray, List.getElem_cons_succ, List.getElem_cons_zero, List.setIfInBounds_toArray, List.set_cons_zero, List.set_cons_succ]
        refine takeH 7 (v := ?vv405) rfl (by kernel_rfl) (by kernel_rfl) (by kernel_rfl) (fun _ _ _ h => h) (by kernel_rfl) (fun Wx hSx => ?hy405) (by assumption) ?hrest405
        case hy405 => go_simp; (try with_reducible rfl)
        simp only [Act.put, List.getElem_toArray, List.getElem_cons_succ, List.getElem_cons_zero, List.setIfInBounds_toArray, List.set_cons_zero, List.set_cons_succ]
        refine takeH 8 (v := ?vv408) rfl (by kernel_rfl) (by kernel_rfl) (by kernel_rfl) (fun _ _ _ h => h) (by kernel_rfl) (fun Wx hSx => ?hy408) (by assumption) ?hrest408
        case hy408 => have q0 := (HCv.out.2.2.2.1.map.chg hSx HN.out.2.2).lookup MQ Try.underlying128 z132 x false; rw [HFD.out.1] at q0; simp only [qenc, nenc, Bool.false_eq_true, if_false] at q0; go_simp; (try with_reducible rfl)
        simp only [Act.put, List.getElem_toArray, List.getElem_cons_succ, List.getElem_cons_zero, List.setIfInBounds_toArray, List.set_cons_zero, List.set_cons_succ]
        refine takeH 9 (v := ?vv411) rfl (by kernel_rfl) (by kernel_rfl) (by kernel_rfl) (fun _ _ _ h => h) (by kernel_rfl) (fun Wx hSx => ?hy411) (by assumption) ?hrest411
        case hy411 => have q0 := idx132_0 Wx n0 n1; go_simp; (try with_reducible rfl)
        simp only [Act.put, List.getElem_toArray, List.getElem_cons_succ, List.getElem_cons_zero, List.setIfInBounds_toArray, List.set_cons_zero, List.set_cons_succ]
        refine takeH 10 (v := ?vv414) rfl (by kernel_rfl) (by kernel_rfl) (by kernel_rfl) (fun _ _ _ h => h) (by kernel_rfl) (fun Wx hSx => ?hy414) (by assumption) ?hrest414
        case hy414 => have q0 := hSx.cell cb HN.out.2.1; go_simp; (try with_reducible rfl)
        simp only [Act.put, List.getElem_toArray, List.getElem_cons_succ, List.getElem_cons_zero, List.setIfInBounds_toArray, List.set_cons_zero, List.set_cons_succ]
        refine takeH 11 (v := ?vv417) rfl (by kernel_rfl) (by kernel_rfl) (by kernel_rfl) (fun _ _ _ h => h) (by kernel_rfl) (fun Wx hSx => ?hy417) (by assumption) ?hrest417
        case hy417 => go_simp; (try with_reducible rfl)
        simp only [Act.put, List.getElem_toArray, List.getElem_cons_succ, List.getElem_cons_zero, List.setIfInBounds_toArray, List.set_cons_zero, List.set_cons_succ]
        refine takeH 12 (v := ?vv420) rfl (by kernel_rfl) (by kernel_rfl) (by kernel_rfl) (fun _ _ _ h => h) (by kernel_rfl) (fun Wx hSx => ?hy420) (by assumption) ?hrest420
        case hy420 => have q0 := (HCv.out.2.2.2.1.map.chg hSx HN.out.2.2).lookup MQ Try.underlying128 z132 x false; rw [HFD.out.1] at q0; simp only [qenc, nenc, Bool.false_eq_true, if_false] at q0; go_simp; (try with_reducible rfl)
        simp only [Act.put, List.getElem_toArray, List.getElem_cons_succ, List.getElem_cons_zero, List.setIfInBounds_toArray, List.set_cons_zero, List.set_cons_succ]
        refine takeH 13 (v := ?vv423) rfl (by kernel_rfl) (by kernel_rfl) (by kernel_rfl) (fun _ _ _ h => h) (by kernel_rfl) (fun Wx hSx => ?hy423) (by assumption) ?hrest423
        case hy423 => have q0 := idx132_1 Wx n0 n1; go_simp; (try with_reducible rfl)
        simp only [Act.put, List.getElem_toArray, List.getElem_cons_succ, List.getElem_cons_zero, List.setIfInBounds_toArray, List.set_cons_zero, List.set_cons_succ]
        refine takeH 14 (v := ?vv426) rfl (by kernel_rfl) (by kernel_rfl) (by kernel_rfl) (fun _ _ _ h => h) (by kernel_rfl) (fun Wx hSx => ?hy426) (by assumption) ?hrest426
        case hy426 => go_simp; (try with_reducible rfl)
        simp only [Act.put, List.getElem_toArray, List.getElem_cons_succ, List.getElem_cons_zero, List.setIfInBounds_toArray, List.set_cons_zero, List.set_cons_succ]
        have hb2 : (W.alloc (.cells #[.int .i64 x, .int .i64 n0, .int .i64 n1] 83)).heap[W.heap.size]? = some (.cells #[.int .i64 x, .int .i64 n0, .int .i64 n1] 83 (0, 0)) := heap_alloc_new W _
        have H2 := Lib.hid hb2
        clear hb2
        refine wpAnyH_ready (rs := [15]) (by kernel_rfl) (by simp) ?_
        refine (AllReadyH.cons rfl (fun K hK => ?_) AllReadyH.nil)
        all_goals try simp only [List.getElem_toArray, List.getElem_cons_succ, List.getElem_cons_zero]
        go_simp
        refine hK.out _ _ (hS.trans (Chg.alloc _ W _)) (fun hHeld => ?_)
        clear hK K
        try simp only [Act.put, List.getElem_toArray, List.getElem_cons_succ, List.getElem_cons_zero, List.setIfInBounds_toArray, List.set_cons_zero, List.set_cons_succ]
        have hWa := hWh.out.trans (Chg.alloc [] W (.cells #[.int .i64 x, .int .i64 n0, .int .i64 n1] 83))
        obtain ⟨W5, e5⟩ : ∃ W5, W5 = W.alloc (.cells #[.int .i64 x, .int .i64 n0, .int .i64 n1] 83) := ⟨_, rfl⟩
        have hb5 := H2.out
        rw [← e5] at hHeld hWa hb5 ⊢
        clear e5
        have hlk1 : (pts.take k).length + [(⟨x, n0, n1⟩ : Pt)].length ≤ 1000000 := by rw [List.length_take]; have := HL.out.1; simp; omega
        have HW := Lib.hid (And.intro hWa hb5)
        clear hb5 hWa H2
        refine wpAnyH_ready (rs := [16]) (by kernel_rfl) (by simp) ?_
        refine (AllReadyH.cons rfl (fun K hK => ?_) AllReadyH.nil)
        all_goals try simp only [List.getElem_toArray, List.getElem_cons_succ, List.getElem_cons_zero]
        rw [if_pos (by rfl)]
        refine step_append2 (o := _) (a := _) (v := v1) (u := .slice (some ⟨W.heap.size, 0, none⟩) 1 1) (l := pts.take k) (l2 := [(⟨x, n0, n1⟩ : Pt)]) (S := []) (w0 := w) (.tmp 50) (.tmp 61) 133 ptR elem133 ?h0 ?hS ?hF ?hs hlk1 (by omega) ?hop ?hev ?heu ?_
        case h0 => exact HCv.out.2.2.2.2.2.trans HW.out.1
        case hS => exact HCv.out.1.chg HW.out.1 (by simp)
        case hF => exact HCv.out.2.1
        case hs => exact SrcAt.one (renc := ptE) (a := ⟨x, n0, n1⟩) (t := 83) (fr := (0, 0)) HW.out.2 1
        case hop => rfl
        case hev => rfl
        case heu => rfl
        intro v2 W6 hs2 hC2 hF2 hg2
        have hC6 : Chg (ownL v1) wr W6 := HW.out.1.nil.trans (Chg.of_grown hg2 (fun k e => .inl (by simp [ownL, e])))
        refine hK.out _ _ (hC6) (fun hHeld => ?_)
        clear hK K
        try simp only [Act.put, List.setIfInBounds_toArray, List.set_cons_zero, List.set_cons_succ]
        refine wpAnyH_done (by kernel_rfl) ?_ _
        simp only [cutQ]
        have hb6 := hC6.at_ HCv.out.2.2.2.2.1 HN.out.1
        have c6 := blk1 hb6
        have f6 := blkfreeU hb6 0
        have hT : pts.take k ++ [(⟨x, n0, n1⟩ : Pt)] = pts.take (k + 1) := by
          refine take_snocL ?_
          rw [← hpts, List.getElem?_map, hx]
          simp [ptOf, HFD.out.2.1, HFD.out.2.2]
        rw [hT] at hs2
        have hsc := Chg.setCell (S := [cI]) W6 ⟨cI, 0, none⟩ v2 (by simp)
        have hcv7 : CvAt (W6.setCell ⟨cI, 0, none⟩ v2) w.heap.size cI (pts.take (k + 1)) :=
          ⟨v2, blk_set hb6 0 v2, hs2.chg hsc (fun g hg hm => by
            simp only [List.mem_singleton] at hm
            subst hm
            obtain ⟨cs, h2⟩ := hs2.typed hg
            rw [hb6] at h2; cases h2), hF2, HCv.out.2.2.1⟩
        have hst7 : CSt w il (.slice (some ⟨g, 0, none⟩) ss.length cap) ss Ds (W6.setCell ⟨cI, 0, none⟩ v2) :=
          (HCv.out.2.2.2.1.chg hC6 (fun b hb => by
            simp only [ownL, Option.mem_toList] at hb
            obtain ⟨cs, h2⟩ := HCv.out.1.typed hb
            exact ⟨cs, _, h2, .inr rfl⟩)).chg hsc (fun b hb => by
            simp only [List.mem_singleton] at hb
            subst hb
            exact ⟨_, _, hb6, .inl rfl⟩)
        have hC7 : Chg [] w (W6.setCell ⟨cI, 0, none⟩ v2) := hC2.putNew HCv.out.2.2.1
        obtain ⟨A2, cap2, rfl, _⟩ := hs2.form
        have hmin : (pts.take (k + 1)).length = k + 1 := by rw [List.length_take]; omega
        have HK := Lib.hid (show k + 1 ≤ pts.length by omega)
        rw [hmin] at hst7 hcv7 hC7 ⊢
        clear hs2 hC6 hb6 hg2 hF2 hC2 hsc hmin
        have HH := Lib.hid (And.intro hst7 (And.intro hcv7 hC7))
        clear hst7 hcv7 hC7
        have hout := HL.out.1
        go_wp2_with fail
        go_roundg (pts.length - (k + 1) + 1)
        case measure => rw [Hkq.out]; have := HK.out; omega
        case rel => exact ⟨k + 1, HK.out, rfl, by go_num, HH.out.1, HH.out.2.1, HH.out.2.2⟩
      · obtain rfl : k = ss.length := by omega
        rw [← hpl, List.take_length] at hcv
        obtain ⟨v1, hb1, hs1, hf1, hc1⟩ := hcv
        obtain ⟨A1, cap1, rfl, _, hA1⟩ := hs1.form
        have c0 := blk1 hb1
        have HX := Lib.hid (And.intro hst hCr)
        clear hst hCr
        go_wp2_with fail
        go_loopg [71] (ss.length + 1) (fun q i wr => P2Rel w il (.slice A ss.length cap) ss Ds cI (sideO L (X 0)) (sideO L (X 1)) q i wr)
        case atStart => exact ⟨0, Nat.zero_le _, rfl, rfl, HX.out.1, ⟨_, hb1, by rw [ptsS_zero, hpts]; exact hs1, hf1, hc1⟩, HX.out.2⟩
        case round =>
          clear hb1 hs1 hf1 hc1 HX c0
          obtain ⟨k, hk2, hkq2, rfl, hst, hcv, hCr⟩ := hrel
          have Hkq2 := Lib.hid hkq2
          clear hkq2
          obtain ⟨v1, hb1, hs1, hf1, hc1⟩ := hcv
          have hl2 := ptsS_len ss (sideO L (X 0)) (sideO L (X 1)) k
          obtain ⟨A1, cap1, rfl, _, hA1⟩ := hs1.form
          rw [hl2] at hb1 hs1 hf1 hA1
          have c0 := blk1 hb1
          by_cases hlt : k < ss.length
          · obtain ⟨g1, rfl⟩ := hA1 (by omega)
            have k0 : (0 : Int) ≤ (k : Int) := Int.natCast_nonneg _
            have k1 : (k : Int) < (ss.length : Int) := by omega
            have hout := HL.out.1
            have hPr := HPr.out
            by_cases hkz : k = 0
            · subst hkz
              simp only [Int.natCast_zero] at k1 ⊢
              have hcv2 : CvAt wr w.heap.size cI (ptsS ss (sideO L (X 0)) (sideO L (X 1)) (0 + 1)) := ⟨_, hb1, by rw [← ptsS_one hPr]; exact hs1, hf1, hc1⟩
              clear hb1 hs1 hf1 hc1 c0
              go_wp2_with fail
              go_roundg (ss.length - (0 + 1) + 1)
              case measure => rw [Hkq2.out]; omega
              case rel => exact ⟨0 + 1, by omega, rfl, by go_num, hst, hcv2, hCr⟩
            · obtain ⟨j, rfl⟩ : ∃ j, k = j + 1 := ⟨k - 1, by omega⟩
              obtain ⟨x, hx⟩ : ∃ x, ss[j]? = some x := ⟨ss[j]'(by omega), List.getElem?_eq_getElem _⟩
              obtain ⟨y, hy⟩ : ∃ y, ss[j + 1]? = some y := ⟨ss[j + 1]'hlt, by simp [hlt]⟩
              have px : (ptsS ss (sideO L (X 0)) (sideO L (X 1)) (j + 1))[j]? = some ⟨x, sumP (sideO L (X 0)) x, supO (sideO L (X 1)) x⟩ := by simp [ptsS, hx]
              have py : (ptsS ss (sideO L (X 0)) (sideO L (X 1)) (j + 1))[j + 1]? = some ⟨y, sumP (sideO L (X 0)) y, sumP (sideO L (X 1)) y⟩ := by simp [ptsS, hy]
              have hsn := sup_next hPr hx hy
              obtain ⟨_, _, xs⟩ := pts_at hs1 px
              obtain ⟨_, _, ys⟩ := pts_at hs1 py
              have hqx := HQ.out.2 x
              have hqy := HQ.out.2 y
              have hlg1 := hs1.lt (g := g1) rfl
              go_wp2_with fail
              refine wp_tail 20 (by kernel_rfl) (by kernel_rfl) ?_
              intro Wd hWd
              have d0 := hWd.cell c0 (by simp)
              have dx := hWd.cell xs (by simp)
              have dy := hWd.cell ys (by simp)
              have j0 : (0 : Int) ≤ (j : Int) := Int.natCast_nonneg _
              have j1 : (0 : Int) ≤ (j : Int) + 1 := by omega
              have j2 : (j : Int) + 1 < (ss.length : Int) := by omega
              have j3 : (j : Int) < (ss.length : Int) := by omega
              have j4 : IntKind.i64.wrap (j : Int) = (j : Int) := wrapOk (by omega) (by omega)
              have j5 : ((j : Int) + 1).toNat = j + 1 := by omega
              have hw1 : IntKind.i64.wrap (sumP (sideO L (X 1)) y + supO (sideO L (X 1)) x) = supO (sideO L (X 1)) y := by rw [← hsn]; exact wrapOk (by omega) (by omega)
              have hs5 := hs1.chg hWd (by simp)
              have fy := hs5.free ((j + 1) * 3 + 2)
              have hset := hs5.setOne ptR (i := j + 1) (j := 2) (y := ⟨y, sumP (sideO L (X 0)) y, supO (sideO L (X 1)) y⟩) (u := .int .i64 (supO (sideO L (X 1)) y)) py (by omega) rfl
              rw [ptsS_set hy] at hset
              have hsc := Chg.setCell (S := [g1]) Wd ⟨g1, (j + 1) * 3 + 2, none⟩ (.int .i64 (supO (sideO L (X 1)) y)) (by simp)
              obtain ⟨cu, hcu⟩ := hs5.typed (g := g1) rfl
              have hb5 := hWd.at_ hb1 (by simp)
              have hg1c : cI ≠ g1 := fun e => by rw [← e, hb5] at hcu; cases hcu
              have hcv7 : CvAt (Wd.setCell ⟨g1, (j + 1) * 3 + 2, none⟩ (.int .i64 (supO (sideO L (X 1)) y))) w.heap.size cI (ptsS ss (sideO L (X 0)) (sideO L (X 1)) (j + 1 + 1)) :=
                ⟨_, hsc.at_ hb5 (by simpa using hg1c), hset, hf1, hc1⟩
              have hst7 := (hst.chg hWd (by simp)).chg hsc (fun b hb => by
                simp only [List.mem_singleton] at hb
                subst hb
                exact ⟨_, _, hcu, .inr rfl⟩)
              have hC7 : Chg [] w (Wd.setCell ⟨g1, (j + 1) * 3 + 2, none⟩ (.int .i64 (supO (sideO L (X 1)) y))) := (hCr.trans hWd).putNew (hf1 g1 rfl)
              have HH := Lib.hid (And.intro hst7 (And.intro hcv7 hC7))
              clear hst7 hcv7 hC7 hsc hset hs5 hb5 hst hCr hs1 hb1 px py hsn
              simp only [List.take_succ_cons, List.take_zero, List.drop_succ_cons, List.drop_zero]
              repeat still_step
              refine wpStill_nil ?_
              go_wp2_with fail
              go_roundg (ss.length - (j + 1 + 1) + 1)
              case measure => rw [Hkq2.out]; omega
              case rel => exact ⟨j + 1 + 1, by omega, rfl, by go_num, HH.out.1, HH.out.2.1, HH.out.2.2⟩
          · obtain rfl : k = ss.length := by omega
            have hPr := HPr.out
            rw [ptsS_D hPr] at hs1
            have HX := Lib.hid (And.intro hst (And.intro hCr (And.intro hb1 (And.intro hs1 (And.intro hf1 hc1)))))
            have hout := HL.out.1
            clear hst hCr hb1 hs1 hf1 hc1
            go_wp2_with fail
            go_loopg [11] (ss.length + 1) (fun q i wr => P3Rel w il (.slice A ss.length cap) ss Ds cI (sideO L (X 0)) (sideO L (X 1)) q i wr)
            case atStart => exact ⟨ss.length, Nat.le_refl _, rfl, rfl, HX.out.1, ⟨_, HX.out.2.2.1, HX.out.2.2.2.1, HX.out.2.2.2.2⟩, HX.out.2.1⟩
            case round =>
              clear HX
              obtain ⟨k, hk3, hkq3, rfl, hst, hcv, hCr⟩ := hrel
              have Hkq3 := Lib.hid hkq3
              clear hkq3
              obtain ⟨v1, hb1, hs1, hf1, hc1⟩ := hcv
              have hl2 := ptsD_len ss (sideO L (X 0)) (sideO L (X 1)) k
              obtain ⟨A1, cap1, rfl, _, hA1⟩ := hs1.form
              rw [hl2] at hb1 hs1 hf1 hA1
              have c0 := blk1 hb1
              by_cases hge : 2 ≤ k
              · obtain ⟨g1, rfl⟩ := hA1 (by omega)
                obtain ⟨j, rfl⟩ : ∃ j, k = j + 2 := ⟨k - 2, by omega⟩
                rw [show ((j + 2 : Nat) : Int) - 2 = (j : Int) by omega]
                obtain ⟨x, hx⟩ : ∃ x, ss[j]? = some x := ⟨ss[j]'(by omega), List.getElem?_eq_getElem _⟩
                obtain ⟨y, hy⟩ : ∃ y, ss[j + 1]? = some y := ⟨ss[j + 1]'(by omega), List.getElem?_eq_getElem _⟩
                have px : (ptsD ss (sideO L (X 0)) (sideO L (X 1)) (j + 2))[j]? = some ⟨x, sumP (sideO L (X 0)) x, supO (sideO L (X 1)) x⟩ := by simp only [ptsD, List.getElem?_mapIdx, hx, Option.map_some]; rw [if_neg (by omega)]
                have py : (ptsD ss (sideO L (X 0)) (sideO L (X 1)) (j + 2))[j + 1]? = some ⟨y, demO (sideO L (X 0)) y, supO (sideO L (X 1)) y⟩ := by simp only [ptsD, List.getElem?_mapIdx, hy, Option.map_some]; rw [if_pos (by omega)]
                have hdn := dem_next HPr.out hx hy
                obtain ⟨_, xs, _⟩ := pts_at hs1 px
                obtain ⟨_, ys, _⟩ := pts_at hs1 py
                have hqx := HQ.out.1 x
                have hqy := HQ.out.1 y
                have hlg1 := hs1.lt (g := g1) rfl
                have j0 : (0 : Int) ≤ (j : Int) := Int.natCast_nonneg _
                go_wp2_with fail
                refine wp_tail 20 (by kernel_rfl) (by kernel_rfl) ?_
                intro Wd hWd
                have d0 := hWd.cell c0 (by simp)
                have dx := hWd.cell xs (by simp)
                have dy := hWd.cell ys (by simp)
                have j1 : (0 : Int) ≤ (j : Int) + 1 := by omega
                have j2 : (j : Int) + 1 < (ss.length : Int) := by omega
                have j3 : (j : Int) < (ss.length : Int) := by omega
                have j4 : IntKind.i64.wrap ((j : Int) + 1) = (j : Int) + 1 := wrapOk (by omega) (by omega)
                have j5 : ((j : Int) + 1).toNat = j + 1 := by omega
                have hw1 : IntKind.i64.wrap (sumP (sideO L (X 0)) x + demO (sideO L (X 0)) y) = demO (sideO L (X 0)) x := by rw [← hdn]; exact wrapOk (by omega) (by omega)
                have hs5 := hs1.chg hWd (by simp)
                have fy := hs5.free (j * 3 + 1)
                have hset := hs5.setOne ptR (i := j) (j := 1) (y := ⟨x, demO (sideO L (X 0)) x, supO (sideO L (X 1)) x⟩) (u := .int .i64 (demO (sideO L (X 0)) x)) px (by omega) rfl
                rw [ptsD_set hx] at hset
                have hsc := Chg.setCell (S := [g1]) Wd ⟨g1, j * 3 + 1, none⟩ (.int .i64 (demO (sideO L (X 0)) x)) (by simp)
                obtain ⟨cu, hcu⟩ := hs5.typed (g := g1) rfl
                have hb5 := hWd.at_ hb1 (by simp)
                have hg1c : cI ≠ g1 := fun e => by rw [← e, hb5] at hcu; cases hcu
                have hcv7 : CvAt (Wd.setCell ⟨g1, j * 3 + 1, none⟩ (.int .i64 (demO (sideO L (X 0)) x))) w.heap.size cI (ptsD ss (sideO L (X 0)) (sideO L (X 1)) (j + 1)) :=
                  ⟨_, hsc.at_ hb5 (by simpa using hg1c), hset, hf1, hc1⟩
                have hst7 := (hst.chg hWd (by simp)).chg hsc (fun b hb => by
                  simp only [List.mem_singleton] at hb
                  subst hb
                  exact ⟨_, _, hcu, .inr rfl⟩)
                have hC7 : Chg [] w (Wd.setCell ⟨g1, j * 3 + 1, none⟩ (.int .i64 (demO (sideO L (X 0)) x))) := (hCr.trans hWd).putNew (hf1 g1 rfl)
                have HH := Lib.hid (And.intro hst7 (And.intro hcv7 hC7))
                clear hst7 hcv7 hC7 hsc hset hs5 hb5 hst hCr hs1 hb1 px py hdn
                simp only [List.take_succ_cons, List.take_zero, List.drop_succ_cons, List.drop_zero]
                repeat still_step
                refine wpStill_nil ?_
                go_wp2_with fail
                go_roundg (j + 1 + 1)
                case measure => rw [Hkq3.out]; omega
                case rel => exact ⟨j + 1, by omega, rfl, by go_num, HH.out.1, HH.out.2.1, HH.out.2.2⟩
              · have hd := ptsD_C ss (sideO L (X 0)) (sideO L (X 1)) k (by omega)
                rw [hd] at hs1
                have t1 : decide ((k : Int) - 2 ≥ 0) = false := decide_eq_false (by omega)
                have HX := Lib.hid (And.intro hst (And.intro hCr (And.intro hb1 (And.intro hs1 (And.intro hf1 hc1)))))
                clear hst hCr hb1 hs1 hf1 hc1
                go_wp2_with fail
                refine leaves_marks Ds _ HX.out.1.dfs (fun w' hC => ?_)
                obtain ⟨h1, h2, h3, h4, h5, h6⟩ := HX.out
                have nD : ∀ D ∈ Ds, wr.heap[D]? = some (.deferred (some [])) := h1.dfs.2
                have hcv : CvAt w' w.heap.size cI (ptsC ss (sideO L (X 0)) (sideO L (X 1))) :=
                  ⟨_, hC.at_ h3 (fun hm => by have := nD _ hm; rw [h3] at this; cases this), h4.chg hC (fun g hg hm => by
                    obtain ⟨cu, hcu⟩ := h4.typed hg
                    have := nD _ hm; rw [hcu] at this; cases this), h5, h6⟩
                have hCw : Chg [] w w' := h2.trans' hC (U := []) (by simp) (fun D hD => .inr (HD.out D hD))
                exact ⟨_, results_tmp rfl _ _ _, _, _, rfl, HPr.out, hcv, hCw⟩
end Go.Proofs.Ytdcjfaplgpeonaa
