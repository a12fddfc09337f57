/-
  The law IndexEach, walked.
-/
import Derived.Test.YtdcjfaplgpeonaaEd
namespace Go.Proofs.Ytdcjfaplgpeonaa
open Go.RowKit Go.Dm Go.Shelf
attribute [local go_sem] Oper.semAt_some

theorem blkfreeI {w : World} {b : Nat} {cs : Array Value} {t : TypeId} (h : w.heap[b]? = some (.cells cs t (0, 0))) (j : Nat) : w.frozen? ⟨b, j, none⟩ = false := by
  simp [World.frozen?, h]
theorem _root_.Go.Dm.Chg.putInI {S : List Nat} {w W : World} {g j : Nat} {u : Value} (h : Chg S w W) (hg : g ∈ S ∨ w.heap.size ≤ g) : Chg S w (W.setCell ⟨g, j, none⟩ u) :=
  h.trans' (Chg.setCell (S := [g]) W ⟨g, j, none⟩ u (by simp)) (fun _ hi => .inl hi) (fun i hi => by simp at hi; subst hi; exact hg)
theorem KeepsFrom.of_chgI {B : Nat} {S : List Nat} {W W' : World} (hC : Chg S W W') (hS : ∀ k ∈ S, k < B) : KeepsFrom B W W' :=
  ⟨hC.size, fun k o hk ho _ => hC.at_ ho (fun hm => by have := hS k hm; omega)⟩
theorem ownFrom_cellsI {β : Type} {B k : Nat} (f : β → Obj) (hc : ∀ s, (f s).isCells = true) : OwnFrom B (fun s W => W.heap[k]? = some (f s)) := fun s W W' row hs hg hr =>
  (hg.block k (blk_lt hs) (fun e => by obtain ⟨_, o, ho, hc'⟩ := hr k e.symm; rw [hs] at ho; cases ho; rw [hc s] at hc'; cases hc')).trans hs
theorem ownFrom_chgI {β : Type} (S : List Nat) (W0 : World) : OwnFrom W0.heap.size (fun (_ : β) W => Chg S W0 W) := fun s W W' row hs hg hr =>
  ⟨hg.os.trans hs.os, hg.tape.trans hs.tape, hg.output.trans hs.output, Nat.le_trans hs.size hg.size, fun k hk hn =>
    (hg.block k (Nat.lt_of_lt_of_le hk hs.size) (fun e => by have := (hr k e.symm).1; omega)).trans (hs.block k hk hn)⟩
theorem ownFrom_constI {β : Type} {B : Nat} (p : β → Prop) : OwnFrom B (fun s (_ : World) => p s) := fun _ _ _ _ hs _ _ => hs
theorem name_actI {P : Program} {c : Code} {Q : Exit → Act → World → Prop} {a : Act} {w : World} (h : ∀ a0, a0 = a → c.wp P Q a0 w) : c.wp P Q a w := h a rfl

theorem each12 (w : World) (p : Option Addr) (s : Int) :
    Calls Try.prog 35 #[.pointer p, .int .i64 s] w fun e w' => e = .returned (.func (.func 61) #[] #[.pointer (some ⟨w.heap.size, 0, none⟩), .pointer (some ⟨w.heap.size + 1, 0, none⟩)]) ∧ w' = (w.alloc (.cells #[.pointer p] 24)).alloc (.cells #[.int .i64 s] 3) := by
  go_enter Try.func35, Try.ntmps35
  go_wp2
  go_ret
  exact ⟨rfl, rfl⟩

def EachXRel (acts : List Act12) (w : World) (stop : Int) (x m1 m2 r : Nat) (n : Nat) (i : Value) (wr : World) : Prop :=
  ∃ (k : Nat) (l : IL), k ≤ acts.length ∧ n = acts.length - k + 1 ∧ i = .int .i64 k ∧ l.length ≤ k ∧ Both wr x m1 m2 r l ∧ Chg [] w wr ∧
    wr.heap[w.heap.size]? = some (.cells #[.int .i64 stop] 3 (0, 0)) ∧ wr.heap[w.heap.size + 1]? = some (.cells #[.bool false] 4 (0, 0))

set_option maxRecDepth 100000 in
set_option maxHeartbeats 4000000 in
theorem eachX_any (w : World) (A : Option Addr) (cap : Nat) (acts : List Act12) (sym stop : Int) (h : ActsAt w A acts) :
    Calls Try.prog 9 #[.slice A acts.length cap, .int .i64 sym, .int .i64 stop] w fun e w' => e = .returned (.bool true) ∧ Below w.heap.size w w' := by
  have bb := heap_alloc_new (w.alloc (.cells #[.int .i64 stop] 3)) (.cells #[.bool false] 4)
  have ba := heap_alloc_new w (.cells #[.int .i64 stop] 3)
  rw [World.size_alloc] at bb
  have hA0 : Chg [] w ((w.alloc (.cells #[.int .i64 stop] 3)).alloc (.cells #[.bool false] 4)) := (Chg.alloc _ _ _).trans (Chg.alloc _ _ _)
  have ba1 := (Chg.alloc [] _ (.cells #[.bool false] 4)).at_ ba (by simp)
  by_cases hbig : (acts.length : Int) > 200
  · go_enter Try.func9, Try.ntmps9
    go_wp2_with fail
    refine (alive12 _).mono ?_
    rintro e W1 ⟨rfl, hC⟩
    have b6 := hC.at_ bb (by simp)
    have c6 := blk1 b6
    have f6 := blkfreeI b6 0
    have hD := hA0.trans hC
    clear hC ba ba1 hA0
    go_wp2
    have hc5 : (W1.setCell ⟨w.heap.size + 1, 0, none⟩ (.bool true)).cell? ⟨w.heap.size + 1, 0, none⟩ = some (.bool true) := World.cell?_setCell_same' _ _ _ (by rw [c6]; rfl)
    refine bodyPost_ret (v := .bool true) ?_ rfl ⟨rfl, (hD.putInI (.inr (by omega))).below (Nat.le_refl _) (by simp)⟩
    simp [results, Try.f9, go_sem, hc5]
  · have hlen : acts.length ≤ 200 := by omega
    have g3 : decide ((acts.length : Int) > 200) = false := decide_eq_false hbig
    clear hbig
    refine callsIn_wide.1 (callsIn_of_wp_marks (n := 5) Try.func9 rfl trivial (wpIn_wide.2 ?_) rfl)
    simp only [Try.ntmps9, List.size_toArray, List.length_cons, List.length_nil, Nat.reduceAdd, Nat.reduceSub, Array.replicate_succ, Array.replicate_zero, List.push_toArray, List.append_toArray, List.nil_append, List.cons_append]
    go_wp2_with fail
    refine (alive12 _).mono ?_
    rintro e W1 ⟨rfl, hC⟩
    have b6 := hC.at_ bb (by simp)
    have b5 := hC.at_ ba1 (by simp)
    have hD := hA0.trans hC
    clear hC ba ba1 hA0 bb
    go_wp2_with fail
    refine (new_any _).mono ?_
    rintro e W2 ⟨x, m1, m2, rfl, h1, hC1, hx, hm1, hm2⟩
    have hrf : RAt (W2.alloc (.cells #[.slice none 0 0] 29)) W2.heap.size [] := ⟨_, heap_alloc_new W2 _, SlAt.nil _ _ _ _⟩
    have hB : Both (W2.alloc (.cells #[.slice none 0 0] 29)) x m1 m2 W2.heap.size [] := ⟨h1.chg (Chg.alloc [] _ _) (by simp) (by simp) (by simp), hrf⟩
    have hC2 := hC1.trans (Chg.alloc [] W2 (.cells #[.slice none 0 0] 29))
    have hD2 := hD.trans hC2
    have b52 := hC2.at_ b5 (by simp)
    have b62 := hC2.at_ b6 (by simp)
    have hr : W1.heap.size ≤ W2.heap.size := hC1.size
    have l6 : w.heap.size + 1 < W1.heap.size := blk_lt b6
    clear h1 hrf hC1 hC2 b5 b6 hD
    go_wp2_with fail
    go_loopg [9] (acts.length + 1) (fun n i wr => EachXRel acts w stop x m1 m2 W2.heap.size n i wr)
    case atStart => exact ⟨0, [], Nat.zero_le _, rfl, rfl, Nat.le_refl _, hB, hD2, b52, b62⟩
    case round =>
      clear hB hD2 b52 b62
      obtain ⟨k, l, hk, hn, rfl, hll, hB, hC, b5, b6⟩ := hrel
      have Hn := Lib.hid hn
      clear hn
      by_cases hlt : k < acts.length
      · rcases h with h | ⟨b, off, rfl, hbl, hcells⟩
        · subst h; simp at hlt
        obtain ⟨p, hp⟩ : ∃ p, acts[k]? = some p := ⟨acts[k], by simp [hlt]⟩
        obtain ⟨c0, c1, c2, c3⟩ := hcells k p hp
        obtain ⟨kd, s, sl, d⟩ := p
        clear hcells hp
        have f0 := hC.cell c0 (by simp)
        have f1 := hC.cell c1 (by simp)
        have f2 := hC.cell c2 (by simp)
        have f3 := hC.cell c3 (by simp)
        have hbr : b < wr.heap.size := by have := hC.size; omega
        have k0 : (0 : Int) ≤ (k : Int) := Int.natCast_nonneg _
        have k1 : (k : Int) < (acts.length : Int) := by omega
        have hl1 : l.length ≤ 1000 := by omega
        have hl3 : (stepL l kd s sl d).length ≤ k + 1 := by have := stepL_len l kd s sl d; omega
        have ha := act_any wr x m1 m2 W2.heap.size l hB hl1 kd s sl d
        clear c0 c1 c2 c3
        go_wp2_with fail
        refine ha.mono ?_
        rintro e W3 ⟨rfl, h3, hC3⟩
        have b53 := hC3.at_ b5 (by simp; omega)
        have b63 := hC3.at_ b6 (by simp; omega)
        have hC5 : Chg [] w W3 := hC.trans' hC3 (by simp) (by simp; omega)
        clear hC3 f0 f1 f2 f3 hC ha hB b5 b6
        go_wp2
        go_roundg (acts.length - (k + 1) + 1)
        case measure => rw [Hn.out]; omega
        case rel => exact ⟨k + 1, stepL l kd s sl d, by omega, rfl, by go_num, hl3, h3, hC5, b53, b63⟩
      · have hl1 : l.length ≤ 1000 := by omega
        clear Hn hk h
        go_wp2_with fail
        refine (of_any wr W2.heap.size l hB.rf sym hl1).mono ?_
        rintro e W4 ⟨v, rfl, hsv, hFv, hCv⟩
        have hB4 := hB.chg hCv
        have hC4 := hC.trans hCv
        have b54 := hCv.at_ b5 (by simp)
        have b64 := hCv.at_ b6 (by simp)
        clear hB hC b5 b6 hCv
        obtain ⟨Av, cv, rfl, _, hAv⟩ := hsv.form
        go_wp2_with fail
        refine (each12 _ (some ⟨x, 0, none⟩) sym).mono ?_
        rintro e W5 ⟨rfl, rfl⟩
        have p10 := heap_alloc_new W4 (.cells #[.slice Av (ofL l sym).length cv] 27)
        have p11 := heap_alloc_new (W4.alloc (.cells #[.slice Av (ofL l sym).length cv] 27)) (.cells #[.int .i64 0] 3)
        have p12 := heap_alloc_new ((W4.alloc (.cells #[.slice Av (ofL l sym).length cv] 27)).alloc (.cells #[.int .i64 0] 3)) (.cells #[.pointer (some ⟨x, 0, none⟩)] 24)
        have p13 := heap_alloc_new (((W4.alloc (.cells #[.slice Av (ofL l sym).length cv] 27)).alloc (.cells #[.int .i64 0] 3)).alloc (.cells #[.pointer (some ⟨x, 0, none⟩)] 24)) (.cells #[.int .i64 sym] 3)
        have q10 := (((Chg.alloc [] _ (.cells #[.int .i64 0] 3)).trans (Chg.alloc [] _ (.cells #[.pointer (some ⟨x, 0, none⟩)] 24))).trans (Chg.alloc [] _ (.cells #[.int .i64 sym] 3))).at_ p10 (by simp)
        have q11 := ((Chg.alloc [] _ (.cells #[.pointer (some ⟨x, 0, none⟩)] 24)).trans (Chg.alloc [] _ (.cells #[.int .i64 sym] 3))).at_ p11 (by simp)
        have q12 := (Chg.alloc [] _ (.cells #[.int .i64 sym] 3)).at_ p12 (by simp)
        have hCW := (((Chg.alloc [] W4 (.cells #[.slice Av (ofL l sym).length cv] 27)).trans (Chg.alloc [] _ (.cells #[.int .i64 0] 3))).trans (Chg.alloc [] _ (.cells #[.pointer (some ⟨x, 0, none⟩)] 24))).trans (Chg.alloc [] _ (.cells #[.int .i64 sym] 3))
        have z0 : ((((W4.alloc (.cells #[.slice Av (ofL l sym).length cv] 27)).alloc (.cells #[.int .i64 0] 3)).alloc (.cells #[.pointer (some ⟨x, 0, none⟩)] 24)).alloc (.cells #[.int .i64 sym] 3)).heap.size = W4.heap.size + 1 + 1 + 1 + 1 := by simp
        simp only [World.size_alloc] at p11 p12 p13 q11 q12
        clear p10 p11 p12
        go_wp2_with fail
        obtain ⟨W0, eW0⟩ : ∃ W0, ((((W4.alloc (.cells #[.slice Av (ofL l sym).length cv] 27)).alloc (.cells #[.int .i64 0] 3)).alloc (.cells #[.pointer (some ⟨x, 0, none⟩)] 24)).alloc (.cells #[.int .i64 sym] 3)) = W0 := ⟨_, rfl⟩
        rw [eW0] at q10 q11 q12 p13 hCW z0 ⊢
        clear eW0
        have hix := hB4.ix.chg hCW (by simp) (by simp) (by simp)
        have hsw := hsv.chg hCW (by simp)
        have b50 := hCW.at_ b54 (by simp)
        have b60 := hCW.at_ b64 (by simp)
        have hC0 := hC4.trans hCW
        have lx := hB4.ix.lt
        have lm1 := hB4.ix.ents.lt
        have lm2 : m2 < W4.heap.size := by obtain ⟨m, hm, _⟩ := hB4.ix.many; exact hm.lt
        have lv : ∀ g, (Value.slice Av (ofL l sym).length cv).ownBlock = some g → g < W4.heap.size := fun g hg => hsv.lt hg
        have l64 : w.heap.size + 1 < W4.heap.size := blk_lt b64
        have hOl : (ofL l sym).length ≤ 1000 := by rw [ofL_length]; have := icnt_le l sym; omega
        clear hB4 hsv b54 b64 hC4 hFv hCW
        have hIt := iter12 4 (by omega) x m1 m2 (W4.heap.size + 1 + 1) (W4.heap.size + 1 + 1 + 1) l sym [W4.heap.size + 1] hl1 W0 ⟨hix, q12, p13⟩ (by simp; omega) (by simp; omega) (by simp; omega) (by simp) (by simp; omega) (by simp; omega)
        refine name_actI (fun a0 ha => ?_)
        obtain ⟨f, hf⟩ : ∃ f : IP → Act, ∀ y, f y = { tmps := (((a0.tmps.setIfInBounds 43 (.int .i64 y.1.2)).setIfInBounds 44 (.int .i64 y.2)).setIfInBounds 12 (.int .i64 y.1.2)).setIfInBounds 13 (.int .i64 y.2), defers := [] } := ⟨_, fun _ => rfl⟩
        subst ha
        refine (wpIn_wide (n := 5)).1 ?_
        refine wpIn_rangeFunc_ownG rfl (by omega) (gf := 61) (lb := #[.pointer (some ⟨W4.heap.size + 1 + 1, 0, none⟩), .pointer (some ⟨W4.heap.size + 1 + 1 + 1, 0, none⟩)]) rfl trivial (enters_of Try.func61 (by kernel_rfl) rfl)
          hIt (fun h k => KeepC.t h k) KeepC.put (Below.refl _ _) (fun _ => rfl)
          (fun (pre : List IP) W => W.heap[W4.heap.size + 1]? = some (.cells #[.int .i64 (pre.length : Int)] 3 (0, 0)) ∧ Chg [W4.heap.size + 1] W0 W ∧ (stop ≤ 0 ∨ (pre.length : Int) < stop))
          (fun c' (pre : List IP) W => (c' = .exit 2 ∧ Chg [W4.heap.size + 1] W0 W ∧ W.heap[W4.heap.size + 1]? = some (.cells #[.int .i64 (pre.length : Int)] 3 (0, 0)) ∧ (pre.length : Int) = stop ∧ 0 < stop) ∨ (c' = .ret ∧ ¬ pre <+: ofL l sym))
          ((ownFrom_cellsI (fun (pre : List IP) => Obj.cells #[.int .i64 (pre.length : Int)] 3 (0, 0)) (fun _ => rfl)).and ((ownFrom_chgI _ _).and (ownFrom_constI _)))
          (fun c' s W W' row hs hg hr => hs.imp (fun ⟨h1, h4, h2, h3⟩ => ⟨h1, ownFrom_chgI (β := Unit) _ _ () W W' row h4 hg hr, ownFrom_cellsI (fun _ => .cells #[.int .i64 (s.length : Int)] 3 (0, 0)) (fun _ => rfl) () W W' row h2 hg hr, h3⟩) id)
          ⟨q11, Chg.refl _ _, by simp; omega⟩ f ?assign ?body ?done ?stop
        case assign =>
          intro l2 y W K hK
          rw [hf] at hK
          simp only [encIP]
          gi_wp2
          exact hK
        case body =>
          rintro l2 pre y W ⟨hi1, hi3, hi4⟩ hlen2
          rw [hf]
          have hsW := hsw.chg hi3 (fun g hg hm => by have := lv g hg; simp at hm; omega)
          have c10 := blk1 (hi3.at_ q10 (by simp))
          have c5 := blk1 (hi3.at_ b50 (by simp; omega))
          have b6 := hi3.at_ b60 (by simp; omega)
          have c11 := blk1 hi1
          have f11 := blkfreeI hi1 0
          obtain ⟨q, hq⟩ : ∃ q, (ofL l sym)[pre.length]? = some q := ⟨(ofL l sym)[pre.length], by simp [hlen2]⟩
          obtain ⟨g, rfl⟩ := hAv (by omega)
          obtain ⟨r0, r1, r2⟩ := rows_at hsW hq
          have k0 : (0 : Int) ≤ (pre.length : Int) := Int.natCast_nonneg _
          have k1 : (pre.length : Int) < ((ofL l sym).length : Int) := by omega
          have hl5 : IntKind.i64.wrap ((pre.length : Int) + 1) = (pre.length : Int) + 1 := wrapOk (by omega) (by omega)
          have lW : W4.heap.size + 1 < W.heap.size := blk_lt hi1
          have bad : ¬ y = q → ¬ (pre ++ [y]) <+: ofL l sym := fun hyq hp => by
            obtain ⟨t, ht⟩ := hp
            rw [← ht, List.append_assoc, List.getElem?_append_right (Nat.le_refl _), Nat.sub_self] at hq
            simp at hq
            exact hyq hq
          by_cases h1 : y.1.2 = q.1.2
          · by_cases h2 : y.2 = q.2
            · have t1 : (y.1.2 != q.1.2) = false := by simpa using h1
              have t2 : (y.2 != q.2) = false := by simpa using h2
              have H1 := Lib.hid h1
              have H2 := Lib.hid h2
              clear h1 h2 bad hq hsW
              have fin : (Chg [W4.heap.size + 1] W (W.setCell ⟨W4.heap.size + 1, 0, none⟩ (.int .i64 ((pre.length : Int) + 1)))) ∧
                  (W.setCell ⟨W4.heap.size + 1, 0, none⟩ (.int .i64 ((pre.length : Int) + 1))).heap[W4.heap.size + 1]? = some (.cells #[.int .i64 ((pre ++ [y]).length : Int)] 3 (0, 0)) := by
                refine ⟨Chg.setCell _ _ _ (by simp), ?_⟩
                rw [blk_set hi1 0 _, List.length_append]; rfl
              by_cases hst : (pre.length : Int) + 1 = stop
              · have dst : ((pre.length : Int) + 1 == stop) = true := by simpa using hst
                have Hst := Lib.hid hst
                clear hst
                gi_wp2
                exact ⟨KeepsFrom.of_chgI fin.1 (fun k hk => by simp at hk; omega), .inl ⟨rfl, hi3.trans fin.1, fin.2, by have := Hst.out; simp; omega, by have := Hst.out; omega⟩⟩
              · have dst : ((pre.length : Int) + 1 == stop) = false := by simpa using hst
                gi_wp2
                exact ⟨KeepsFrom.of_chgI fin.1 (fun k hk => by simp at hk; omega), KeepC.chg fin.1, fin.2, hi3.trans fin.1, by simp; omega⟩
            · have t1 : (y.1.2 != q.1.2) = false := by simpa using h1
              have t2 : (y.2 != q.2) = true := by simpa using h2
              have hbad := bad (fun e => h2 (by rw [e]))
              have c6 := blk1 b6
              have f6 := blkfreeI b6 0
              have Hbad := Lib.hid hbad
              clear h1 h2 bad hq hsW hbad
              gi_wp2
              exact ⟨KeepsFrom.of_chgI (Chg.setCell (S := [w.heap.size + 1]) W _ _ (by simp)) (by simp; omega), .inr ⟨rfl, Hbad.out⟩⟩
          · have t1 : (y.1.2 != q.1.2) = true := by simpa using h1
            have hbad := bad (fun e => h1 (by rw [e]))
            have c6 := blk1 b6
            have f6 := blkfreeI b6 0
            have Hbad := Lib.hid hbad
            clear h1 bad hq hsW hbad
            gi_wp2
            exact ⟨KeepsFrom.of_chgI (Chg.setCell (S := [w.heap.size + 1]) W _ _ (by simp)) (by simp; omega), .inr ⟨rfl, Hbad.out⟩⟩
        case done =>
          rintro D xs W hD rfl ⟨hi1, hi3, hi4⟩ hK
          have c10 := blk1 (hi3.at_ q10 (by simp))
          have c5 := blk1 (hi3.at_ b50 (by simp; omega))
          have b6 := hi3.at_ b60 (by simp; omega)
          have c6 := blk1 b6
          have f6 := blkfreeI b6 0
          have c11 := blk1 hi1
          have hDD := hC0.trans' hi3 (U := []) (by simp) (by simp; omega)
          have hDn : w.heap.size ≤ D := by omega
          have hne : D ≠ w.heap.size + 1 := by intro e; subst e; rw [b6] at hK; cases hK
          clear hIt hix hsw hC0 hi1 hi3
          by_cases hs : stop > 0
          · have s1 : decide (stop > 0) = true := decide_eq_true hs
            have s2 : decide (stop < ((ofL l sym).length : Int)) = false := decide_eq_false (by omega)
            go_wp2
            have hK' : (W.setCell ⟨w.heap.size + 1, 0, none⟩ (.bool true)).heap[D]? = some (.deferred (some [])) := (Chg.setCell (S := [w.heap.size + 1]) W _ _ (by simp)).at_ hK (by simpa using hne)
            have hB : Below w.heap.size w (W.setCell ⟨w.heap.size + 1, 0, none⟩ (.bool true)) := (hDD.putInI (.inr (by omega))).below (Nat.le_refl _) (by simp)
            refine ⟨by simp, .inl ⟨_, _, rfl, run_takeDeferred hK', ?_⟩⟩
            have hc5 := cell_kept (World.cell?_setCell_same' W ⟨w.heap.size + 1, 0, none⟩ (.bool true) (by rw [c6]; rfl)) (grownBy_putObj' _ D (.deferred none)) (fun r e => by cases e; exact ⟨_, hK', rfl⟩)
            refine ⟨.bool true, ?_, rfl, hB.trans (belowK_b (w := w) (Nat.le_refl _) _ D _ _ hDn hK' rfl rfl)⟩
            simp [results, Try.f9, go_sem, hc5]
          · have s1 : decide (stop > 0) = false := decide_eq_false hs
            go_wp2
            have hK' : (W.setCell ⟨w.heap.size + 1, 0, none⟩ (.bool true)).heap[D]? = some (.deferred (some [])) := (Chg.setCell (S := [w.heap.size + 1]) W _ _ (by simp)).at_ hK (by simpa using hne)
            have hB : Below w.heap.size w (W.setCell ⟨w.heap.size + 1, 0, none⟩ (.bool true)) := (hDD.putInI (.inr (by omega))).below (Nat.le_refl _) (by simp)
            refine ⟨by simp, .inl ⟨_, _, rfl, run_takeDeferred hK', ?_⟩⟩
            have hc5 := cell_kept (World.cell?_setCell_same' W ⟨w.heap.size + 1, 0, none⟩ (.bool true) (by rw [c6]; rfl)) (grownBy_putObj' _ D (.deferred none)) (fun r e => by cases e; exact ⟨_, hK', rfl⟩)
            refine ⟨.bool true, ?_, rfl, hB.trans (belowK_b (w := w) (Nat.le_refl _) _ D _ _ hDn hK' rfl rfl)⟩
            simp [results, Try.f9, go_sem, hc5]
        case stop =>
          rintro D c' pre W hD hpre hx hK
          rcases hx with ⟨rfl, hi3, hi1, hst, hs0⟩ | ⟨rfl, hr⟩
          · have c10 := blk1 (hi3.at_ q10 (by simp))
            have c5 := blk1 (hi3.at_ b50 (by simp; omega))
            have b6 := hi3.at_ b60 (by simp; omega)
            have c6 := blk1 b6
            have f6 := blkfreeI b6 0
            have c11 := blk1 hi1
            rw [hst] at c11
            have hmono : pre.length ≤ (ofL l sym).length := hpre.length_le
            have hDD := hC0.trans' hi3 (U := []) (by simp) (by simp; omega)
            have hDn : w.heap.size ≤ D := by omega
            have hne : D ≠ w.heap.size + 1 := by intro e; subst e; rw [b6] at hK; cases hK
            clear hIt hix hsw hC0 hi1 hi3
            have s1 : decide (stop > 0) = true := decide_eq_true hs0
            by_cases hlt2 : stop < ((ofL l sym).length : Int)
            · have s2 : decide (stop < ((ofL l sym).length : Int)) = true := decide_eq_true hlt2
              clear hmono hst hlt2
              gi_wp2
              go_wp2
              have hK' : (W.setCell ⟨w.heap.size + 1, 0, none⟩ (.bool true)).heap[D]? = some (.deferred (some [])) := (Chg.setCell (S := [w.heap.size + 1]) W _ _ (by simp)).at_ hK (by simpa using hne)
              have hB : Below w.heap.size w (W.setCell ⟨w.heap.size + 1, 0, none⟩ (.bool true)) := (hDD.putInI (.inr (by omega))).below (Nat.le_refl _) (by simp)
              refine ⟨by simp, .inl ⟨_, _, rfl, run_takeDeferred hK', ?_⟩⟩
              have hc5 := cell_kept (World.cell?_setCell_same' W ⟨w.heap.size + 1, 0, none⟩ (.bool true) (by rw [c6]; rfl)) (grownBy_putObj' _ D (.deferred none)) (fun r e => by cases e; exact ⟨_, hK', rfl⟩)
              refine ⟨.bool true, ?_, rfl, hB.trans (belowK_b (w := w) (Nat.le_refl _) _ D _ _ hDn hK' rfl rfl)⟩
              simp [results, Try.f9, go_sem, hc5]
            · have s2 : decide (stop < ((ofL l sym).length : Int)) = false := decide_eq_false hlt2
              have s3 : (stop == ((ofL l sym).length : Int)) = true := by
                have : stop = ((ofL l sym).length : Int) := by omega
                simpa using this
              clear hmono hst hlt2
              gi_wp2
              go_wp2
              have hK' : (W.setCell ⟨w.heap.size + 1, 0, none⟩ (.bool true)).heap[D]? = some (.deferred (some [])) := (Chg.setCell (S := [w.heap.size + 1]) W _ _ (by simp)).at_ hK (by simpa using hne)
              have hB : Below w.heap.size w (W.setCell ⟨w.heap.size + 1, 0, none⟩ (.bool true)) := (hDD.putInI (.inr (by omega))).below (Nat.le_refl _) (by simp)
              refine ⟨by simp, .inl ⟨_, _, rfl, run_takeDeferred hK', ?_⟩⟩
              have hc5 := cell_kept (World.cell?_setCell_same' W ⟨w.heap.size + 1, 0, none⟩ (.bool true) (by rw [c6]; rfl)) (grownBy_putObj' _ D (.deferred none)) (fun r e => by cases e; exact ⟨_, hK', rfl⟩)
              refine ⟨.bool true, ?_, rfl, hB.trans (belowK_b (w := w) (Nat.le_refl _) _ D _ _ hDn hK' rfl rfl)⟩
              simp [results, Try.f9, go_sem, hc5]
          · exact absurd hpre hr
end Go.Proofs.Ytdcjfaplgpeonaa
