/-
  The points of any book, as far as they are asked: the law's own walk.
-/
import Derived.Test.YtdcjfaplgpeonaaQh
namespace Go.Proofs.Ytdcjfaplgpeonaa
open Go.RowKit Go.Dm Go.Shelf
attribute [local go_sem] Oper.semAt_some
attribute [local simp] wide_fn
attribute [local go_sem] wide_fn

set_option maxRecDepth 100000 in
set_option maxHeartbeats 16000000 in
theorem points11 (w : World) (A : Option Addr) (cap : Nat) (l : List Ord) (h : OrdsAt w A l) (stop : Int) :
    Calls Try.prog 11 #[.slice A l.length cap, .int .i64 stop] w fun e w' => e = .returned (.bool true) ∧ Chg [] w w' := by
  have hA1 := Chg.alloc [] w (.cells #[.int .i64 stop] 3)
  have hA2 := Chg.alloc [] (w.alloc (.cells #[.int .i64 stop] 3)) (.cells #[.bool false] 4)
  have b3 := hA2.at_ (heap_alloc_new w (.cells #[.int .i64 stop] 3)) (by simp)
  have b4 := heap_alloc_new (w.alloc (.cells #[.int .i64 stop] 3)) (.cells #[.bool false] 4)
  simp only [World.size_alloc] at b4
  have hA0 := hA1.trans hA2
  have hz0 : ((w.alloc (.cells #[.int .i64 stop] 3)).alloc (.cells #[.bool false] 4)).heap.size = w.heap.size + 2 := by simp
  obtain ⟨W0, eW0⟩ : ∃ W0, (w.alloc (.cells #[.int .i64 stop] 3)).alloc (.cells #[.bool false] 4) = W0 := ⟨_, rfl⟩
  rw [eW0] at hA0 b3 b4 hz0
  clear hA1 hA2
  by_cases hbig : l.length > 60
  · have t1 : decide ((l.length : Int) > 60) = true := decide_eq_true (by omega)
    clear hbig h
    go_enter Try.func11, Try.ntmps11
    go_wp2_with fail
    refine (alive36 _).mono ?_
    rintro e w' ⟨rfl, hC⟩
    have b4 := hC.at_ b4 (by simp)
    have c4 := blk1 b4
    have f4 := blkfreeU b4 0
    have b42 := blk_set b4 0 (.bool true)
    go_wp2_with fail
    exact bodyPost_ret (results_b rfl _ _ (w.heap.size + 1) true rfl b42) rfl ⟨rfl, (hA0.trans hC).putNew (by omega)⟩
  · have t1 : decide ((l.length : Int) > 60) = false := decide_eq_false (by omega)
    have hlen : l.length ≤ 60 := by omega
    have hlb : (bookL l).length ≤ 60 := Nat.le_trans (bookL_len l) hlen
    have hq := book_qty l
    have hb42 := fun W (hC : Chg [] w W) => books42 W A cap l (by
      rcases h with h | ⟨b, off, e, hb, hc⟩
      · exact .inl h
      · exact .inr ⟨b, off, e, Nat.lt_of_lt_of_le hb hC.size, fun i o ho j hj => hC.cell (hc i o ho j hj) (by simp)⟩) hlen
    clear hbig h hlen
    refine callsIn_wide.1 (callsIn_of_wp_marks (n := 5) Try.func11 rfl trivial (wpIn_wide.2 ?_) rfl)
    simp only [Try.ntmps11, List.size_toArray, List.length_cons, List.length_nil, Nat.reduceAdd, Nat.reduceSub, Array.replicate_succ, Array.replicate_zero, List.push_toArray, List.append_toArray, List.nil_append, List.cons_append]
    go_wp2_with fail
    refine (alive36 _).mono ?_
    rintro e W1 ⟨rfl, hC1⟩
    go_wp2_with fail
    refine (hb42 _ (hA0.trans hC1)).mono ?_
    rintro e W2 ⟨B, rb, rfl, ⟨lv0, lv1, v0, v1, hP⟩, hR, hC2, _⟩
    have hA3 := Chg.alloc [] W2 (.cells #[.pointer (some ⟨rb, 0, none⟩)] 88)
    have b6 := heap_alloc_new W2 (.cells #[.pointer (some ⟨rb, 0, none⟩)] 88)
    obtain ⟨k6, hk6⟩ : ∃ k, W2.heap.size = k := ⟨_, rfl⟩
    have hC12 := hC1.trans hC2
    have hz2 := hC12.size
    have b3 := hA3.at_ (hC12.at_ b3 (by simp)) (by simp)
    have b4 := hA3.at_ (hC12.at_ b4 (by simp)) (by simp)
    have hR := hR.chg hA3 (by simp) (by simp)
    have hP := hP.apart hA3
    have hC3 := (hA0.trans hC12).trans hA3
    clear hA0 hC1 hC2 hC12 hA3 hb42
    go_wp2_with fail
    obtain ⟨W3, eW3⟩ : ∃ W3, W2.alloc (.cells #[.pointer (some ⟨rb, 0, none⟩)] 88) = W3 := ⟨_, rfl⟩
    have hz3 : W3.heap.size = k6 + 1 := by rw [← eW3, ← hk6]; simp
    rw [hk6, eW3] at b6
    rw [eW3] at b3 b4 hR hP hC3
    rw [eW3]
    have hrb : rb < k6 + 1 := by have := hR.lt; omega
    have hwl : w.heap.size + 1 < k6 + 1 := by have := blk_lt b4; omega
    clear eW3 hk6 hz2 eW0
    refine (rprices43 W3 rb _ hR 0 4611686018427387904 hlb).mono ?_
    rintro e W4 ⟨vo, out, rfl, hso, hPr, hFo, hC4⟩
    obtain ⟨Ao, co, rfl, _, hAo⟩ := hso.form
    have hA5 := Chg.alloc [] W4 (.cells #[.slice Ao out.length co] 91)
    have b7 := heap_alloc_new W4 (.cells #[.slice Ao out.length co] 91)
    have hA6 := Chg.alloc [] (W4.alloc (.cells #[.slice Ao out.length co] 91)) (.cells #[.int .i64 0] 3)
    have b8 := heap_alloc_new (W4.alloc (.cells #[.slice Ao out.length co] 91)) (.cells #[.int .i64 0] 3)
    have b7 := hA6.at_ b7 (by simp)
    simp only [World.size_alloc] at b8
    obtain ⟨k7, hk7⟩ : ∃ k, W4.heap.size = k := ⟨_, rfl⟩
    have hA7 := hA5.trans hA6
    have hC46 := hC4.trans hA7
    have hz4 : k6 + 1 ≤ k7 := by have := hC4.size; omega
    have b3 := hC46.at_ b3 (by simp)
    have b4 := hC46.at_ b4 (by simp)
    have b6 := hC46.at_ b6 (by simp)
    have hR := hR.chg hC46 (by simp) (by simp)
    have hP := hP.apart hC46
    have hog : ∀ g, (Value.slice Ao out.length co).ownBlock = some g → g < k7 := fun g hg => hk7 ▸ hso.lt hg
    have hso := hso.chg hA7 (by simp)
    have hC6 := hC3.trans hC46
    clear hC3 hC4 hA5 hA6 hA7 hC46
    go_wp2_with fail
    obtain ⟨W6, eW6⟩ : ∃ W6, (W4.alloc (.cells #[.slice Ao out.length co] 91)).alloc (.cells #[.int .i64 0] 3) = W6 := ⟨_, rfl⟩
    have hz6 : W6.heap.size = k7 + 2 := by rw [← eW6, ← hk7]; simp
    rw [eW6] at b3 b4 b6 b7 b8 hR hP hso hC6
    rw [hk7] at b7 b8
    try rw [eW6]
    clear eW6 hk7
    refine (of_pb hP hlb hq).mono ?_
    rintro e W7 ⟨c, ss, rfl, hPS, ⟨v, hv, hs, hf, hBc⟩, hC7⟩
    have hss := all_prices (by omega) hPr hPS
    subst hss
    obtain ⟨Av, cv, rfl, _, hAv⟩ := hs.form
    have hA8 := Chg.alloc [] W7 (.cells #[.slice Av (ptsC out (sdO (bookL l) 0) (sdO (bookL l) 1)).length cv] 133)
    have bb := heap_alloc_new W7 (.cells #[.slice Av (ptsC out (sdO (bookL l) 0) (sdO (bookL l) 1)).length cv] 133)
    have hp := points45 W7 c Av _ cv hv
    have hs := hs.chg hA8 (by simp)
    have hC78 := hC7.trans hA8
    have b3 := hC78.at_ b3 (by simp)
    have b4 := hC78.at_ b4 (by simp)
    have b6 := hC78.at_ b6 (by simp)
    have b7 := hC78.at_ b7 (by simp)
    have b8 := hC78.at_ b8 (by simp)
    have hR := hR.chg hC78 (by simp) (by simp)
    have hso := hso.chg hC78 (by simp)
    have hC8 := hC6.trans hC78
    have hz8 := hC78.size
    have hz7 := hC7.size
    clear hC6 hC7 hA8 hC78 hP
    go_wp2_with fail
    refine hp.mono ?_
    rintro e W8 ⟨rfl, rfl⟩
    clear hp
    obtain ⟨kb, hkb⟩ : ∃ k, W7.heap.size = k := ⟨_, rfl⟩
    obtain ⟨W8, eW8⟩ : ∃ W8, W7.alloc (.cells #[.slice Av (ptsC out (sdO (bookL l) 0) (sdO (bookL l) 1)).length cv] 133) = W8 := ⟨_, rfl⟩
    rw [eW8] at b3 b4 b6 b7 b8 bb hR hso hs hC8 hz8
    try rw [eW8]
    rw [hkb] at bb
    try simp only [hkb]
    clear eW8 hv
    have hlo : out.length ≤ 60 := Nat.le_trans hPr.len hlb
    have hpl : (ptsC out (sdO (bookL l) 0) (sdO (bookL l) 1)).length = out.length := by simp [ptsC]
    -- LOOP
    go_wp2_with fail
    obtain ⟨pts, hpts⟩ : ∃ pts, ptsC out (sdO (bookL l) 0) (sdO (bookL l) 1) = pts := ⟨_, rfl⟩
    have hpt : ∀ (n : Nat) y, pts[n]? = some y → out[n]? = some y.p ∧ y.d = demO (sdO (bookL l) 0) y.p ∧ y.s = supO (sdO (bookL l) 1) y.p := fun n y hy => by
      rw [← hpts] at hy
      obtain ⟨q, hq, rfl⟩ := pts_c hy
      exact ⟨hq, rfl, rfl⟩
    rw [hpts] at bb hs hpl hf
    clear hpts
    have vlt0 : ∀ k ∈ ownL (.slice Av pts.length cv), k < W8.heap.size := fun k hk => by
      simp only [ownL, Option.mem_toList] at hk
      exact hs.lt hk
    have vge : ∀ k ∈ ownL (.slice Av pts.length cv), k7 + 2 ≤ k := fun k hk => by
      simp only [ownL, Option.mem_toList] at hk
      have := hf k (by simpa [Value.ownBlock] using hk)
      omega
    refine name_actW (fun a0 ha => ?_)
    obtain ⟨f, hf2⟩ : ∃ f : Pt → Nat → Act, ∀ x B, f x B = { tmps := (a0.tmps.setIfInBounds 26 (ptV x.p x.d x.s)).setIfInBounds 9 (.pointer (some ⟨B, 0, none⟩)), defers := [] } := ⟨_, fun _ _ => rfl⟩
    subst ha
    refine (wpIn_wide (n := 5)).1 ?_
    refine wpIn_rangeFunc_ownH rfl (by omega) (gf := 92) (lb := #[.pointer (some ⟨kb, 0, none⟩)]) rfl trivial (enters_of Try.func92 (by kernel_rfl) rfl)
      (iter92 4 (by omega) kb pts (.slice Av pts.length cv) W8 bb hs (by omega)) (fun h k => KeepL.t h k) (KeepL.put vlt0) (Below.refl _ _) (fun _ => rfl)
      (fun pre W => Chg [k7 + 1] W8 W ∧ W.heap[k7 + 1]? = some (.cells #[.int .i64 (pre.length : Int)] 3 (0, 0)) ∧ (0 < stop → (pre.length : Int) < stop))
      (fun c' pre W => (c' = .exit 0 ∧ Chg [k7 + 1] W8 W ∧ W.heap[k7 + 1]? = some (.cells #[.int .i64 (pre.length : Int)] 3 (0, 0)) ∧ (pre.length : Int) = stop ∧ 0 < stop) ∨ (c' = .ret ∧ ¬ pre <+: pts))
      (fun s A C row ⟨h1, h2, h3⟩ hg hr => ⟨ownFrom_chgW (β := Unit) _ _ () A C row h1 hg hr, ownFrom_cellsT (fun (_ : Unit) => .cells #[.int .i64 (s.length : Int)] 3 (0, 0)) (fun _ => rfl) () A C row h2 hg hr, h3⟩)
      (fun c' s A C row h hg hr => h.imp (fun ⟨h0, h1, h2, h3⟩ => ⟨h0, ownFrom_chgW (β := Unit) _ _ () A C row h1 hg hr, ownFrom_cellsT (fun (_ : Unit) => .cells #[.int .i64 (s.length : Int)] 3 (0, 0)) (fun _ => rfl) () A C row h2 hg hr, h3⟩) id)
      ⟨Chg.refl _ _, b8, by simp⟩
      (fun (x : Pt) (a' : Act) (W : World) => ∃ B : Nat, W.heap[B]? = some (Obj.cells #[.int .i64 x.p, .int .i64 x.d, .int .i64 x.s] 83 (0, 0)) ∧ a' = f x B)
      (fun x a' s A C row ⟨B, hB, e⟩ hg hr => ⟨B, ownFrom_cellsT (fun _ => Obj.cells #[.int .i64 x.p, .int .i64 x.d, .int .i64 x.s] 83 (0, 0)) (fun _ => rfl) () A C row hB hg hr, e⟩) ?assign ?body ?done ?stop
    case assign =>
      intro l' pre x W K hi0 hK
      obtain ⟨B, hB⟩ : ∃ B, W.heap.size = B := ⟨_, rfl⟩
      simp only [encPt, ptV]
      gi_wp2
      have hA := Chg.alloc [] W (.cells #[.int .i64 x.p, .int .i64 x.d, .int .i64 x.s] 83)
      obtain ⟨i1, i2, i3⟩ := hi0
      exact hK _ _ (KeepsFrom.of_chgT hA (by simp)) (KeepL.chg hA (by simp)) ⟨i1.trans hA.nil, hA.at_ i2 (by simp), i3⟩ ⟨B, hB ▸ heap_alloc_new W _, by rw [hf2]; simp [ptV]⟩
    case body =>
      rintro l' pre x a' W hl hrec ⟨i1, i2, i3⟩ ⟨Bx, hBx, ea⟩ hlen2
      rw [hf2] at ea
      subst ea
      simp only [ptV]
      obtain ⟨x0, x1, x2⟩ := blk3V hBx
      obtain ⟨y, hy⟩ : ∃ y, pts[pre.length]? = some y := ⟨pts[pre.length], by simp [hlen2]⟩
      obtain ⟨hy1, hy2, hy3⟩ := hpt _ _ hy
      obtain ⟨g, rfl⟩ := hAo (by omega)
      have hsW := hso.chg i1 (fun k hk hm => by
        have := hog k hk
        simp at hm
        omega)
      have e0 := hsW.at_ idR hy1 (j := 0) (by omega)
      simp only [Nat.mul_one, Nat.add_zero, idE, List.getElem?_cons_zero] at e0
      have lg := hsW.lt (g := g) rfl
      have c3 := blk1 (i1.at_ b3 (by simp; omega))
      have c6 := blk1 (i1.at_ b6 (by simp; omega))
      have c7 := blk1 (i1.at_ b7 (by simp))
      have c8 := blk1 i2
      have b4W := i1.at_ b4 (by simp; omega)
      have hRW := hR.chg i1 (by simp; omega) (fun k hk => .inr ⟨_, by simp at hk; subst hk; exact b8, by simp⟩)
      have h46' := fun W1 (hW1 : Chg [] W W1) => rat46 W1 rb (bookL l) (hRW.chg hW1 (by simp) (by simp)) y.p hq hlb
      simp only [← hy2, ← hy3] at h46'
      have k0 : (0 : Int) ≤ (pre.length : Int) := Int.natCast_nonneg _
      have k1 : (pre.length : Int) < (out.length : Int) := by omega
      have lt0 : pre.length < out.length := by omega
      have t0 : decide (out.length ≤ pre.length) = false := decide_eq_false (by omega)
      have lx := blk_lt hBx
      have l8 := blk_lt i2
      clear hRW hsW hy1 hy2 hy3
      cases z0 : (x.p == y.p) with
      | false =>
        have hno : ¬ (pre ++ [x]) <+: pts := fun hp => by
          obtain ⟨tl, htl⟩ := hp
          have h1 : pts[pre.length]? = some x := by rw [← htl]; simp
          rw [hy] at h1
          cases h1
          simp at z0
        clear hy
        gi_wp2
        refine cutR_round (Chg [] W) 14 (by kernel_rfl) (by kernel_rfl) (by rintro ⟨_, _, h⟩; exact h) (by kernel_rfl) (fun _ h => Chg.nil h) (fun W1 hW hS => ?_)
        simp only [List.take_succ_cons, List.take_zero, List.drop_succ_cons, List.drop_zero]
        refine takeH 0 (v := ?vv217) rfl (by kernel_rfl) (by kernel_rfl) (by kernel_rfl) (fun _ _ _ h => h) (by kernel_rfl) (fun Wx hSx => ?hy217) (by assumption) ?hrest217
        case hy217 => have q0 := hSx.cell c8 (by simp); go_simp; (try with_reducible rfl)
        simp only [Act.put, List.getElem_toArray, List.getElem_cons_zero, List.setIfInBounds_toArray, List.set_cons_zero, List.set_cons_succ]
        refine takeH 1 (v := ?vv220) rfl (by kernel_rfl) (by kernel_rfl) (by kernel_rfl) (fun _ _ _ h => h) (by kernel_rfl) (fun Wx hSx => ?hy220) (by assumption) ?hrest220
        case hy220 => have q0 := hSx.cell c7 (by simp); go_simp; (try with_reducible rfl)
        simp only [Act.put, List.getElem_toArray, List.getElem_cons_succ, List.getElem_cons_zero, List.setIfInBounds_toArray, List.set_cons_zero, List.set_cons_succ]
        refine takeH 2 (v := ?vv223) rfl (by kernel_rfl) (by kernel_rfl) (by kernel_rfl) (fun _ _ _ h => h) (by kernel_rfl) (fun Wx hSx => ?hy223) (by assumption) ?hrest223
        case hy223 => go_simp; (try with_reducible rfl)
        simp only [Act.put, List.getElem_toArray, List.getElem_cons_succ, List.getElem_cons_zero, List.setIfInBounds_toArray, List.set_cons_zero, List.set_cons_succ]
        refine takeH 3 (v := ?vv226) rfl (by kernel_rfl) (by kernel_rfl) (by kernel_rfl) (fun _ _ _ h => h) (by kernel_rfl) (fun Wx hSx => ?hy226) (by assumption) ?hrest226
        case hy226 => go_simp; (try with_reducible rfl)
        simp only [Act.put, List.getElem_toArray, List.getElem_cons_succ, List.getElem_cons_zero, List.setIfInBounds_toArray, List.set_cons_zero, List.set_cons_succ]
        refine takeH 4 (v := ?vv229) rfl (by kernel_rfl) (by kernel_rfl) (by kernel_rfl) (fun _ _ _ h => h) (by kernel_rfl) (fun Wx hSx => ?hy229) (by assumption) ?hrest229
        case hy229 => go_simp; (try with_reducible rfl)
        simp only [Act.put, List.getElem_toArray, List.getElem_cons_succ, List.getElem_cons_zero, List.setIfInBounds_toArray, List.set_cons_zero, List.set_cons_succ]
        refine takeH 5 (v := ?vv232) rfl (by kernel_rfl) (by kernel_rfl) (by kernel_rfl) (fun _ _ _ h => h) (by kernel_rfl) (fun Wx hSx => ?hy232) (by assumption) ?hrest232
        case hy232 => have q0 := hSx.cell x0 (by simp); have q1 := hSx.cell x1 (by simp); have q2 := hSx.cell x2 (by simp); go_simp; (try with_reducible rfl)
        simp only [Act.put, List.getElem_toArray, List.getElem_cons_succ, List.getElem_cons_zero, List.setIfInBounds_toArray, List.set_cons_zero, List.set_cons_succ]
        refine takeH 6 (v := ?vv235) rfl (by kernel_rfl) (by kernel_rfl) (by kernel_rfl) (fun _ _ _ h => h) (by kernel_rfl) (fun Wx hSx => ?hy235) (by assumption) ?hrest235
        case hy235 => have q0 := hSx.cell c6 (by simp); go_simp; (try with_reducible rfl)
        simp only [Act.put, List.getElem_toArray, List.getElem_cons_succ, List.getElem_cons_zero, List.setIfInBounds_toArray, List.set_cons_zero, List.set_cons_succ]
        refine takeH 7 (v := ?vv238) rfl (by kernel_rfl) (by kernel_rfl) (by kernel_rfl) (fun _ _ _ h => h) (by kernel_rfl) (fun Wx hSx => ?hy238) (by assumption) ?hrest238
        case hy238 => have q0 := hSx.cell c7 (by simp); go_simp; (try with_reducible rfl)
        simp only [Act.put, List.getElem_toArray, List.getElem_cons_succ, List.getElem_cons_zero, List.setIfInBounds_toArray, List.set_cons_zero, List.set_cons_succ]
        refine takeH 8 (v := ?vv241) rfl (by kernel_rfl) (by kernel_rfl) (by kernel_rfl) (fun _ _ _ h => h) (by kernel_rfl) (fun Wx hSx => ?hy241) (by assumption) ?hrest241
        case hy241 => have q0 := hSx.cell c8 (by simp); go_simp; (try with_reducible rfl)
        simp only [Act.put, List.getElem_toArray, List.getElem_cons_succ, List.getElem_cons_zero, List.setIfInBounds_toArray, List.set_cons_zero, List.set_cons_succ]
        refine takeH 9 (v := ?vv244) rfl (by kernel_rfl) (by kernel_rfl) (by kernel_rfl) (fun _ _ _ h => h) (by kernel_rfl) (fun Wx hSx => ?hy244) (by assumption) ?hrest244
        case hy244 => go_simp; (try with_reducible rfl)
        simp only [Act.put, List.getElem_toArray, List.getElem_cons_succ, List.getElem_cons_zero, List.setIfInBounds_toArray, List.set_cons_zero, List.set_cons_succ]
        refine takeH 10 (v := ?vv247) rfl (by kernel_rfl) (by kernel_rfl) (by kernel_rfl) (fun _ _ _ h => h) (by kernel_rfl) (fun Wx hSx => ?hy247) (by assumption) ?hrest247
        case hy247 => have q0 := hSx.cell e0 (by simp); go_simp; (try with_reducible rfl)
        simp only [Act.put, List.getElem_toArray, List.getElem_cons_succ, List.getElem_cons_zero, List.setIfInBounds_toArray, List.set_cons_zero, List.set_cons_succ]
        refine wpAnyH_ready (rs := [11]) (by kernel_rfl) (by simp) ?_
        refine (AllReadyH.cons rfl (fun K hK => ?_) AllReadyH.nil)
        all_goals try simp only [List.getElem_toArray, List.getElem_cons_succ, List.getElem_cons_zero]
        go_simp
        refine (h46' W1 hS).mono ?_
        rintro e V1 ⟨rfl, hK1⟩
        unfold ptV
        go_simp
        refine hK.out _ _ (hS.trans hK1) (fun hHeld => ?_)
        clear hK K
        try simp only [Act.put, List.getElem_toArray, List.getElem_cons_succ, List.getElem_cons_zero, List.setIfInBounds_toArray, List.set_cons_zero, List.set_cons_succ]
        refine wpAnyH_ready (rs := [12]) (by kernel_rfl) (by simp) ?_
        refine (AllReadyH.cons rfl (fun K hK => ?_) AllReadyH.nil)
        all_goals try simp only [List.getElem_toArray, List.getElem_cons_succ, List.getElem_cons_zero]
        go_simp
        refine (own38 V1 y.p y.d y.s).mono ?_
        rintro e V2 ⟨rfl, hK2⟩
        unfold ptV
        go_simp
        refine hK.out _ _ (hHeld.trans hK2) (fun hHeld => ?_)
        clear hK K
        try simp only [Act.put, List.getElem_toArray, List.getElem_cons_succ, List.getElem_cons_zero, List.setIfInBounds_toArray, List.set_cons_zero, List.set_cons_succ]
        refine takeH 13 (v := ?vv272) rfl (by kernel_rfl) (by kernel_rfl) (by kernel_rfl) (fun _ _ _ h => h) (by kernel_rfl) (fun Wx hSx => ?hy272) (by assumption) ?hrest272
        case hy272 => go_simp; (try with_reducible rfl)
        simp only [Act.put, List.getElem_toArray, List.getElem_cons_succ, List.getElem_cons_zero, List.setIfInBounds_toArray, List.set_cons_zero, List.set_cons_succ]
        refine wpAnyH_done (by kernel_rfl) ?_ _
        simp only [cutQ]
        go_wp2_with fail
        have b42 := blk_set (hHeld.at_ b4W (by simp)) 0 (.bool false)
        have c4 := blk1 (hHeld.at_ b4W (by simp))
        have f4 := blkfreeU (hHeld.at_ b4W (by simp)) 0
        gi_wp2
        exact ⟨KeepsFrom.of_chgT (S := [w.heap.size + 1]) hHeld.nil.put (by simp; omega), .inr ⟨rfl, hno⟩⟩
      | true =>
        cases z1 : (x.d == y.d) with
        | false =>
          have hno : ¬ (pre ++ [x]) <+: pts := fun hp => by
            obtain ⟨tl, htl⟩ := hp
            have h1 : pts[pre.length]? = some x := by rw [← htl]; simp
            rw [hy] at h1
            cases h1
            simp at z1
          clear hy
          gi_wp2
          refine cutR_round (Chg [] W) 14 (by kernel_rfl) (by kernel_rfl) (by rintro ⟨_, _, h⟩; exact h) (by kernel_rfl) (fun _ h => Chg.nil h) (fun W1 hW hS => ?_)
          simp only [List.take_succ_cons, List.take_zero, List.drop_succ_cons, List.drop_zero]
          refine takeH 0 (v := ?vv296) rfl (by kernel_rfl) (by kernel_rfl) (by kernel_rfl) (fun _ _ _ h => h) (by kernel_rfl) (fun Wx hSx => ?hy296) (by assumption) ?hrest296
          case hy296 => have q0 := hSx.cell c8 (by simp); go_simp; (try with_reducible rfl)
          simp only [Act.put, List.getElem_toArray, List.getElem_cons_zero, List.setIfInBounds_toArray, List.set_cons_zero, List.set_cons_succ]
          refine takeH 1 (v := ?vv299) rfl (by kernel_rfl) (by kernel_rfl) (by kernel_rfl) (fun _ _ _ h => h) (by kernel_rfl) (fun Wx hSx => ?hy299) (by assumption) ?hrest299
          case hy299 => have q0 := hSx.cell c7 (by simp); go_simp; (try with_reducible rfl)
          simp only [Act.put, List.getElem_toArray, List.getElem_cons_succ, List.getElem_cons_zero, List.setIfInBounds_toArray, List.set_cons_zero, List.set_cons_succ]
          refine takeH 2 (v := ?vv302) rfl (by kernel_rfl) (by kernel_rfl) (by kernel_rfl) (fun _ _ _ h => h) (by kernel_rfl) (fun Wx hSx => ?hy302) (by assumption) ?hrest302
          case hy302 => go_simp; (try with_reducible rfl)
          simp only [Act.put, List.getElem_toArray, List.getElem_cons_succ, List.getElem_cons_zero, List.setIfInBounds_toArray, List.set_cons_zero, List.set_cons_succ]
          refine takeH 3 (v := ?vv305) rfl (by kernel_rfl) (by kernel_rfl) (by kernel_rfl) (fun _ _ _ h => h) (by kernel_rfl) (fun Wx hSx => ?hy305) (by assumption) ?hrest305
          case hy305 => go_simp; (try with_reducible rfl)
          simp only [Act.put, List.getElem_toArray, List.getElem_cons_succ, List.getElem_cons_zero, List.setIfInBounds_toArray, List.set_cons_zero, List.set_cons_succ]
          refine takeH 4 (v := ?vv308) rfl (by kernel_rfl) (by kernel_rfl) (by kernel_rfl) (fun _ _ _ h => h) (by kernel_rfl) (fun Wx hSx => ?hy308) (by assumption) ?hrest308
          case hy308 => go_simp; (try with_reducible rfl)
          simp only [Act.put, List.getElem_toArray, List.getElem_cons_succ, List.getElem_cons_zero, List.setIfInBounds_toArray, List.set_cons_zero, List.set_cons_succ]
          refine takeH 5 (v := ?vv311) rfl (by kernel_rfl) (by kernel_rfl) (by kernel_rfl) (fun _ _ _ h => h) (by kernel_rfl) (fun Wx hSx => ?hy311) (by assumption) ?hrest311
          case hy311 => have q0 := hSx.cell x0 (by simp); have q1 := hSx.cell x1 (by simp); have q2 := hSx.cell x2 (by simp); go_simp; (try with_reducible rfl)
          simp only [Act.put, List.getElem_toArray, List.getElem_cons_succ, List.getElem_cons_zero, List.setIfInBounds_toArray, List.set_cons_zero, List.set_cons_succ]
          refine takeH 6 (v := ?vv314) rfl (by kernel_rfl) (by kernel_rfl) (by kernel_rfl) (fun _ _ _ h => h) (by kernel_rfl) (fun Wx hSx => ?hy314) (by assumption) ?hrest314
          case hy314 => have q0 := hSx.cell c6 (by simp); go_simp; (try with_reducible rfl)
          simp only [Act.put, List.getElem_toArray, List.getElem_cons_succ, List.getElem_cons_zero, List.setIfInBounds_toArray, List.set_cons_zero, List.set_cons_succ]
          refine takeH 7 (v := ?vv317) rfl (by kernel_rfl) (by kernel_rfl) (by kernel_rfl) (fun _ _ _ h => h) (by kernel_rfl) (fun Wx hSx => ?hy317) (by assumption) ?hrest317
          case hy317 => have q0 := hSx.cell c7 (by simp); go_simp; (try with_reducible rfl)
          simp only [Act.put, List.getElem_toArray, List.getElem_cons_succ, List.getElem_cons_zero, List.setIfInBounds_toArray, List.set_cons_zero, List.set_cons_succ]
          refine takeH 8 (v := ?vv320) rfl (by kernel_rfl) (by kernel_rfl) (by kernel_rfl) (fun _ _ _ h => h) (by kernel_rfl) (fun Wx hSx => ?hy320) (by assumption) ?hrest320
          case hy320 => have q0 := hSx.cell c8 (by simp); go_simp; (try with_reducible rfl)
          simp only [Act.put, List.getElem_toArray, List.getElem_cons_succ, List.getElem_cons_zero, List.setIfInBounds_toArray, List.set_cons_zero, List.set_cons_succ]
          refine takeH 9 (v := ?vv323) rfl (by kernel_rfl) (by kernel_rfl) (by kernel_rfl) (fun _ _ _ h => h) (by kernel_rfl) (fun Wx hSx => ?hy323) (by assumption) ?hrest323
          case hy323 => go_simp; (try with_reducible rfl)
          simp only [Act.put, List.getElem_toArray, List.getElem_cons_succ, List.getElem_cons_zero, List.setIfInBounds_toArray, List.set_cons_zero, List.set_cons_succ]
          refine takeH 10 (v := ?vv326) rfl (by kernel_rfl) (by kernel_rfl) (by kernel_rfl) (fun _ _ _ h => h) (by kernel_rfl) (fun Wx hSx => ?hy326) (by assumption) ?hrest326
          case hy326 => have q0 := hSx.cell e0 (by simp); go_simp; (try with_reducible rfl)
          simp only [Act.put, List.getElem_toArray, List.getElem_cons_succ, List.getElem_cons_zero, List.setIfInBounds_toArray, List.set_cons_zero, List.set_cons_succ]
          refine wpAnyH_ready (rs := [11]) (by kernel_rfl) (by simp) ?_
          refine (AllReadyH.cons rfl (fun K hK => ?_) AllReadyH.nil)
          all_goals try simp only [List.getElem_toArray, List.getElem_cons_succ, List.getElem_cons_zero]
          go_simp
          refine (h46' W1 hS).mono ?_
          rintro e V1 ⟨rfl, hK1⟩
          unfold ptV
          go_simp
          refine hK.out _ _ (hS.trans hK1) (fun hHeld => ?_)
          clear hK K
          try simp only [Act.put, List.getElem_toArray, List.getElem_cons_succ, List.getElem_cons_zero, List.setIfInBounds_toArray, List.set_cons_zero, List.set_cons_succ]
          refine wpAnyH_ready (rs := [12]) (by kernel_rfl) (by simp) ?_
          refine (AllReadyH.cons rfl (fun K hK => ?_) AllReadyH.nil)
          all_goals try simp only [List.getElem_toArray, List.getElem_cons_succ, List.getElem_cons_zero]
          go_simp
          refine (own38 V1 y.p y.d y.s).mono ?_
          rintro e V2 ⟨rfl, hK2⟩
          unfold ptV
          go_simp
          refine hK.out _ _ (hHeld.trans hK2) (fun hHeld => ?_)
          clear hK K
          try simp only [Act.put, List.getElem_toArray, List.getElem_cons_succ, List.getElem_cons_zero, List.setIfInBounds_toArray, List.set_cons_zero, List.set_cons_succ]
          refine takeH 13 (v := ?vv351) rfl (by kernel_rfl) (by kernel_rfl) (by kernel_rfl) (fun _ _ _ h => h) (by kernel_rfl) (fun Wx hSx => ?hy351) (by assumption) ?hrest351
          case hy351 => go_simp; (try with_reducible rfl)
          simp only [Act.put, List.getElem_toArray, List.getElem_cons_succ, List.getElem_cons_zero, List.setIfInBounds_toArray, List.set_cons_zero, List.set_cons_succ]
          refine wpAnyH_done (by kernel_rfl) ?_ _
          simp only [cutQ]
          go_wp2_with fail
          have b42 := blk_set (hHeld.at_ b4W (by simp)) 0 (.bool false)
          have c4 := blk1 (hHeld.at_ b4W (by simp))
          have f4 := blkfreeU (hHeld.at_ b4W (by simp)) 0
          gi_wp2
          exact ⟨KeepsFrom.of_chgT (S := [w.heap.size + 1]) hHeld.nil.put (by simp; omega), .inr ⟨rfl, hno⟩⟩
        | true =>
          cases z2 : (x.s == y.s) with
          | false =>
            have hno : ¬ (pre ++ [x]) <+: pts := fun hp => by
              obtain ⟨tl, htl⟩ := hp
              have h1 : pts[pre.length]? = some x := by rw [← htl]; simp
              rw [hy] at h1
              cases h1
              simp at z2
            clear hy
            gi_wp2
            refine cutR_round (Chg [] W) 14 (by kernel_rfl) (by kernel_rfl) (by rintro ⟨_, _, h⟩; exact h) (by kernel_rfl) (fun _ h => Chg.nil h) (fun W1 hW hS => ?_)
            simp only [List.take_succ_cons, List.take_zero, List.drop_succ_cons, List.drop_zero]
            refine takeH 0 (v := ?vv375) rfl (by kernel_rfl) (by kernel_rfl) (by kernel_rfl) (fun _ _ _ h => h) (by kernel_rfl) (fun Wx hSx => ?hy375) (by assumption) ?hrest375
            case hy375 => have q0 := hSx.cell c8 (by simp); go_simp; (try with_reducible rfl)
            simp only [Act.put, List.getElem_toArray, List.getElem_cons_zero, List.setIfInBounds_toArray, List.set_cons_zero, List.set_cons_succ]
            refine takeH 1 (v := ?vv378) rfl (by kernel_rfl) (by kernel_rfl) (by kernel_rfl) (fun _ _ _ h => h) (by kernel_rfl) (fun Wx hSx => ?hy378) (by assumption) ?hrest378
            case hy378 => have q0 := hSx.cell c7 (by simp); go_simp; (try with_reducible rfl)
            simp only [Act.put, List.getElem_toArray, List.getElem_cons_succ, List.getElem_cons_zero, List.setIfInBounds_toArray, List.set_cons_zero, List.set_cons_succ]
            refine takeH 2 (v := ?vv381) rfl (by kernel_rfl) (by kernel_rfl) (by kernel_rfl) (fun _ _ _ h => h) (by kernel_rfl) (fun Wx hSx => ?hy381) (by assumption) ?hrest381
            case hy381 => go_simp; (try with_reducible rfl)
            simp only [Act.put, List.getElem_toArray, List.getElem_cons_succ, List.getElem_cons_zero, List.setIfInBounds_toArray, List.set_cons_zero, List.set_cons_succ]
            refine takeH 3 (v := ?vv384) rfl (by kernel_rfl) (by kernel_rfl) (by kernel_rfl) (fun _ _ _ h => h) (by kernel_rfl) (fun Wx hSx => ?hy384) (by assumption) ?hrest384
            case hy384 => go_simp; (try with_reducible rfl)
            simp only [Act.put, List.getElem_toArray, List.getElem_cons_succ, List.getElem_cons_zero, List.setIfInBounds_toArray, List.set_cons_zero, List.set_cons_succ]
            refine takeH 4 (v := ?vv387) rfl (by kernel_rfl) (by kernel_rfl) (by kernel_rfl) (fun _ _ _ h => h) (by kernel_rfl) (fun Wx hSx => ?hy387) (by assumption) ?hrest387
            case hy387 => go_simp; (try with_reducible rfl)
            simp only [Act.put, List.getElem_toArray, List.getElem_cons_succ, List.getElem_cons_zero, List.setIfInBounds_toArray, List.set_cons_zero, List.set_cons_succ]
            refine takeH 5 (v := ?vv390) rfl (by kernel_rfl) (by kernel_rfl) (by kernel_rfl) (fun _ _ _ h => h) (by kernel_rfl) (fun Wx hSx => ?hy390) (by assumption) ?hrest390
            case hy390 => have q0 := hSx.cell x0 (by simp); have q1 := hSx.cell x1 (by simp); have q2 := hSx.cell x2 (by simp); go_simp; (try with_reducible rfl)
            simp only [Act.put, List.getElem_toArray, List.getElem_cons_succ, List.getElem_cons_zero, List.setIfInBounds_toArray, List.set_cons_zero, List.set_cons_succ]
            refine takeH 6 (v := ?vv393) rfl (by kernel_rfl) (by kernel_rfl) (by kernel_rfl) (fun _ _ _ h => h) (by kernel_rfl) (fun Wx hSx => ?hy393) (by assumption) ?hrest393
            case hy393 => have q0 := hSx.cell c6 (by simp); go_simp; (try with_reducible rfl)
            simp only [Act.put, List.getElem_toArray, List.getElem_cons_succ, List.getElem_cons_zero, List.setIfInBounds_toArray, List.set_cons_zero, List.set_cons_succ]
            refine takeH 7 (v := ?vv396) rfl (by kernel_rfl) (by kernel_rfl) (by kernel_rfl) (fun _ _ _ h => h) (by kernel_rfl) (fun Wx hSx => ?hy396) (by assumption) ?hrest396
            case hy396 => have q0 := hSx.cell c7 (by simp); go_simp; (try with_reducible rfl)
            simp only [Act.put, List.getElem_toArray, List.getElem_cons_succ, List.getElem_cons_zero, List.setIfInBounds_toArray, List.set_cons_zero, List.set_cons_succ]
            refine takeH 8 (v := ?vv399) rfl (by kernel_rfl) (by kernel_rfl) (by kernel_rfl) (fun _ _ _ h => h) (by kernel_rfl) (fun Wx hSx => ?hy399) (by assumption) ?hrest399
            case hy399 => have q0 := hSx.cell c8 (by simp); go_simp; (try with_reducible rfl)
            simp only [Act.put, List.getElem_toArray, List.getElem_cons_succ, List.getElem_cons_zero, List.setIfInBounds_toArray, List.set_cons_zero, List.set_cons_succ]
            refine takeH 9 (v := ?vv402) rfl (by kernel_rfl) (by kernel_rfl) (by kernel_rfl) (fun _ _ _ h => h) (by kernel_rfl) (fun Wx hSx => ?hy402) (by assumption) ?hrest402
            case hy402 => go_simp; (try with_reducible rfl)
            simp only [Act.put, List.getElem_toArray, List.getElem_cons_succ, List.getElem_cons_zero, List.setIfInBounds_toArray, List.set_cons_zero, List.set_cons_succ]
            refine takeH 10 (v := ?vv405) rfl (by kernel_rfl) (by kernel_rfl) (by kernel_rfl) (fun _ _ _ h => h) (by kernel_rfl) (fun Wx hSx => ?hy405) (by assumption) ?hrest405
            case hy405 => have q0 := hSx.cell e0 (by simp); go_simp; (try with_reducible rfl)
            simp only [Act.put, List.getElem_toArray, List.getElem_cons_succ, List.getElem_cons_zero, List.setIfInBounds_toArray, List.set_cons_zero, List.set_cons_succ]
            refine wpAnyH_ready (rs := [11]) (by kernel_rfl) (by simp) ?_
            refine (AllReadyH.cons rfl (fun K hK => ?_) AllReadyH.nil)
            all_goals try simp only [List.getElem_toArray, List.getElem_cons_succ, List.getElem_cons_zero]
            go_simp
            refine (h46' W1 hS).mono ?_
            rintro e V1 ⟨rfl, hK1⟩
            unfold ptV
            go_simp
            refine hK.out _ _ (hS.trans hK1) (fun hHeld => ?_)
            clear hK K
            try simp only [Act.put, List.getElem_toArray, List.getElem_cons_succ, List.getElem_cons_zero, List.setIfInBounds_toArray, List.set_cons_zero, List.set_cons_succ]
            refine wpAnyH_ready (rs := [12]) (by kernel_rfl) (by simp) ?_
            refine (AllReadyH.cons rfl (fun K hK => ?_) AllReadyH.nil)
            all_goals try simp only [List.getElem_toArray, List.getElem_cons_succ, List.getElem_cons_zero]
            go_simp
            refine (own38 V1 y.p y.d y.s).mono ?_
            rintro e V2 ⟨rfl, hK2⟩
            unfold ptV
            go_simp
            refine hK.out _ _ (hHeld.trans hK2) (fun hHeld => ?_)
            clear hK K
            try simp only [Act.put, List.getElem_toArray, List.getElem_cons_succ, List.getElem_cons_zero, List.setIfInBounds_toArray, List.set_cons_zero, List.set_cons_succ]
            refine takeH 13 (v := ?vv430) rfl (by kernel_rfl) (by kernel_rfl) (by kernel_rfl) (fun _ _ _ h => h) (by kernel_rfl) (fun Wx hSx => ?hy430) (by assumption) ?hrest430
            case hy430 => go_simp; (try with_reducible rfl)
            simp only [Act.put, List.getElem_toArray, List.getElem_cons_succ, List.getElem_cons_zero, List.setIfInBounds_toArray, List.set_cons_zero, List.set_cons_succ]
            refine wpAnyH_done (by kernel_rfl) ?_ _
            simp only [cutQ]
            go_wp2_with fail
            have b42 := blk_set (hHeld.at_ b4W (by simp)) 0 (.bool false)
            have c4 := blk1 (hHeld.at_ b4W (by simp))
            have f4 := blkfreeU (hHeld.at_ b4W (by simp)) 0
            gi_wp2
            exact ⟨KeepsFrom.of_chgT (S := [w.heap.size + 1]) hHeld.nil.put (by simp; omega), .inr ⟨rfl, hno⟩⟩
          | true =>
            have hxy : x = y := by
              cases x; cases y; simp at z0 z1 z2; subst z0 z1 z2; rfl
            gi_wp2
            refine cutR_round (Chg [] W) 14 (by kernel_rfl) (by kernel_rfl) (by rintro ⟨_, _, h⟩; exact h) (by kernel_rfl) (fun _ h => Chg.nil h) (fun W1 hW hS => ?_)
            simp only [List.take_succ_cons, List.take_zero, List.drop_succ_cons, List.drop_zero]
            refine takeH 0 (v := ?vv447) rfl (by kernel_rfl) (by kernel_rfl) (by kernel_rfl) (fun _ _ _ h => h) (by kernel_rfl) (fun Wx hSx => ?hy447) (by assumption) ?hrest447
            case hy447 => have q0 := hSx.cell c8 (by simp); go_simp; (try with_reducible rfl)
            simp only [Act.put, List.getElem_toArray, List.getElem_cons_zero, List.setIfInBounds_toArray, List.set_cons_zero, List.set_cons_succ]
            refine takeH 1 (v := ?vv450) rfl (by kernel_rfl) (by kernel_rfl) (by kernel_rfl) (fun _ _ _ h => h) (by kernel_rfl) (fun Wx hSx => ?hy450) (by assumption) ?hrest450
            case hy450 => have q0 := hSx.cell c7 (by simp); go_simp; (try with_reducible rfl)
            simp only [Act.put, List.getElem_toArray, List.getElem_cons_succ, List.getElem_cons_zero, List.setIfInBounds_toArray, List.set_cons_zero, List.set_cons_succ]
            refine takeH 2 (v := ?vv453) rfl (by kernel_rfl) (by kernel_rfl) (by kernel_rfl) (fun _ _ _ h => h) (by kernel_rfl) (fun Wx hSx => ?hy453) (by assumption) ?hrest453
            case hy453 => go_simp; (try with_reducible rfl)
            simp only [Act.put, List.getElem_toArray, List.getElem_cons_succ, List.getElem_cons_zero, List.setIfInBounds_toArray, List.set_cons_zero, List.set_cons_succ]
            refine takeH 3 (v := ?vv456) rfl (by kernel_rfl) (by kernel_rfl) (by kernel_rfl) (fun _ _ _ h => h) (by kernel_rfl) (fun Wx hSx => ?hy456) (by assumption) ?hrest456
            case hy456 => go_simp; (try with_reducible rfl)
            simp only [Act.put, List.getElem_toArray, List.getElem_cons_succ, List.getElem_cons_zero, List.setIfInBounds_toArray, List.set_cons_zero, List.set_cons_succ]
            refine takeH 4 (v := ?vv459) rfl (by kernel_rfl) (by kernel_rfl) (by kernel_rfl) (fun _ _ _ h => h) (by kernel_rfl) (fun Wx hSx => ?hy459) (by assumption) ?hrest459
            case hy459 => go_simp; (try with_reducible rfl)
            simp only [Act.put, List.getElem_toArray, List.getElem_cons_succ, List.getElem_cons_zero, List.setIfInBounds_toArray, List.set_cons_zero, List.set_cons_succ]
            refine takeH 5 (v := ?vv462) rfl (by kernel_rfl) (by kernel_rfl) (by kernel_rfl) (fun _ _ _ h => h) (by kernel_rfl) (fun Wx hSx => ?hy462) (by assumption) ?hrest462
            case hy462 => have q0 := hSx.cell x0 (by simp); have q1 := hSx.cell x1 (by simp); have q2 := hSx.cell x2 (by simp); go_simp; (try with_reducible rfl)
            simp only [Act.put, List.getElem_toArray, List.getElem_cons_succ, List.getElem_cons_zero, List.setIfInBounds_toArray, List.set_cons_zero, List.set_cons_succ]
            refine takeH 6 (v := ?vv465) rfl (by kernel_rfl) (by kernel_rfl) (by kernel_rfl) (fun _ _ _ h => h) (by kernel_rfl) (fun Wx hSx => ?hy465) (by assumption) ?hrest465
            case hy465 => have q0 := hSx.cell c6 (by simp); go_simp; (try with_reducible rfl)
            simp only [Act.put, List.getElem_toArray, List.getElem_cons_succ, List.getElem_cons_zero, List.setIfInBounds_toArray, List.set_cons_zero, List.set_cons_succ]
            refine takeH 7 (v := ?vv468) rfl (by kernel_rfl) (by kernel_rfl) (by kernel_rfl) (fun _ _ _ h => h) (by kernel_rfl) (fun Wx hSx => ?hy468) (by assumption) ?hrest468
            case hy468 => have q0 := hSx.cell c7 (by simp); go_simp; (try with_reducible rfl)
            simp only [Act.put, List.getElem_toArray, List.getElem_cons_succ, List.getElem_cons_zero, List.setIfInBounds_toArray, List.set_cons_zero, List.set_cons_succ]
            refine takeH 8 (v := ?vv471) rfl (by kernel_rfl) (by kernel_rfl) (by kernel_rfl) (fun _ _ _ h => h) (by kernel_rfl) (fun Wx hSx => ?hy471) (by assumption) ?hrest471
            case hy471 => have q0 := hSx.cell c8 (by simp); go_simp; (try with_reducible rfl)
            simp only [Act.put, List.getElem_toArray, List.getElem_cons_succ, List.getElem_cons_zero, List.setIfInBounds_toArray, List.set_cons_zero, List.set_cons_succ]
            refine takeH 9 (v := ?vv474) rfl (by kernel_rfl) (by kernel_rfl) (by kernel_rfl) (fun _ _ _ h => h) (by kernel_rfl) (fun Wx hSx => ?hy474) (by assumption) ?hrest474
            case hy474 => go_simp; (try with_reducible rfl)
            simp only [Act.put, List.getElem_toArray, List.getElem_cons_succ, List.getElem_cons_zero, List.setIfInBounds_toArray, List.set_cons_zero, List.set_cons_succ]
            refine takeH 10 (v := ?vv477) rfl (by kernel_rfl) (by kernel_rfl) (by kernel_rfl) (fun _ _ _ h => h) (by kernel_rfl) (fun Wx hSx => ?hy477) (by assumption) ?hrest477
            case hy477 => have q0 := hSx.cell e0 (by simp); go_simp; (try with_reducible rfl)
            simp only [Act.put, List.getElem_toArray, List.getElem_cons_succ, List.getElem_cons_zero, List.setIfInBounds_toArray, List.set_cons_zero, List.set_cons_succ]
            refine wpAnyH_ready (rs := [11]) (by kernel_rfl) (by simp) ?_
            refine (AllReadyH.cons rfl (fun K hK => ?_) AllReadyH.nil)
            all_goals try simp only [List.getElem_toArray, List.getElem_cons_succ, List.getElem_cons_zero]
            go_simp
            refine (h46' W1 hS).mono ?_
            rintro e V1 ⟨rfl, hK1⟩
            unfold ptV
            go_simp
            refine hK.out _ _ (hS.trans hK1) (fun hHeld => ?_)
            clear hK K
            try simp only [Act.put, List.getElem_toArray, List.getElem_cons_succ, List.getElem_cons_zero, List.setIfInBounds_toArray, List.set_cons_zero, List.set_cons_succ]
            refine wpAnyH_ready (rs := [12]) (by kernel_rfl) (by simp) ?_
            refine (AllReadyH.cons rfl (fun K hK => ?_) AllReadyH.nil)
            all_goals try simp only [List.getElem_toArray, List.getElem_cons_succ, List.getElem_cons_zero]
            go_simp
            refine (own38 V1 y.p y.d y.s).mono ?_
            rintro e V2 ⟨rfl, hK2⟩
            unfold ptV
            go_simp
            refine hK.out _ _ (hHeld.trans hK2) (fun hHeld => ?_)
            clear hK K
            try simp only [Act.put, List.getElem_toArray, List.getElem_cons_succ, List.getElem_cons_zero, List.setIfInBounds_toArray, List.set_cons_zero, List.set_cons_succ]
            refine takeH 13 (v := ?vv502) rfl (by kernel_rfl) (by kernel_rfl) (by kernel_rfl) (fun _ _ _ h => h) (by kernel_rfl) (fun Wx hSx => ?hy502) (by assumption) ?hrest502
            case hy502 => go_simp; (try with_reducible rfl)
            simp only [Act.put, List.getElem_toArray, List.getElem_cons_succ, List.getElem_cons_zero, List.setIfInBounds_toArray, List.set_cons_zero, List.set_cons_succ]
            refine wpAnyH_done (by kernel_rfl) ?_ _
            simp only [cutQ]
            have b8V := hHeld.at_ i2 (by simp)
            have c8V := blk1 b8V
            have f8V := blkfreeU b8V 0
            have c3V := hHeld.cell c3 (by simp)
            have hl5 : IntKind.i64.wrap ((pre.length : Int) + 1) = (pre.length : Int) + 1 := wrapOk (by omega) (by omega)
            have n1 : w.heap.size ≠ k7 + 1 := by omega
            have n2 : k7 + 1 ≠ w.heap.size := by omega
            have hS : Chg [k7 + 1] W (V2.setCell ⟨k7 + 1, 0, none⟩ (.int .i64 ((pre.length : Int) + 1))) := hHeld.nil.put
            have b82 : (V2.setCell ⟨k7 + 1, 0, none⟩ (.int .i64 ((pre.length : Int) + 1))).heap[k7 + 1]? = some (.cells #[.int .i64 ((pre ++ [x]).length : Int)] 3 (0, 0)) := by
              have := blk_set b8V 0 (.int .i64 ((pre.length : Int) + 1))
              rw [this, List.length_append]
              rfl
            have hlen3 : ((pre ++ [x]).length : Int) = (pre.length : Int) + 1 := by simp
            have hKF := KeepsFrom.of_chgT (B := W8.heap.size) hS (by simp; omega)
            have hKL : KeepL (ownL (.slice Av pts.length cv)) W (V2.setCell ⟨k7 + 1, 0, none⟩ (.int .i64 ((pre.length : Int) + 1))) := KeepL.chg hS (fun k hk hm => by
              have := vge k hk
              simp at hm
              omega)
            have hI1 := i1.trans hS
            clear hS b8V c8 i1 c3 c6 c7 x0 x1 x2 e0 hxy z0 z1 z2
            by_cases hst : (pre.length : Int) + 1 = stop
            · have dst : ((pre.length : Int) + 1 == stop) = true := by simpa using hst
              have HF := Lib.hid (And.intro hKF (And.intro hI1 (And.intro b82 (And.intro hlen3 (And.intro hst (And.intro i3 k0))))))
              clear hKF hKL hI1 b82 hlen3 hst i3
              go_wp2_with fail
              gi_wp2
              obtain ⟨hKF, hI1, b82, hlen3, hst, i3, k0⟩ := HF.out
              exact ⟨hKF, .inl ⟨rfl, hI1, b82, by omega, by omega⟩⟩
            · have dst : ((pre.length : Int) + 1 == stop) = false := by simpa using hst
              have HF := Lib.hid (And.intro hKF (And.intro hKL (And.intro hI1 (And.intro b82 (And.intro hlen3 (And.intro hst i3))))))
              clear hKF hKL hI1 b82 hlen3 hst i3
              go_wp2_with fail
              gi_wp2
              obtain ⟨hKF, hKL, hI1, b82, hlen3, hst, i3⟩ := HF.out
              exact ⟨hKF, hKL, hI1, b82, fun h0 => by have := i3 h0; omega⟩
    case done =>
      rintro D xs W hD hxs ⟨i1, i2, i3⟩ hK
      rw [hxs, hpl] at i2 i3
      have c3 := blk1 (i1.at_ b3 (by simp; omega))
      have c7 := blk1 (i1.at_ b7 (by simp))
      have c8 := blk1 i2
      have b4W := i1.at_ b4 (by simp; omega)
      have c4 := blk1 b4W
      have f4 := blkfreeU b4W 0
      have hCW : Chg [] w W := hC8.trans' i1 (by simp) (by simp; omega)
      have hDw : w.heap.size + 1 < D := by omega
      have e2 : ∀ n : Int, (n == n) = true := fun n => by simp
      by_cases h0 : stop > 0
      · have t0 : decide (stop > 0) = true := decide_eq_true h0
        have t2 : decide (stop < (out.length : Int)) = false := decide_eq_false (by have := i3 h0; omega)
        clear i1 i2 i3 h0
        go_wp2
        have hS := Chg.setCell (S := [w.heap.size + 1]) W ⟨w.heap.size + 1, 0, none⟩ (.bool true) (by simp)
        have b42 := blk_set b4W 0 (.bool true)
        have hK := hS.at_ hK (by simp; omega)
        have hCS := hCW.putNew (g := w.heap.size + 1) (j := 0) (u := .bool true) (by omega)
        refine leaves_marks [D] _ ⟨by simp, fun E hE => ?_⟩ (fun w' hC => ?_)
        · simp at hE
          subst hE
          exact hK
        · have b43 := hC.at_ b42 (by simp; omega)
          exact ⟨_, results_b rfl _ _ (w.heap.size + 1) true rfl b43, rfl, hCS.trans' hC (U := []) (by simp) (fun k hk => .inr (by
            simp at hk; omega))⟩
      · have t0 : decide (stop > 0) = false := decide_eq_false h0
        clear i1 i2 i3 h0
        go_wp2
        have hS := Chg.setCell (S := [w.heap.size + 1]) W ⟨w.heap.size + 1, 0, none⟩ (.bool true) (by simp)
        have b42 := blk_set b4W 0 (.bool true)
        have hK := hS.at_ hK (by simp; omega)
        have hCS := hCW.putNew (g := w.heap.size + 1) (j := 0) (u := .bool true) (by omega)
        refine leaves_marks [D] _ ⟨by simp, fun E hE => ?_⟩ (fun w' hC => ?_)
        · simp at hE
          subst hE
          exact hK
        · have b43 := hC.at_ b42 (by simp; omega)
          exact ⟨_, results_b rfl _ _ (w.heap.size + 1) true rfl b43, rfl, hCS.trans' hC (U := []) (by simp) (fun k hk => .inr (by
            simp at hk; omega))⟩
    case stop =>
      rintro D c' pre W hD hp (⟨rfl, i1, i2, i3, i4⟩ | ⟨rfl, hno⟩) hK
      · have hle := hp.length_le
        rw [i3] at i2
        have c3 := blk1 (i1.at_ b3 (by simp; omega))
        have c7 := blk1 (i1.at_ b7 (by simp))
        have c8 := blk1 i2
        have b4W := i1.at_ b4 (by simp; omega)
        have c4 := blk1 b4W
        have f4 := blkfreeU b4W 0
        have hCW : Chg [] w W := hC8.trans' i1 (by simp) (by simp; omega)
        have hDw : w.heap.size + 1 < D := by omega
        have e2 : ∀ n : Int, (n == n) = true := fun n => by simp
        have t0 : decide (stop > 0) = true := decide_eq_true i4
        by_cases h0 : stop < (out.length : Int)
        · have t2 : decide (stop < (out.length : Int)) = true := decide_eq_true h0
          clear i1 i2 i3 i4 h0 hle
          gi_wp2
          go_wp2
          have hS := Chg.setCell (S := [w.heap.size + 1]) W ⟨w.heap.size + 1, 0, none⟩ (.bool true) (by simp)
          have b42 := blk_set b4W 0 (.bool true)
          have hK := hS.at_ hK (by simp; omega)
          have hCS := hCW.putNew (g := w.heap.size + 1) (j := 0) (u := .bool true) (by omega)
          refine leaves_marks [D] _ ⟨by simp, fun E hE => ?_⟩ (fun w' hC => ?_)
          · simp at hE
            subst hE
            exact hK
          · have b43 := hC.at_ b42 (by simp; omega)
            exact ⟨_, results_b rfl _ _ (w.heap.size + 1) true rfl b43, rfl, hCS.trans' hC (U := []) (by simp) (fun k hk => .inr (by
              simp at hk; omega))⟩
        · have t2 : decide (stop < (out.length : Int)) = false := decide_eq_false h0
          have t3 : (stop == (out.length : Int)) = true := by
            rw [beq_iff_eq]
            omega
          clear i1 i2 i3 i4 h0 hle
          gi_wp2
          go_wp2
          have hS := Chg.setCell (S := [w.heap.size + 1]) W ⟨w.heap.size + 1, 0, none⟩ (.bool true) (by simp)
          have b42 := blk_set b4W 0 (.bool true)
          have hK := hS.at_ hK (by simp; omega)
          have hCS := hCW.putNew (g := w.heap.size + 1) (j := 0) (u := .bool true) (by omega)
          refine leaves_marks [D] _ ⟨by simp, fun E hE => ?_⟩ (fun w' hC => ?_)
          · simp at hE
            subst hE
            exact hK
          · have b43 := hC.at_ b42 (by simp; omega)
            exact ⟨_, results_b rfl _ _ (w.heap.size + 1) true rfl b43, rfl, hCS.trans' hC (U := []) (by simp) (fun k hk => .inr (by
              simp at hk; omega))⟩
      · exact absurd hp hno
    -- END
end Go.Proofs.Ytdcjfaplgpeonaa
