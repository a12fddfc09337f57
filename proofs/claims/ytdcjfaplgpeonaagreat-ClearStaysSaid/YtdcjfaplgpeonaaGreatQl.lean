/-
  The reference's curve: which prices a book has.
-/
import Derived.Test.YtdcjfaplgpeonaaGreatQf
import Derived.Test.YtdcjfaplgpeonaaGreatQj
namespace Go.Proofs.YtdcjfaplgpeonaaGreat
open Go.RowKit Go.Dm
attribute [local go_sem] Oper.semAt_some

/-- The prices of some orders within a band, rising, each once. -/
structure PricesIs (l : List Ord) (lo hi : Int) (out : List Int) : Prop where
  rise : out.Pairwise (· < ·)
  all : ∀ q, q ∈ out ↔ lo ≤ q ∧ q ≤ hi ∧ hasP l q = true
theorem PricesIs.len {l : List Ord} {lo hi : Int} {out : List Int} (h : PricesIs l lo hi out) : out.length ≤ l.length := by
  have hn : out.Nodup := h.rise.imp (fun h => by omega)
  have := List.Nodup.length_le_of_subset hn (l₂ := l.map (fun o => o 3)) (fun q hq => by
    have h1 := ((h.all q).1 hq).2.2
    unfold hasP at h1
    rw [List.any_eq_true] at h1
    obtain ⟨o, ho, h2⟩ := h1
    exact List.mem_map.2 ⟨o, ho, by simpa using h2⟩)
  simpa using this
/-- Where a price stands among some. -/
def InsPos (out : List Int) (p : Int) (j : Nat) : Prop := j ≤ out.length ∧ (∀ (t : Nat) x, t < j → out[t]? = some x → x < p) ∧ (∀ x, out[j]? = some x → p ≤ x)
theorem ins_new {l : List Ord} {lo hi : Int} {out : List Int} {o : Ord} {j : Nat} (h : PricesIs l lo hi out) (hj : InsPos out (o 3) j) (hne : out[j]? ≠ some (o 3)) (h0 : lo ≤ o 3) (h1 : o 3 ≤ hi) :
    PricesIs (l ++ [o]) lo hi (out.take j ++ [o 3] ++ out.drop j) := by
  obtain ⟨hj1, hj2, hj3⟩ := hj
  have hd : ∀ x ∈ out.drop j, o 3 < x := fun x hx => by
    obtain ⟨t, ht⟩ := List.mem_iff_getElem?.1 hx
    rw [List.getElem?_drop] at ht
    by_cases e : t = 0
    · subst e
      rw [Nat.add_zero] at ht
      have := hj3 x ht
      have : x ≠ o 3 := fun e => hne (e ▸ ht)
      omega
    · have hlt := (List.getElem?_eq_some_iff.1 ht).1
      obtain ⟨y, hy⟩ : ∃ y, out[j]? = some y := ⟨out[j]'(by omega), List.getElem?_eq_getElem _⟩
      have h2 := hj3 y hy
      have h3 : y ≠ o 3 := fun e => hne (e ▸ hy)
      have := rise_le h.rise hy ht (by omega)
      omega
  have ht : ∀ x ∈ out.take j, x < o 3 := fun x hx => by
    obtain ⟨t, ht⟩ := List.mem_iff_getElem?.1 hx
    rw [List.getElem?_take] at ht
    split at ht
    · rename_i hlt; exact hj2 t x hlt ht
    · cases ht
  refine ⟨?_, fun q => ?_⟩
  · refine List.pairwise_append.2 ⟨List.pairwise_append.2 ⟨h.rise.sublist (List.take_sublist _ _), by simp, fun a ha b hb => ?_⟩, h.rise.sublist (List.drop_sublist _ _), fun a ha b hb => ?_⟩
    · simp at hb; subst hb; exact ht a ha
    · rcases List.mem_append.1 ha with ha | ha
      · have := ht a ha; have := hd b hb; omega
      · simp at ha; subst ha; exact hd b hb
  · have hm : q ∈ out ↔ q ∈ out.take j ∨ q ∈ out.drop j := by
      conv => lhs; rw [← List.take_append_drop j out]
      exact List.mem_append
    rw [List.mem_append, List.mem_append, List.mem_singleton, hasP_app, Bool.or_eq_true, decide_eq_true_eq]
    have ha := h.all q
    rw [hm] at ha
    constructor
    · rintro ((h2 | rfl) | h2)
      · have := ha.1 (.inl h2); exact ⟨this.1, this.2.1, .inl this.2.2⟩
      · exact ⟨h0, h1, .inr rfl⟩
      · have := ha.1 (.inr h2); exact ⟨this.1, this.2.1, .inl this.2.2⟩
    · rintro ⟨h2, h3, h4 | h4⟩
      · rcases ha.2 ⟨h2, h3, h4⟩ with h5 | h5
        · exact .inl (.inl h5)
        · exact .inr h5
      · exact .inl (.inr h4.symm)
theorem ins_old {l : List Ord} {lo hi : Int} {out : List Int} {o : Ord} (h : PricesIs l lo hi out) (hne : ¬ (lo ≤ o 3 ∧ o 3 ≤ hi) ∨ o 3 ∈ out) : PricesIs (l ++ [o]) lo hi out := by
  refine ⟨h.rise, fun q => ?_⟩
  rw [hasP_app, Bool.or_eq_true, decide_eq_true_eq, h.all]
  constructor
  · rintro ⟨h1, h2, h3⟩; exact ⟨h1, h2, .inl h3⟩
  · rintro ⟨h1, h2, h3 | h3⟩
    · exact ⟨h1, h2, h3⟩
    · subst h3
      rcases hne with hne | hne
      · exact absurd ⟨h1, h2⟩ hne
      · exact (h.all _).1 hne

def RPrRel (w : World) (l : List Ord) (lo hi : Int) (m : Nat) (v i : Value) (wr : World) : Prop :=
  ∃ (k : Nat) (out : List Int), k ≤ l.length ∧ m = l.length - k + 1 ∧ i = .int .i64 k ∧ SlAt 2 1 idE wr v out ∧ PricesIs (l.take k) lo hi out ∧ Fresh w.heap.size v ∧ Chg [] w wr

set_option maxRecDepth 100000 in
set_option maxHeartbeats 8000000 in
theorem rprices43 (w : World) (r : Nat) (l : List Ord) (h : BkR w r l) (lo hi : Int) (hlen : l.length ≤ 60) :
    Calls Tryz.prog 37 #[.pointer (some ⟨r, 0, none⟩), .int .i64 lo, .int .i64 hi] w fun e w' => ∃ v out, e = .returned v ∧ SlAt 2 1 idE w' v out ∧ PricesIs l lo hi out ∧ Fresh w.heap.size v ∧ Chg [] w w' := by
  have hr := h.lt
  obtain ⟨vb, hb, hs⟩ := h
  obtain ⟨A, c, rfl, _, hA⟩ := hs.form
  go_enter Tryz.func37, Tryz.ntmps37
  go_wp2_with fail
  go_loopg [7, 8] (l.length + 1) (fun m v i wr => RPrRel w l lo hi m v i wr)
  case atStart => exact ⟨0, [], Nat.zero_le _, rfl, rfl, SlAt.nil _ _ _ _, ⟨by simp, fun q => by simp [hasP]⟩, Fresh.none, Chg.refl _ _⟩
  case round =>
    obtain ⟨k, out, hk, hm, rfl, hs2, hP, hF, hC⟩ := hrel
    have Hm := Lib.hid hm
    clear hm
    have hbr := hC.at_ hb (by simp)
    obtain ⟨_, _, c2⟩ := blk3 hbr
    have hrr := blk_lt hbr
    have hlo := hP.len
    rw [List.length_take] at hlo
    obtain ⟨A2, cc2, rfl, _, hA2⟩ := hs2.form
    by_cases hlt : k < l.length
    · obtain ⟨g, rfl⟩ := hA (by omega)
      obtain ⟨o, ho⟩ : ∃ o, l[k]? = some o := ⟨l[k], by simp [hlt]⟩
      obtain ⟨e0, e1, e2, e3, _⟩ := ords_at (hs.chg hC (by simp)) ho
      have hg := (hs.chg hC (by simp)).lt (g := g) rfl
      have hT : l.take (k + 1) = l.take k ++ [o] := (take_snocL ho).symm
      have Ho := Lib.hid (And.intro ho hT)
      clear ho hT
      have k0 : (0 : Int) ≤ (k : Int) := Int.natCast_nonneg _
      have k1 : (k : Int) < (l.length : Int) := by omega
      go_upto_block 2 with fail
      go_cut [10] from 28 to 41 (fun u10 W => ∃ j : Nat, u10 = .int .i64 j ∧ InsPos out (o 3) j ∧ wr = W)
      case first =>
        go_wp2
        go_loopg [10] (out.length + 1) (fun n u10 W => ∃ j : Nat, j ≤ out.length ∧ n = out.length - j + 1 ∧ u10 = .int .i64 j ∧ (∀ (t : Nat) x, t < j → out[t]? = some x → x < o 3) ∧ W = wr)
        case atStart => exact ⟨0, Nat.zero_le _, rfl, rfl, fun t x ht => by omega, rfl⟩
        case round =>
          obtain ⟨j, hj, hn, rfl, hall, rfl⟩ := hrel
          have Hj := Lib.hid (And.intro hn hall)
          clear hn hall
          by_cases hjl : j < out.length
          · obtain ⟨g5, rfl⟩ := hA2 (by omega)
            obtain ⟨q, hq⟩ : ∃ q, out[j]? = some q := ⟨out[j], by simp [hjl]⟩
            have d0 := hs2.at_ idR hq (j := 0) (by omega)
            simp only [Nat.mul_one, Nat.add_zero, idE, List.getElem?_cons_zero] at d0
            have Hq := Lib.hid hq
            clear hq
            have j0 : (0 : Int) ≤ (j : Int) := Int.natCast_nonneg _
            have j1 : (j : Int) < (out.length : Int) := by omega
            by_cases hqp : q < o 3
            · have t1 : decide (q < o 3) = true := decide_eq_true hqp
              have Hp := Lib.hid hqp
              clear hqp
              go_wp2_with fail
              go_roundg (out.length - (j + 1) + 1)
              case measure => rw [Hj.out.1]; omega
              case rel =>
                refine ⟨j + 1, by omega, rfl, by go_num, fun t x ht hx => ?_, rfl⟩
                by_cases e : t = j
                · subst e; rw [Hq.out] at hx; cases hx; exact Hp.out
                · exact Hj.out.2 t x (by omega) hx
            · have t1 : decide (q < o 3) = false := decide_eq_false hqp
              have Hp := Lib.hid hqp
              clear hqp
              go_wp2_with fail
              go_meet
              exact ⟨j, rfl, ⟨by omega, Hj.out.2, fun x hx => by rw [Hq.out] at hx; cases hx; have := Hp.out; omega⟩, rfl⟩
          · go_wp2_with fail
            go_meet
            exact ⟨j, rfl, ⟨by omega, Hj.out.2, fun x hx => by have := (List.getElem?_eq_some_iff.1 hx).1; omega⟩, rfl⟩
      case rest =>
        obtain ⟨j, rfl, hj, rfl⟩ := hcut
        have HJ := Lib.hid hj
        have hjl := hj.1
        have HPi := Lib.hid hP
        clear hj hP
        have j0 : (0 : Int) ≤ (j : Int) := Int.natCast_nonneg _
        by_cases h0 : lo ≤ o 3
        · have t0 : decide (o 3 ≥ lo) = true := decide_eq_true h0
          by_cases h1 : o 3 ≤ hi
          · have t1 : decide (o 3 ≤ hi) = true := decide_eq_true h1
            by_cases hjo : j < out.length
            · obtain ⟨g5, rfl⟩ := hA2 (by omega)
              obtain ⟨q, hq⟩ : ∃ q, out[j]? = some q := ⟨out[j], by simp [hjo]⟩
              have d0 := hs2.at_ idR hq (j := 0) (by omega)
              simp only [Nat.mul_one, Nat.add_zero, idE, List.getElem?_cons_zero] at d0
              have hlg := hs2.lt (g := g5) rfl
              have t3 : ((j : Int) == (out.length : Int)) = false := by simp; omega
              have j1 : (j : Int) < (out.length : Int) := by omega
              by_cases hqp : q = o 3
              · have t4 : (q != o 3) = false := by simpa using hqp
                have HN := Lib.hid (ins_old HPi.out (o := o) (.inr (hqp ▸ List.mem_of_getElem? hq)))
                clear hqp hq h0 h1
                go_wp2_with fail
                go_roundg (l.length - (k + 1) + 1)
                case measure => rw [Hm.out]; omega
                case rel => exact ⟨k + 1, out, by omega, rfl, by go_num, hs2, by rw [Ho.out.2]; exact HN.out, hF, hC⟩
              · have t4 : (q != o 3) = true := by simpa using hqp
                have hcp := hs2.cap.2.1
                have hjc : j ≤ cc2 := by omega
                have hjn : ¬ cc2 = j := by omega
                have hjl2 : j ≤ out.length := by omega
                have hjt : ((j : Nat) : Int).toNat = j := by omega
                have HN := Lib.hid (ins_new HPi.out HJ.out (by rw [hq]; intro e; exact hqp (Option.some.inj e)) h0 h1)
                have hU1 : SrcAt idE wr (.slice (some ⟨g5, 0, none⟩) j cc2) (out.take j) := hs2.src_take (by omega) _
                have hU2 : SrcAt idE wr (.slice (some ⟨g5, j, none⟩) (out.length - j) (cc2 - j)) (out.drop j) := by have h9 := hs2.src_drop idR (k := j) (by omega) (cc2 - j) (out.length - j) rfl; rwa [Nat.mul_one] at h9
                clear hqp hq h0 h1
                have HU := Lib.hid (And.intro hU1 hU2)
                clear hU1 hU2
                go_wp2_with fail
                refine wp_cutR (Chg [] wr) 11 (by kernel_rfl) (by kernel_rfl) (fun _ h => Chg.nil h) (fun W hW hS => ?_)
                simp only [List.take_succ_cons, List.take_zero, List.drop_succ_cons, List.drop_zero]
                refine takeH 1 (v := ?vv197) rfl (by kernel_rfl) (by kernel_rfl) (by kernel_rfl) (fun _ _ _ h => h) (by kernel_rfl) (fun Wx hSx => ?hy197) (by assumption) ?hrest197
                case hy197 => go_simp; (try with_reducible rfl)
                simp only [Act.put, List.getElem_toArray, List.getElem_cons_succ, List.getElem_cons_zero, List.setIfInBounds_toArray, List.set_cons_zero, List.set_cons_succ]
                refine takeH 2 (v := ?vv200) rfl (by kernel_rfl) (by kernel_rfl) (by kernel_rfl) (fun _ _ _ h => h) (by kernel_rfl) (fun Wx hSx => ?hy200) (by assumption) ?hrest200
                case hy200 => go_simp; (try with_reducible rfl)
                simp only [Act.put, List.getElem_toArray, List.getElem_cons_succ, List.getElem_cons_zero, List.setIfInBounds_toArray, List.set_cons_zero, List.set_cons_succ]
                refine takeH 3 (v := ?vv203) rfl (by kernel_rfl) (by kernel_rfl) (by kernel_rfl) (fun _ _ _ h => h) (by kernel_rfl) (fun Wx hSx => ?hy203) (by assumption) ?hrest203
                case hy203 => go_simp; (try with_reducible rfl)
                simp only [Act.put, List.getElem_toArray, List.getElem_cons_succ, List.getElem_cons_zero, List.setIfInBounds_toArray, List.set_cons_zero, List.set_cons_succ]
                refine takeH 5 (v := ?vv206) rfl (by kernel_rfl) (by kernel_rfl) (by kernel_rfl) (fun _ _ _ h => h) (by kernel_rfl) (fun Wx hSx => ?hy206) (by assumption) ?hrest206
                case hy206 => go_simp; (try with_reducible rfl)
                simp only [Act.put, List.getElem_toArray, List.getElem_cons_succ, List.getElem_cons_zero, List.setIfInBounds_toArray, List.set_cons_zero, List.set_cons_succ]
                refine takeH 8 (v := ?vv209) rfl (by kernel_rfl) (by kernel_rfl) (by kernel_rfl) (fun _ _ _ h => h) (by kernel_rfl) (fun Wx hSx => ?hy209) (by assumption) ?hrest209
                case hy209 => go_simp; (try with_reducible rfl)
                simp only [Act.put, List.getElem_toArray, List.getElem_cons_succ, List.getElem_cons_zero, List.setIfInBounds_toArray, List.set_cons_zero, List.set_cons_succ]
                refine takeH 9 (v := ?vv212) rfl (by kernel_rfl) (by kernel_rfl) (by kernel_rfl) (fun _ _ _ h => h) (by kernel_rfl) (fun Wx hSx => ?hy212) (by assumption) ?hrest212
                case hy212 => go_simp; (try with_reducible rfl)
                simp only [Act.put, List.getElem_toArray, List.getElem_cons_succ, List.getElem_cons_zero, List.setIfInBounds_toArray, List.set_cons_zero, List.set_cons_succ]
                refine takeH 10 (v := ?vv215) rfl (by kernel_rfl) (by kernel_rfl) (by kernel_rfl) (fun _ _ _ h => h) (by kernel_rfl) (fun Wx hSx => ?hy215) (by assumption) ?hrest215
                case hy215 => go_simp; (try with_reducible rfl)
                simp only [Act.put, List.getElem_toArray, List.getElem_cons_succ, List.getElem_cons_zero, List.setIfInBounds_toArray, List.set_cons_zero, List.set_cons_succ]
                have hl1 : ([] : List Int).length + (out.take j).length ≤ 1000000 := by simp; omega
                have hl2 : ([] ++ out.take j).length + [o 3].length ≤ 1000000 := by simp; omega
                have hl3 : ([] ++ out.take j ++ [o 3]).length + (out.drop j).length ≤ 1000000 := by simp; omega
                refine wpAnyH_ready (rs := [0, 6]) (by kernel_rfl) (by simp) ?_
                refine (AllReadyH.cons rfl (fun K hK => ?_) (AllReadyH.cons rfl (fun K hK => ?_) AllReadyH.nil))
                all_goals try simp only [List.getElem_toArray, List.getElem_cons_succ, List.getElem_cons_zero]
                · go_simp
                  have n0 := heap_alloc_new W (.cells #[] 2)
                  have hn0 := Chg.alloc [] W (.cells #[] 2)
                  have hz0 := hW.size
                  obtain ⟨A1, eA1⟩ : ∃ A1, W.alloc (.cells #[] 2) = A1 := ⟨_, rfl⟩
                  rw [eA1] at n0 hn0 ⊢
                  have hA1 := hW.trans hn0
                  have N0 := Lib.hid (And.intro n0 hn0)
                  clear n0 hn0 eA1
                  refine hK.out _ _ (hA1) (fun hHeld => ?_)
                  clear hK K
                  try simp only [Act.put, List.getElem_toArray, List.getElem_cons_succ, List.getElem_cons_zero, List.setIfInBounds_toArray, List.set_cons_zero, List.set_cons_succ]
                  refine wpAnyH_ready (rs := [4, 6]) (by kernel_rfl) (by simp) ?_
                  refine (AllReadyH.cons rfl (fun K hK => ?_) (AllReadyH.cons rfl (fun K hK => ?_) AllReadyH.nil))
                  all_goals try simp only [List.getElem_toArray, List.getElem_cons_succ, List.getElem_cons_zero]
                  · rw [if_pos (by rfl)]
                    refine step_append2 (o := _) (a := _) (v := .slice (some ⟨W.heap.size, 0, none⟩) 0 0) (u := .slice (some ⟨g5, 0, none⟩) j cc2) (l := ([] : List Int)) (l2 := out.take j) (S := []) (w0 := wr) (.tmp 64) (.tmp 67) 44 idR elem91 hA1 (SlAt.empty N0.out.1 rfl) (Fresh.of (by omega)) (HU.out.1.chg hA1 (by simp)) hl1 (by omega) rfl rfl rfl ?_
                    intro v1 A2 hsA2 hA2 hFA2 hgA2
                    refine hK.out _ _ (hA2) (fun hHeld => ?_)
                    clear hK K
                    try simp only [Act.put, List.setIfInBounds_toArray, List.set_cons_zero, List.set_cons_succ]
                    refine wpAnyH_ready (rs := [6]) (by kernel_rfl) (by simp) ?_
                    refine (AllReadyH.cons rfl (fun K hK => ?_) AllReadyH.nil)
                    all_goals try simp only [List.getElem_toArray, List.getElem_cons_succ, List.getElem_cons_zero]
                    go_simp
                    have n6 := heap_alloc_new A2 (.cells #[.int .i64 (o 3)] 2)
                    have hn6 := Chg.alloc [] A2 (.cells #[.int .i64 (o 3)] 2)
                    obtain ⟨A3, eA3⟩ : ∃ A3, A2.alloc (.cells #[.int .i64 (o 3)] 2) = A3 := ⟨_, rfl⟩
                    rw [eA3] at n6 hn6 ⊢
                    have hA3 := hA2.trans hn6
                    have N6 := Lib.hid (And.intro n6 hn6)
                    clear n6 hn6 eA3
                    refine hK.out _ _ (hA3) (fun hHeld => ?_)
                    clear hK K
                    try simp only [Act.put, List.getElem_toArray, List.getElem_cons_succ, List.getElem_cons_zero, List.setIfInBounds_toArray, List.set_cons_zero, List.set_cons_succ]
                    refine wpAnyH_ready (rs := [7]) (by kernel_rfl) (by simp) ?_
                    refine (AllReadyH.cons rfl (fun K hK => ?_) AllReadyH.nil)
                    all_goals try simp only [List.getElem_toArray, List.getElem_cons_succ, List.getElem_cons_zero]
                    rw [if_pos (by rfl)]
                    refine step_append2 (o := _) (a := _) (v := v1) (u := .slice (some ⟨A2.heap.size, 0, none⟩) 1 1) (l := [] ++ out.take j) (l2 := [o 3]) (S := []) (w0 := wr) (.tmp 68) (.tmp 70) 44 idR elem91 hA3 (hsA2.chg N6.out.2 (by simp)) hFA2 (SrcAt.one (renc := idE) (a := o 3) (t := 2) (fr := (0, 0)) N6.out.1 1) hl2 (by omega) rfl rfl rfl ?_
                    intro v2 A4 hsA4 hA4 hFA4 hgA4
                    refine hK.out _ _ (hA4) (fun hHeld => ?_)
                    clear hK K
                    try simp only [Act.put, List.setIfInBounds_toArray, List.set_cons_zero, List.set_cons_succ]
                    refine wpAnyH_done (by kernel_rfl) ?_ _
                    simp only [cutQ]
                    go_wp2_with (at_builtin; go_must (refine wpL_append' rfl _ _ 44 rfl idR elem91 (w0 := wr) (l2 := out.drop j) hA4 hsA4 hFA4 (HU.out.2.chg hA4 (by simp)) rfl rfl hl3 (by omega) ?_))
                    intro v3 W9 hs9 h9 hF9 hg9
                    have hs99 : SlAt 2 1 idE W9 v3 (out.take j ++ [o 3] ++ out.drop j) := by simpa using hs9
                    have hC9 : Chg [] w W9 := hC.trans h9
                    have hF99 : Fresh w.heap.size v3 := hF9.mono hC.size
                    have HS9 := Lib.hid hs99
                    clear hg9 h9 hF9 hHeld hs9 hs99
                    go_wp2_with fail
                    go_roundg (l.length - (k + 1) + 1)
                    case measure => rw [Hm.out]; omega
                    case rel => exact ⟨k + 1, _, by omega, rfl, by go_num, HS9.out, by rw [Ho.out.2]; exact HN.out, hF99, hC9⟩
                  · go_simp
                    have n6 := heap_alloc_new A1 (.cells #[.int .i64 (o 3)] 2)
                    have hn6 := Chg.alloc [] A1 (.cells #[.int .i64 (o 3)] 2)
                    obtain ⟨A2, eA2⟩ : ∃ A2, A1.alloc (.cells #[.int .i64 (o 3)] 2) = A2 := ⟨_, rfl⟩
                    rw [eA2] at n6 hn6 ⊢
                    have hA2 := hA1.trans hn6
                    have N6 := Lib.hid (And.intro n6 hn6)
                    clear n6 hn6 eA2
                    refine hK.out _ _ (hA2) (fun hHeld => ?_)
                    clear hK K
                    try simp only [Act.put, List.getElem_toArray, List.getElem_cons_succ, List.getElem_cons_zero, List.setIfInBounds_toArray, List.set_cons_zero, List.set_cons_succ]
                    refine wpAnyH_ready (rs := [4]) (by kernel_rfl) (by simp) ?_
                    refine (AllReadyH.cons rfl (fun K hK => ?_) AllReadyH.nil)
                    all_goals try simp only [List.getElem_toArray, List.getElem_cons_succ, List.getElem_cons_zero]
                    rw [if_pos (by rfl)]
                    refine step_append2 (o := _) (a := _) (v := .slice (some ⟨W.heap.size, 0, none⟩) 0 0) (u := .slice (some ⟨g5, 0, none⟩) j cc2) (l := ([] : List Int)) (l2 := out.take j) (S := []) (w0 := wr) (.tmp 64) (.tmp 67) 44 idR elem91 hA2 (SlAt.empty (N6.out.2.at_ N0.out.1 (by simp)) rfl) (Fresh.of (by omega)) (HU.out.1.chg hA2 (by simp)) hl1 (by omega) rfl rfl rfl ?_
                    intro v1 A3 hsA3 hA3 hFA3 hgA3
                    refine hK.out _ _ (hA3) (fun hHeld => ?_)
                    clear hK K
                    try simp only [Act.put, List.setIfInBounds_toArray, List.set_cons_zero, List.set_cons_succ]
                    have m6 : A3.heap[A1.heap.size]? = some (.cells #[.int .i64 (o 3)] 2 (0, 0)) := (hgA3.block _ (blk_lt N6.out.1) (by have := blk_lt N0.out.1; simp [Value.ownBlock]; omega)).trans N6.out.1
                    refine wpAnyH_ready (rs := [7]) (by kernel_rfl) (by simp) ?_
                    refine (AllReadyH.cons rfl (fun K hK => ?_) AllReadyH.nil)
                    all_goals try simp only [List.getElem_toArray, List.getElem_cons_succ, List.getElem_cons_zero]
                    rw [if_pos (by rfl)]
                    refine step_append2 (o := _) (a := _) (v := v1) (u := .slice (some ⟨A1.heap.size, 0, none⟩) 1 1) (l := [] ++ out.take j) (l2 := [o 3]) (S := []) (w0 := wr) (.tmp 68) (.tmp 70) 44 idR elem91 hA3 hsA3 hFA3 (SrcAt.one (renc := idE) (a := o 3) (t := 2) (fr := (0, 0)) m6 1) hl2 (by omega) rfl rfl rfl ?_
                    intro v2 A4 hsA4 hA4 hFA4 hgA4
                    refine hK.out _ _ (hA4) (fun hHeld => ?_)
                    clear hK K
                    try simp only [Act.put, List.setIfInBounds_toArray, List.set_cons_zero, List.set_cons_succ]
                    refine wpAnyH_done (by kernel_rfl) ?_ _
                    simp only [cutQ]
                    go_wp2_with (at_builtin; go_must (refine wpL_append' rfl _ _ 44 rfl idR elem91 (w0 := wr) (l2 := out.drop j) hA4 hsA4 hFA4 (HU.out.2.chg hA4 (by simp)) rfl rfl hl3 (by omega) ?_))
                    intro v3 W9 hs9 h9 hF9 hg9
                    have hs99 : SlAt 2 1 idE W9 v3 (out.take j ++ [o 3] ++ out.drop j) := by simpa using hs9
                    have hC9 : Chg [] w W9 := hC.trans h9
                    have hF99 : Fresh w.heap.size v3 := hF9.mono hC.size
                    have HS9 := Lib.hid hs99
                    clear hg9 h9 hF9 hHeld hs9 hs99
                    go_wp2_with fail
                    go_roundg (l.length - (k + 1) + 1)
                    case measure => rw [Hm.out]; omega
                    case rel => exact ⟨k + 1, _, by omega, rfl, by go_num, HS9.out, by rw [Ho.out.2]; exact HN.out, hF99, hC9⟩
                · go_simp
                  have n6 := heap_alloc_new W (.cells #[.int .i64 (o 3)] 2)
                  have hn6 := Chg.alloc [] W (.cells #[.int .i64 (o 3)] 2)
                  obtain ⟨A1, eA1⟩ : ∃ A1, W.alloc (.cells #[.int .i64 (o 3)] 2) = A1 := ⟨_, rfl⟩
                  rw [eA1] at n6 hn6 ⊢
                  have hA1 := hW.trans hn6
                  have N6 := Lib.hid (And.intro n6 hn6)
                  clear n6 hn6 eA1
                  refine hK.out _ _ (hA1) (fun hHeld => ?_)
                  clear hK K
                  try simp only [Act.put, List.getElem_toArray, List.getElem_cons_succ, List.getElem_cons_zero, List.setIfInBounds_toArray, List.set_cons_zero, List.set_cons_succ]
                  refine wpAnyH_ready (rs := [0]) (by kernel_rfl) (by simp) ?_
                  refine (AllReadyH.cons rfl (fun K hK => ?_) AllReadyH.nil)
                  all_goals try simp only [List.getElem_toArray, List.getElem_cons_zero]
                  go_simp
                  have n0 := heap_alloc_new A1 (.cells #[] 2)
                  have hn0 := Chg.alloc [] A1 (.cells #[] 2)
                  have hz0 := hA1.size
                  obtain ⟨A2, eA2⟩ : ∃ A2, A1.alloc (.cells #[] 2) = A2 := ⟨_, rfl⟩
                  rw [eA2] at n0 hn0 ⊢
                  have hA2 := hA1.trans hn0
                  have N0 := Lib.hid (And.intro n0 hn0)
                  clear n0 hn0 eA2
                  refine hK.out _ _ (hA2) (fun hHeld => ?_)
                  clear hK K
                  try simp only [Act.put, List.getElem_toArray, List.getElem_cons_succ, List.getElem_cons_zero, List.setIfInBounds_toArray, List.set_cons_zero, List.set_cons_succ]
                  refine wpAnyH_ready (rs := [4]) (by kernel_rfl) (by simp) ?_
                  refine (AllReadyH.cons rfl (fun K hK => ?_) AllReadyH.nil)
                  all_goals try simp only [List.getElem_toArray, List.getElem_cons_succ, List.getElem_cons_zero]
                  rw [if_pos (by rfl)]
                  refine step_append2 (o := _) (a := _) (v := .slice (some ⟨A1.heap.size, 0, none⟩) 0 0) (u := .slice (some ⟨g5, 0, none⟩) j cc2) (l := ([] : List Int)) (l2 := out.take j) (S := []) (w0 := wr) (.tmp 64) (.tmp 67) 44 idR elem91 hA2 (SlAt.empty N0.out.1 rfl) (Fresh.of (by omega)) (HU.out.1.chg hA2 (by simp)) hl1 (by omega) rfl rfl rfl ?_
                  intro v1 A3 hsA3 hA3 hFA3 hgA3
                  refine hK.out _ _ (hA3) (fun hHeld => ?_)
                  clear hK K
                  try simp only [Act.put, List.setIfInBounds_toArray, List.set_cons_zero, List.set_cons_succ]
                  have m6 : A3.heap[W.heap.size]? = some (.cells #[.int .i64 (o 3)] 2 (0, 0)) := (hgA3.block _ (blk_lt (N0.out.2.at_ N6.out.1 (by simp))) (by have := blk_lt N6.out.1; simp [Value.ownBlock]; omega)).trans (N0.out.2.at_ N6.out.1 (by simp))
                  refine wpAnyH_ready (rs := [7]) (by kernel_rfl) (by simp) ?_
                  refine (AllReadyH.cons rfl (fun K hK => ?_) AllReadyH.nil)
                  all_goals try simp only [List.getElem_toArray, List.getElem_cons_succ, List.getElem_cons_zero]
                  rw [if_pos (by rfl)]
                  refine step_append2 (o := _) (a := _) (v := v1) (u := .slice (some ⟨W.heap.size, 0, none⟩) 1 1) (l := [] ++ out.take j) (l2 := [o 3]) (S := []) (w0 := wr) (.tmp 68) (.tmp 70) 44 idR elem91 hA3 hsA3 hFA3 (SrcAt.one (renc := idE) (a := o 3) (t := 2) (fr := (0, 0)) m6 1) hl2 (by omega) rfl rfl rfl ?_
                  intro v2 A4 hsA4 hA4 hFA4 hgA4
                  refine hK.out _ _ (hA4) (fun hHeld => ?_)
                  clear hK K
                  try simp only [Act.put, List.setIfInBounds_toArray, List.set_cons_zero, List.set_cons_succ]
                  refine wpAnyH_done (by kernel_rfl) ?_ _
                  simp only [cutQ]
                  go_wp2_with (at_builtin; go_must (refine wpL_append' rfl _ _ 44 rfl idR elem91 (w0 := wr) (l2 := out.drop j) hA4 hsA4 hFA4 (HU.out.2.chg hA4 (by simp)) rfl rfl hl3 (by omega) ?_))
                  intro v3 W9 hs9 h9 hF9 hg9
                  have hs99 : SlAt 2 1 idE W9 v3 (out.take j ++ [o 3] ++ out.drop j) := by simpa using hs9
                  have hC9 : Chg [] w W9 := hC.trans h9
                  have hF99 : Fresh w.heap.size v3 := hF9.mono hC.size
                  have HS9 := Lib.hid hs99
                  clear hg9 h9 hF9 hHeld hs9 hs99
                  go_wp2_with fail
                  go_roundg (l.length - (k + 1) + 1)
                  case measure => rw [Hm.out]; omega
                  case rel => exact ⟨k + 1, _, by omega, rfl, by go_num, HS9.out, by rw [Ho.out.2]; exact HN.out, hF99, hC9⟩
            · have hje : j = out.length := by omega
              have t3 : ((j : Int) == (out.length : Int)) = true := by simp; omega
              have HN := Lib.hid (ins_new HPi.out HJ.out (by rw [List.getElem?_eq_none (by omega)]; simp) h0 h1)
              clear h0 h1
              have hcp := hs2.cap
              cases A2 with
              | none =>
                obtain ⟨rfl, rfl⟩ := hcp.2.2.1 rfl
                obtain rfl : j = 0 := by simpa using hje
                have hU1 : SrcAt idE wr (.slice none 0 0) (([] : List Int).take 0) := SrcAt.nil
                have hU2 : SrcAt idE wr (.slice none 0 0) (([] : List Int).drop 0) := SrcAt.nil
                clear hje hcp
                have HU := Lib.hid (And.intro hU1 hU2)
                clear hU1 hU2
                go_wp2_with fail
                refine wp_cutR (Chg [] wr) 11 (by kernel_rfl) (by kernel_rfl) (fun _ h => Chg.nil h) (fun W hW hS => ?_)
                simp only [List.take_succ_cons, List.take_zero, List.drop_succ_cons, List.drop_zero]
                refine takeH 1 (v := ?vv399) rfl (by kernel_rfl) (by kernel_rfl) (by kernel_rfl) (fun _ _ _ h => h) (by kernel_rfl) (fun Wx hSx => ?hy399) (by assumption) ?hrest399
                case hy399 => go_simp; (try with_reducible rfl)
                simp only [Act.put, List.getElem_toArray, List.getElem_cons_succ, List.getElem_cons_zero, List.setIfInBounds_toArray, List.set_cons_zero, List.set_cons_succ]
                refine takeH 2 (v := ?vv402) rfl (by kernel_rfl) (by kernel_rfl) (by kernel_rfl) (fun _ _ _ h => h) (by kernel_rfl) (fun Wx hSx => ?hy402) (by assumption) ?hrest402
                case hy402 => go_simp; (try with_reducible rfl)
                simp only [Act.put, List.getElem_toArray, List.getElem_cons_succ, List.getElem_cons_zero, List.setIfInBounds_toArray, List.set_cons_zero, List.set_cons_succ]
                refine takeH 3 (v := ?vv405) rfl (by kernel_rfl) (by kernel_rfl) (by kernel_rfl) (fun _ _ _ h => h) (by kernel_rfl) (fun Wx hSx => ?hy405) (by assumption) ?hrest405
                case hy405 => go_simp; (try with_reducible rfl)
                simp only [Act.put, List.getElem_toArray, List.getElem_cons_succ, List.getElem_cons_zero, List.setIfInBounds_toArray, List.set_cons_zero, List.set_cons_succ]
                refine takeH 5 (v := ?vv408) rfl (by kernel_rfl) (by kernel_rfl) (by kernel_rfl) (fun _ _ _ h => h) (by kernel_rfl) (fun Wx hSx => ?hy408) (by assumption) ?hrest408
                case hy408 => go_simp; (try with_reducible rfl)
                simp only [Act.put, List.getElem_toArray, List.getElem_cons_succ, List.getElem_cons_zero, List.setIfInBounds_toArray, List.set_cons_zero, List.set_cons_succ]
                refine takeH 8 (v := ?vv411) rfl (by kernel_rfl) (by kernel_rfl) (by kernel_rfl) (fun _ _ _ h => h) (by kernel_rfl) (fun Wx hSx => ?hy411) (by assumption) ?hrest411
                case hy411 => go_simp; (try with_reducible rfl)
                simp only [Act.put, List.getElem_toArray, List.getElem_cons_succ, List.getElem_cons_zero, List.setIfInBounds_toArray, List.set_cons_zero, List.set_cons_succ]
                refine takeH 9 (v := ?vv414) rfl (by kernel_rfl) (by kernel_rfl) (by kernel_rfl) (fun _ _ _ h => h) (by kernel_rfl) (fun Wx hSx => ?hy414) (by assumption) ?hrest414
                case hy414 => go_simp; (try with_reducible rfl)
                simp only [Act.put, List.getElem_toArray, List.getElem_cons_succ, List.getElem_cons_zero, List.setIfInBounds_toArray, List.set_cons_zero, List.set_cons_succ]
                refine takeH 10 (v := ?vv417) rfl (by kernel_rfl) (by kernel_rfl) (by kernel_rfl) (fun _ _ _ h => h) (by kernel_rfl) (fun Wx hSx => ?hy417) (by assumption) ?hrest417
                case hy417 => go_simp; (try with_reducible rfl)
                simp only [Act.put, List.getElem_toArray, List.getElem_cons_succ, List.getElem_cons_zero, List.setIfInBounds_toArray, List.set_cons_zero, List.set_cons_succ]
                have hl1 : ([] : List Int).length + (([] : List Int).take 0).length ≤ 1000000 := by simp
                have hl2 : ([] ++ ([] : List Int).take 0).length + [o 3].length ≤ 1000000 := by simp
                have hl3 : ([] ++ ([] : List Int).take 0 ++ [o 3]).length + (([] : List Int).drop 0).length ≤ 1000000 := by simp
                refine wpAnyH_ready (rs := [0, 6]) (by kernel_rfl) (by simp) ?_
                refine (AllReadyH.cons rfl (fun K hK => ?_) (AllReadyH.cons rfl (fun K hK => ?_) AllReadyH.nil))
                all_goals try simp only [List.getElem_toArray, List.getElem_cons_succ, List.getElem_cons_zero]
                · go_simp
                  have n0 := heap_alloc_new W (.cells #[] 2)
                  have hn0 := Chg.alloc [] W (.cells #[] 2)
                  have hz0 := hW.size
                  obtain ⟨A1, eA1⟩ : ∃ A1, W.alloc (.cells #[] 2) = A1 := ⟨_, rfl⟩
                  rw [eA1] at n0 hn0 ⊢
                  have hA1 := hW.trans hn0
                  have N0 := Lib.hid (And.intro n0 hn0)
                  clear n0 hn0 eA1
                  refine hK.out _ _ (hA1) (fun hHeld => ?_)
                  clear hK K
                  try simp only [Act.put, List.getElem_toArray, List.getElem_cons_succ, List.getElem_cons_zero, List.setIfInBounds_toArray, List.set_cons_zero, List.set_cons_succ]
                  refine wpAnyH_ready (rs := [4, 6]) (by kernel_rfl) (by simp) ?_
                  refine (AllReadyH.cons rfl (fun K hK => ?_) (AllReadyH.cons rfl (fun K hK => ?_) AllReadyH.nil))
                  all_goals try simp only [List.getElem_toArray, List.getElem_cons_succ, List.getElem_cons_zero]
                  · rw [if_pos (by rfl)]
                    refine step_append2 (o := _) (a := _) (v := .slice (some ⟨W.heap.size, 0, none⟩) 0 0) (u := .slice none 0 0) (l := ([] : List Int)) (l2 := ([] : List Int).take 0) (S := []) (w0 := wr) (.tmp 64) (.tmp 67) 44 idR elem91 hA1 (SlAt.empty N0.out.1 rfl) (Fresh.of (by omega)) (HU.out.1.chg hA1 (by simp)) hl1 (by omega) rfl rfl rfl ?_
                    intro v1 A2 hsA2 hA2 hFA2 hgA2
                    refine hK.out _ _ (hA2) (fun hHeld => ?_)
                    clear hK K
                    try simp only [Act.put, List.setIfInBounds_toArray, List.set_cons_zero, List.set_cons_succ]
                    refine wpAnyH_ready (rs := [6]) (by kernel_rfl) (by simp) ?_
                    refine (AllReadyH.cons rfl (fun K hK => ?_) AllReadyH.nil)
                    all_goals try simp only [List.getElem_toArray, List.getElem_cons_succ, List.getElem_cons_zero]
                    go_simp
                    have n6 := heap_alloc_new A2 (.cells #[.int .i64 (o 3)] 2)
                    have hn6 := Chg.alloc [] A2 (.cells #[.int .i64 (o 3)] 2)
                    obtain ⟨A3, eA3⟩ : ∃ A3, A2.alloc (.cells #[.int .i64 (o 3)] 2) = A3 := ⟨_, rfl⟩
                    rw [eA3] at n6 hn6 ⊢
                    have hA3 := hA2.trans hn6
                    have N6 := Lib.hid (And.intro n6 hn6)
                    clear n6 hn6 eA3
                    refine hK.out _ _ (hA3) (fun hHeld => ?_)
                    clear hK K
                    try simp only [Act.put, List.getElem_toArray, List.getElem_cons_succ, List.getElem_cons_zero, List.setIfInBounds_toArray, List.set_cons_zero, List.set_cons_succ]
                    refine wpAnyH_ready (rs := [7]) (by kernel_rfl) (by simp) ?_
                    refine (AllReadyH.cons rfl (fun K hK => ?_) AllReadyH.nil)
                    all_goals try simp only [List.getElem_toArray, List.getElem_cons_succ, List.getElem_cons_zero]
                    rw [if_pos (by rfl)]
                    refine step_append2 (o := _) (a := _) (v := v1) (u := .slice (some ⟨A2.heap.size, 0, none⟩) 1 1) (l := [] ++ ([] : List Int).take 0) (l2 := [o 3]) (S := []) (w0 := wr) (.tmp 68) (.tmp 70) 44 idR elem91 hA3 (hsA2.chg N6.out.2 (by simp)) hFA2 (SrcAt.one (renc := idE) (a := o 3) (t := 2) (fr := (0, 0)) N6.out.1 1) hl2 (by omega) rfl rfl rfl ?_
                    intro v2 A4 hsA4 hA4 hFA4 hgA4
                    refine hK.out _ _ (hA4) (fun hHeld => ?_)
                    clear hK K
                    try simp only [Act.put, List.setIfInBounds_toArray, List.set_cons_zero, List.set_cons_succ]
                    refine wpAnyH_done (by kernel_rfl) ?_ _
                    simp only [cutQ]
                    go_wp2_with (at_builtin; go_must (refine wpL_append' rfl _ _ 44 rfl idR elem91 (w0 := wr) (l2 := ([] : List Int).drop 0) hA4 hsA4 hFA4 (HU.out.2.chg hA4 (by simp)) rfl rfl hl3 (by omega) ?_))
                    intro v3 W9 hs9 h9 hF9 hg9
                    have hs99 : SlAt 2 1 idE W9 v3 (([] : List Int).take 0 ++ [o 3] ++ ([] : List Int).drop 0) := by simpa using hs9
                    have hC9 : Chg [] w W9 := hC.trans h9
                    have hF99 : Fresh w.heap.size v3 := hF9.mono hC.size
                    have HS9 := Lib.hid hs99
                    clear hg9 h9 hF9 hHeld hs9 hs99
                    go_wp2_with fail
                    go_roundg (l.length - (k + 1) + 1)
                    case measure => rw [Hm.out]; omega
                    case rel => exact ⟨k + 1, _, by omega, rfl, by go_num, HS9.out, by rw [Ho.out.2]; exact HN.out, hF99, hC9⟩
                  · go_simp
                    have n6 := heap_alloc_new A1 (.cells #[.int .i64 (o 3)] 2)
                    have hn6 := Chg.alloc [] A1 (.cells #[.int .i64 (o 3)] 2)
                    obtain ⟨A2, eA2⟩ : ∃ A2, A1.alloc (.cells #[.int .i64 (o 3)] 2) = A2 := ⟨_, rfl⟩
                    rw [eA2] at n6 hn6 ⊢
                    have hA2 := hA1.trans hn6
                    have N6 := Lib.hid (And.intro n6 hn6)
                    clear n6 hn6 eA2
                    refine hK.out _ _ (hA2) (fun hHeld => ?_)
                    clear hK K
                    try simp only [Act.put, List.getElem_toArray, List.getElem_cons_succ, List.getElem_cons_zero, List.setIfInBounds_toArray, List.set_cons_zero, List.set_cons_succ]
                    refine wpAnyH_ready (rs := [4]) (by kernel_rfl) (by simp) ?_
                    refine (AllReadyH.cons rfl (fun K hK => ?_) AllReadyH.nil)
                    all_goals try simp only [List.getElem_toArray, List.getElem_cons_succ, List.getElem_cons_zero]
                    rw [if_pos (by rfl)]
                    refine step_append2 (o := _) (a := _) (v := .slice (some ⟨W.heap.size, 0, none⟩) 0 0) (u := .slice none 0 0) (l := ([] : List Int)) (l2 := ([] : List Int).take 0) (S := []) (w0 := wr) (.tmp 64) (.tmp 67) 44 idR elem91 hA2 (SlAt.empty (N6.out.2.at_ N0.out.1 (by simp)) rfl) (Fresh.of (by omega)) (HU.out.1.chg hA2 (by simp)) hl1 (by omega) rfl rfl rfl ?_
                    intro v1 A3 hsA3 hA3 hFA3 hgA3
                    refine hK.out _ _ (hA3) (fun hHeld => ?_)
                    clear hK K
                    try simp only [Act.put, List.setIfInBounds_toArray, List.set_cons_zero, List.set_cons_succ]
                    have m6 : A3.heap[A1.heap.size]? = some (.cells #[.int .i64 (o 3)] 2 (0, 0)) := (hgA3.block _ (blk_lt N6.out.1) (by have := blk_lt N0.out.1; simp [Value.ownBlock]; omega)).trans N6.out.1
                    refine wpAnyH_ready (rs := [7]) (by kernel_rfl) (by simp) ?_
                    refine (AllReadyH.cons rfl (fun K hK => ?_) AllReadyH.nil)
                    all_goals try simp only [List.getElem_toArray, List.getElem_cons_succ, List.getElem_cons_zero]
                    rw [if_pos (by rfl)]
                    refine step_append2 (o := _) (a := _) (v := v1) (u := .slice (some ⟨A1.heap.size, 0, none⟩) 1 1) (l := [] ++ ([] : List Int).take 0) (l2 := [o 3]) (S := []) (w0 := wr) (.tmp 68) (.tmp 70) 44 idR elem91 hA3 hsA3 hFA3 (SrcAt.one (renc := idE) (a := o 3) (t := 2) (fr := (0, 0)) m6 1) hl2 (by omega) rfl rfl rfl ?_
                    intro v2 A4 hsA4 hA4 hFA4 hgA4
                    refine hK.out _ _ (hA4) (fun hHeld => ?_)
                    clear hK K
                    try simp only [Act.put, List.setIfInBounds_toArray, List.set_cons_zero, List.set_cons_succ]
                    refine wpAnyH_done (by kernel_rfl) ?_ _
                    simp only [cutQ]
                    go_wp2_with (at_builtin; go_must (refine wpL_append' rfl _ _ 44 rfl idR elem91 (w0 := wr) (l2 := ([] : List Int).drop 0) hA4 hsA4 hFA4 (HU.out.2.chg hA4 (by simp)) rfl rfl hl3 (by omega) ?_))
                    intro v3 W9 hs9 h9 hF9 hg9
                    have hs99 : SlAt 2 1 idE W9 v3 (([] : List Int).take 0 ++ [o 3] ++ ([] : List Int).drop 0) := by simpa using hs9
                    have hC9 : Chg [] w W9 := hC.trans h9
                    have hF99 : Fresh w.heap.size v3 := hF9.mono hC.size
                    have HS9 := Lib.hid hs99
                    clear hg9 h9 hF9 hHeld hs9 hs99
                    go_wp2_with fail
                    go_roundg (l.length - (k + 1) + 1)
                    case measure => rw [Hm.out]; omega
                    case rel => exact ⟨k + 1, _, by omega, rfl, by go_num, HS9.out, by rw [Ho.out.2]; exact HN.out, hF99, hC9⟩
                · go_simp
                  have n6 := heap_alloc_new W (.cells #[.int .i64 (o 3)] 2)
                  have hn6 := Chg.alloc [] W (.cells #[.int .i64 (o 3)] 2)
                  obtain ⟨A1, eA1⟩ : ∃ A1, W.alloc (.cells #[.int .i64 (o 3)] 2) = A1 := ⟨_, rfl⟩
                  rw [eA1] at n6 hn6 ⊢
                  have hA1 := hW.trans hn6
                  have N6 := Lib.hid (And.intro n6 hn6)
                  clear n6 hn6 eA1
                  refine hK.out _ _ (hA1) (fun hHeld => ?_)
                  clear hK K
                  try simp only [Act.put, List.getElem_toArray, List.getElem_cons_succ, List.getElem_cons_zero, List.setIfInBounds_toArray, List.set_cons_zero, List.set_cons_succ]
                  refine wpAnyH_ready (rs := [0]) (by kernel_rfl) (by simp) ?_
                  refine (AllReadyH.cons rfl (fun K hK => ?_) AllReadyH.nil)
                  all_goals try simp only [List.getElem_toArray, List.getElem_cons_zero]
                  go_simp
                  have n0 := heap_alloc_new A1 (.cells #[] 2)
                  have hn0 := Chg.alloc [] A1 (.cells #[] 2)
                  have hz0 := hA1.size
                  obtain ⟨A2, eA2⟩ : ∃ A2, A1.alloc (.cells #[] 2) = A2 := ⟨_, rfl⟩
                  rw [eA2] at n0 hn0 ⊢
                  have hA2 := hA1.trans hn0
                  have N0 := Lib.hid (And.intro n0 hn0)
                  clear n0 hn0 eA2
                  refine hK.out _ _ (hA2) (fun hHeld => ?_)
                  clear hK K
                  try simp only [Act.put, List.getElem_toArray, List.getElem_cons_succ, List.getElem_cons_zero, List.setIfInBounds_toArray, List.set_cons_zero, List.set_cons_succ]
                  refine wpAnyH_ready (rs := [4]) (by kernel_rfl) (by simp) ?_
                  refine (AllReadyH.cons rfl (fun K hK => ?_) AllReadyH.nil)
                  all_goals try simp only [List.getElem_toArray, List.getElem_cons_succ, List.getElem_cons_zero]
                  rw [if_pos (by rfl)]
                  refine step_append2 (o := _) (a := _) (v := .slice (some ⟨A1.heap.size, 0, none⟩) 0 0) (u := .slice none 0 0) (l := ([] : List Int)) (l2 := ([] : List Int).take 0) (S := []) (w0 := wr) (.tmp 64) (.tmp 67) 44 idR elem91 hA2 (SlAt.empty N0.out.1 rfl) (Fresh.of (by omega)) (HU.out.1.chg hA2 (by simp)) hl1 (by omega) rfl rfl rfl ?_
                  intro v1 A3 hsA3 hA3 hFA3 hgA3
                  refine hK.out _ _ (hA3) (fun hHeld => ?_)
                  clear hK K
                  try simp only [Act.put, List.setIfInBounds_toArray, List.set_cons_zero, List.set_cons_succ]
                  have m6 : A3.heap[W.heap.size]? = some (.cells #[.int .i64 (o 3)] 2 (0, 0)) := (hgA3.block _ (blk_lt (N0.out.2.at_ N6.out.1 (by simp))) (by have := blk_lt N6.out.1; simp [Value.ownBlock]; omega)).trans (N0.out.2.at_ N6.out.1 (by simp))
                  refine wpAnyH_ready (rs := [7]) (by kernel_rfl) (by simp) ?_
                  refine (AllReadyH.cons rfl (fun K hK => ?_) AllReadyH.nil)
                  all_goals try simp only [List.getElem_toArray, List.getElem_cons_succ, List.getElem_cons_zero]
                  rw [if_pos (by rfl)]
                  refine step_append2 (o := _) (a := _) (v := v1) (u := .slice (some ⟨W.heap.size, 0, none⟩) 1 1) (l := [] ++ ([] : List Int).take 0) (l2 := [o 3]) (S := []) (w0 := wr) (.tmp 68) (.tmp 70) 44 idR elem91 hA3 hsA3 hFA3 (SrcAt.one (renc := idE) (a := o 3) (t := 2) (fr := (0, 0)) m6 1) hl2 (by omega) rfl rfl rfl ?_
                  intro v2 A4 hsA4 hA4 hFA4 hgA4
                  refine hK.out _ _ (hA4) (fun hHeld => ?_)
                  clear hK K
                  try simp only [Act.put, List.setIfInBounds_toArray, List.set_cons_zero, List.set_cons_succ]
                  refine wpAnyH_done (by kernel_rfl) ?_ _
                  simp only [cutQ]
                  go_wp2_with (at_builtin; go_must (refine wpL_append' rfl _ _ 44 rfl idR elem91 (w0 := wr) (l2 := ([] : List Int).drop 0) hA4 hsA4 hFA4 (HU.out.2.chg hA4 (by simp)) rfl rfl hl3 (by omega) ?_))
                  intro v3 W9 hs9 h9 hF9 hg9
                  have hs99 : SlAt 2 1 idE W9 v3 (([] : List Int).take 0 ++ [o 3] ++ ([] : List Int).drop 0) := by simpa using hs9
                  have hC9 : Chg [] w W9 := hC.trans h9
                  have hF99 : Fresh w.heap.size v3 := hF9.mono hC.size
                  have HS9 := Lib.hid hs99
                  clear hg9 h9 hF9 hHeld hs9 hs99
                  go_wp2_with fail
                  go_roundg (l.length - (k + 1) + 1)
                  case measure => rw [Hm.out]; omega
                  case rel => exact ⟨k + 1, _, by omega, rfl, by go_num, HS9.out, by rw [Ho.out.2]; exact HN.out, hF99, hC9⟩
              | some x =>
                obtain ⟨g5, rfl⟩ := hcp.2.2.2 x rfl
                have hcp := hcp.2.1
                have hU1 : SrcAt idE wr (.slice (some ⟨g5, 0, none⟩) j cc2) (out.take j) := hs2.src_take (by omega) _
                have hjl2 : j ≤ out.length := by omega
                have hz0 : out.length - j = 0 := by omega
                have hd0 : out.drop j = [] := by rw [List.drop_eq_nil_iff]; omega
                by_cases hcj : cc2 = j
                · subst hcj
                  have hU2 : SrcAt idE wr (.slice (some ⟨g5, 0, none⟩) 0 0) (out.drop cc2) := by rw [hd0]; exact SrcAt.nil
                  clear hje hcp hd0 hz0
                  have HU := Lib.hid (And.intro hU1 hU2)
                  clear hU1 hU2
                  go_wp2_with fail
                  refine wp_cutR (Chg [] wr) 11 (by kernel_rfl) (by kernel_rfl) (fun _ h => Chg.nil h) (fun W hW hS => ?_)
                  simp only [List.take_succ_cons, List.take_zero, List.drop_succ_cons, List.drop_zero]
                  refine takeH 1 (v := ?vv600) rfl (by kernel_rfl) (by kernel_rfl) (by kernel_rfl) (fun _ _ _ h => h) (by kernel_rfl) (fun Wx hSx => ?hy600) (by assumption) ?hrest600
                  case hy600 => go_simp; (try with_reducible rfl)
                  simp only [Act.put, List.getElem_toArray, List.getElem_cons_succ, List.getElem_cons_zero, List.setIfInBounds_toArray, List.set_cons_zero, List.set_cons_succ]
                  refine takeH 2 (v := ?vv603) rfl (by kernel_rfl) (by kernel_rfl) (by kernel_rfl) (fun _ _ _ h => h) (by kernel_rfl) (fun Wx hSx => ?hy603) (by assumption) ?hrest603
                  case hy603 => go_simp; (try with_reducible rfl)
                  simp only [Act.put, List.getElem_toArray, List.getElem_cons_succ, List.getElem_cons_zero, List.setIfInBounds_toArray, List.set_cons_zero, List.set_cons_succ]
                  refine takeH 3 (v := ?vv606) rfl (by kernel_rfl) (by kernel_rfl) (by kernel_rfl) (fun _ _ _ h => h) (by kernel_rfl) (fun Wx hSx => ?hy606) (by assumption) ?hrest606
                  case hy606 => go_simp; (try with_reducible rfl)
                  simp only [Act.put, List.getElem_toArray, List.getElem_cons_succ, List.getElem_cons_zero, List.setIfInBounds_toArray, List.set_cons_zero, List.set_cons_succ]
                  refine takeH 5 (v := ?vv609) rfl (by kernel_rfl) (by kernel_rfl) (by kernel_rfl) (fun _ _ _ h => h) (by kernel_rfl) (fun Wx hSx => ?hy609) (by assumption) ?hrest609
                  case hy609 => go_simp; (try with_reducible rfl)
                  simp only [Act.put, List.getElem_toArray, List.getElem_cons_succ, List.getElem_cons_zero, List.setIfInBounds_toArray, List.set_cons_zero, List.set_cons_succ]
                  refine takeH 8 (v := ?vv612) rfl (by kernel_rfl) (by kernel_rfl) (by kernel_rfl) (fun _ _ _ h => h) (by kernel_rfl) (fun Wx hSx => ?hy612) (by assumption) ?hrest612
                  case hy612 => go_simp; (try with_reducible rfl)
                  simp only [Act.put, List.getElem_toArray, List.getElem_cons_succ, List.getElem_cons_zero, List.setIfInBounds_toArray, List.set_cons_zero, List.set_cons_succ]
                  refine takeH 9 (v := ?vv615) rfl (by kernel_rfl) (by kernel_rfl) (by kernel_rfl) (fun _ _ _ h => h) (by kernel_rfl) (fun Wx hSx => ?hy615) (by assumption) ?hrest615
                  case hy615 => go_simp; (try with_reducible rfl)
                  simp only [Act.put, List.getElem_toArray, List.getElem_cons_succ, List.getElem_cons_zero, List.setIfInBounds_toArray, List.set_cons_zero, List.set_cons_succ]
                  refine takeH 10 (v := ?vv618) rfl (by kernel_rfl) (by kernel_rfl) (by kernel_rfl) (fun _ _ _ h => h) (by kernel_rfl) (fun Wx hSx => ?hy618) (by assumption) ?hrest618
                  case hy618 => go_simp; (try with_reducible rfl)
                  simp only [Act.put, List.getElem_toArray, List.getElem_cons_succ, List.getElem_cons_zero, List.setIfInBounds_toArray, List.set_cons_zero, List.set_cons_succ]
                  have hl1 : ([] : List Int).length + (out.take cc2).length ≤ 1000000 := by simp; omega
                  have hl2 : ([] ++ out.take cc2).length + [o 3].length ≤ 1000000 := by simp; omega
                  have hl3 : ([] ++ out.take cc2 ++ [o 3]).length + (out.drop cc2).length ≤ 1000000 := by simp; omega
                  refine wpAnyH_ready (rs := [0, 6]) (by kernel_rfl) (by simp) ?_
                  refine (AllReadyH.cons rfl (fun K hK => ?_) (AllReadyH.cons rfl (fun K hK => ?_) AllReadyH.nil))
                  all_goals try simp only [List.getElem_toArray, List.getElem_cons_succ, List.getElem_cons_zero]
                  · go_simp
                    have n0 := heap_alloc_new W (.cells #[] 2)
                    have hn0 := Chg.alloc [] W (.cells #[] 2)
                    have hz0 := hW.size
                    obtain ⟨A1, eA1⟩ : ∃ A1, W.alloc (.cells #[] 2) = A1 := ⟨_, rfl⟩
                    rw [eA1] at n0 hn0 ⊢
                    have hA1 := hW.trans hn0
                    have N0 := Lib.hid (And.intro n0 hn0)
                    clear n0 hn0 eA1
                    refine hK.out _ _ (hA1) (fun hHeld => ?_)
                    clear hK K
                    try simp only [Act.put, List.getElem_toArray, List.getElem_cons_succ, List.getElem_cons_zero, List.setIfInBounds_toArray, List.set_cons_zero, List.set_cons_succ]
                    refine wpAnyH_ready (rs := [4, 6]) (by kernel_rfl) (by simp) ?_
                    refine (AllReadyH.cons rfl (fun K hK => ?_) (AllReadyH.cons rfl (fun K hK => ?_) AllReadyH.nil))
                    all_goals try simp only [List.getElem_toArray, List.getElem_cons_succ, List.getElem_cons_zero]
                    · rw [if_pos (by rfl)]
                      refine step_append2 (o := _) (a := _) (v := .slice (some ⟨W.heap.size, 0, none⟩) 0 0) (u := .slice (some ⟨g5, 0, none⟩) cc2 cc2) (l := ([] : List Int)) (l2 := out.take cc2) (S := []) (w0 := wr) (.tmp 64) (.tmp 67) 44 idR elem91 hA1 (SlAt.empty N0.out.1 rfl) (Fresh.of (by omega)) (HU.out.1.chg hA1 (by simp)) hl1 (by omega) rfl rfl rfl ?_
                      intro v1 A2 hsA2 hA2 hFA2 hgA2
                      refine hK.out _ _ (hA2) (fun hHeld => ?_)
                      clear hK K
                      try simp only [Act.put, List.setIfInBounds_toArray, List.set_cons_zero, List.set_cons_succ]
                      refine wpAnyH_ready (rs := [6]) (by kernel_rfl) (by simp) ?_
                      refine (AllReadyH.cons rfl (fun K hK => ?_) AllReadyH.nil)
                      all_goals try simp only [List.getElem_toArray, List.getElem_cons_succ, List.getElem_cons_zero]
                      go_simp
                      have n6 := heap_alloc_new A2 (.cells #[.int .i64 (o 3)] 2)
                      have hn6 := Chg.alloc [] A2 (.cells #[.int .i64 (o 3)] 2)
                      obtain ⟨A3, eA3⟩ : ∃ A3, A2.alloc (.cells #[.int .i64 (o 3)] 2) = A3 := ⟨_, rfl⟩
                      rw [eA3] at n6 hn6 ⊢
                      have hA3 := hA2.trans hn6
                      have N6 := Lib.hid (And.intro n6 hn6)
                      clear n6 hn6 eA3
                      refine hK.out _ _ (hA3) (fun hHeld => ?_)
                      clear hK K
                      try simp only [Act.put, List.getElem_toArray, List.getElem_cons_succ, List.getElem_cons_zero, List.setIfInBounds_toArray, List.set_cons_zero, List.set_cons_succ]
                      refine wpAnyH_ready (rs := [7]) (by kernel_rfl) (by simp) ?_
                      refine (AllReadyH.cons rfl (fun K hK => ?_) AllReadyH.nil)
                      all_goals try simp only [List.getElem_toArray, List.getElem_cons_succ, List.getElem_cons_zero]
                      rw [if_pos (by rfl)]
                      refine step_append2 (o := _) (a := _) (v := v1) (u := .slice (some ⟨A2.heap.size, 0, none⟩) 1 1) (l := [] ++ out.take cc2) (l2 := [o 3]) (S := []) (w0 := wr) (.tmp 68) (.tmp 70) 44 idR elem91 hA3 (hsA2.chg N6.out.2 (by simp)) hFA2 (SrcAt.one (renc := idE) (a := o 3) (t := 2) (fr := (0, 0)) N6.out.1 1) hl2 (by omega) rfl rfl rfl ?_
                      intro v2 A4 hsA4 hA4 hFA4 hgA4
                      refine hK.out _ _ (hA4) (fun hHeld => ?_)
                      clear hK K
                      try simp only [Act.put, List.setIfInBounds_toArray, List.set_cons_zero, List.set_cons_succ]
                      refine wpAnyH_done (by kernel_rfl) ?_ _
                      simp only [cutQ]
                      go_wp2_with (at_builtin; go_must (refine wpL_append' rfl _ _ 44 rfl idR elem91 (w0 := wr) (l2 := out.drop cc2) hA4 hsA4 hFA4 (HU.out.2.chg hA4 (by simp)) rfl rfl hl3 (by omega) ?_))
                      intro v3 W9 hs9 h9 hF9 hg9
                      have hs99 : SlAt 2 1 idE W9 v3 (out.take cc2 ++ [o 3] ++ out.drop cc2) := by simpa using hs9
                      have hC9 : Chg [] w W9 := hC.trans h9
                      have hF99 : Fresh w.heap.size v3 := hF9.mono hC.size
                      have HS9 := Lib.hid hs99
                      clear hg9 h9 hF9 hHeld hs9 hs99
                      go_wp2_with fail
                      go_roundg (l.length - (k + 1) + 1)
                      case measure => rw [Hm.out]; omega
                      case rel => exact ⟨k + 1, _, by omega, rfl, by go_num, HS9.out, by rw [Ho.out.2]; exact HN.out, hF99, hC9⟩
                    · go_simp
                      have n6 := heap_alloc_new A1 (.cells #[.int .i64 (o 3)] 2)
                      have hn6 := Chg.alloc [] A1 (.cells #[.int .i64 (o 3)] 2)
                      obtain ⟨A2, eA2⟩ : ∃ A2, A1.alloc (.cells #[.int .i64 (o 3)] 2) = A2 := ⟨_, rfl⟩
                      rw [eA2] at n6 hn6 ⊢
                      have hA2 := hA1.trans hn6
                      have N6 := Lib.hid (And.intro n6 hn6)
                      clear n6 hn6 eA2
                      refine hK.out _ _ (hA2) (fun hHeld => ?_)
                      clear hK K
                      try simp only [Act.put, List.getElem_toArray, List.getElem_cons_succ, List.getElem_cons_zero, List.setIfInBounds_toArray, List.set_cons_zero, List.set_cons_succ]
                      refine wpAnyH_ready (rs := [4]) (by kernel_rfl) (by simp) ?_
                      refine (AllReadyH.cons rfl (fun K hK => ?_) AllReadyH.nil)
                      all_goals try simp only [List.getElem_toArray, List.getElem_cons_succ, List.getElem_cons_zero]
                      rw [if_pos (by rfl)]
                      refine step_append2 (o := _) (a := _) (v := .slice (some ⟨W.heap.size, 0, none⟩) 0 0) (u := .slice (some ⟨g5, 0, none⟩) cc2 cc2) (l := ([] : List Int)) (l2 := out.take cc2) (S := []) (w0 := wr) (.tmp 64) (.tmp 67) 44 idR elem91 hA2 (SlAt.empty (N6.out.2.at_ N0.out.1 (by simp)) rfl) (Fresh.of (by omega)) (HU.out.1.chg hA2 (by simp)) hl1 (by omega) rfl rfl rfl ?_
                      intro v1 A3 hsA3 hA3 hFA3 hgA3
                      refine hK.out _ _ (hA3) (fun hHeld => ?_)
                      clear hK K
                      try simp only [Act.put, List.setIfInBounds_toArray, List.set_cons_zero, List.set_cons_succ]
                      have m6 : A3.heap[A1.heap.size]? = some (.cells #[.int .i64 (o 3)] 2 (0, 0)) := (hgA3.block _ (blk_lt N6.out.1) (by have := blk_lt N0.out.1; simp [Value.ownBlock]; omega)).trans N6.out.1
                      refine wpAnyH_ready (rs := [7]) (by kernel_rfl) (by simp) ?_
                      refine (AllReadyH.cons rfl (fun K hK => ?_) AllReadyH.nil)
                      all_goals try simp only [List.getElem_toArray, List.getElem_cons_succ, List.getElem_cons_zero]
                      rw [if_pos (by rfl)]
                      refine step_append2 (o := _) (a := _) (v := v1) (u := .slice (some ⟨A1.heap.size, 0, none⟩) 1 1) (l := [] ++ out.take cc2) (l2 := [o 3]) (S := []) (w0 := wr) (.tmp 68) (.tmp 70) 44 idR elem91 hA3 hsA3 hFA3 (SrcAt.one (renc := idE) (a := o 3) (t := 2) (fr := (0, 0)) m6 1) hl2 (by omega) rfl rfl rfl ?_
                      intro v2 A4 hsA4 hA4 hFA4 hgA4
                      refine hK.out _ _ (hA4) (fun hHeld => ?_)
                      clear hK K
                      try simp only [Act.put, List.setIfInBounds_toArray, List.set_cons_zero, List.set_cons_succ]
                      refine wpAnyH_done (by kernel_rfl) ?_ _
                      simp only [cutQ]
                      go_wp2_with (at_builtin; go_must (refine wpL_append' rfl _ _ 44 rfl idR elem91 (w0 := wr) (l2 := out.drop cc2) hA4 hsA4 hFA4 (HU.out.2.chg hA4 (by simp)) rfl rfl hl3 (by omega) ?_))
                      intro v3 W9 hs9 h9 hF9 hg9
                      have hs99 : SlAt 2 1 idE W9 v3 (out.take cc2 ++ [o 3] ++ out.drop cc2) := by simpa using hs9
                      have hC9 : Chg [] w W9 := hC.trans h9
                      have hF99 : Fresh w.heap.size v3 := hF9.mono hC.size
                      have HS9 := Lib.hid hs99
                      clear hg9 h9 hF9 hHeld hs9 hs99
                      go_wp2_with fail
                      go_roundg (l.length - (k + 1) + 1)
                      case measure => rw [Hm.out]; omega
                      case rel => exact ⟨k + 1, _, by omega, rfl, by go_num, HS9.out, by rw [Ho.out.2]; exact HN.out, hF99, hC9⟩
                  · go_simp
                    have n6 := heap_alloc_new W (.cells #[.int .i64 (o 3)] 2)
                    have hn6 := Chg.alloc [] W (.cells #[.int .i64 (o 3)] 2)
                    obtain ⟨A1, eA1⟩ : ∃ A1, W.alloc (.cells #[.int .i64 (o 3)] 2) = A1 := ⟨_, rfl⟩
                    rw [eA1] at n6 hn6 ⊢
                    have hA1 := hW.trans hn6
                    have N6 := Lib.hid (And.intro n6 hn6)
                    clear n6 hn6 eA1
                    refine hK.out _ _ (hA1) (fun hHeld => ?_)
                    clear hK K
                    try simp only [Act.put, List.getElem_toArray, List.getElem_cons_succ, List.getElem_cons_zero, List.setIfInBounds_toArray, List.set_cons_zero, List.set_cons_succ]
                    refine wpAnyH_ready (rs := [0]) (by kernel_rfl) (by simp) ?_
                    refine (AllReadyH.cons rfl (fun K hK => ?_) AllReadyH.nil)
                    all_goals try simp only [List.getElem_toArray, List.getElem_cons_zero]
                    go_simp
                    have n0 := heap_alloc_new A1 (.cells #[] 2)
                    have hn0 := Chg.alloc [] A1 (.cells #[] 2)
                    have hz0 := hA1.size
                    obtain ⟨A2, eA2⟩ : ∃ A2, A1.alloc (.cells #[] 2) = A2 := ⟨_, rfl⟩
                    rw [eA2] at n0 hn0 ⊢
                    have hA2 := hA1.trans hn0
                    have N0 := Lib.hid (And.intro n0 hn0)
                    clear n0 hn0 eA2
                    refine hK.out _ _ (hA2) (fun hHeld => ?_)
                    clear hK K
                    try simp only [Act.put, List.getElem_toArray, List.getElem_cons_succ, List.getElem_cons_zero, List.setIfInBounds_toArray, List.set_cons_zero, List.set_cons_succ]
                    refine wpAnyH_ready (rs := [4]) (by kernel_rfl) (by simp) ?_
                    refine (AllReadyH.cons rfl (fun K hK => ?_) AllReadyH.nil)
                    all_goals try simp only [List.getElem_toArray, List.getElem_cons_succ, List.getElem_cons_zero]
                    rw [if_pos (by rfl)]
                    refine step_append2 (o := _) (a := _) (v := .slice (some ⟨A1.heap.size, 0, none⟩) 0 0) (u := .slice (some ⟨g5, 0, none⟩) cc2 cc2) (l := ([] : List Int)) (l2 := out.take cc2) (S := []) (w0 := wr) (.tmp 64) (.tmp 67) 44 idR elem91 hA2 (SlAt.empty N0.out.1 rfl) (Fresh.of (by omega)) (HU.out.1.chg hA2 (by simp)) hl1 (by omega) rfl rfl rfl ?_
                    intro v1 A3 hsA3 hA3 hFA3 hgA3
                    refine hK.out _ _ (hA3) (fun hHeld => ?_)
                    clear hK K
                    try simp only [Act.put, List.setIfInBounds_toArray, List.set_cons_zero, List.set_cons_succ]
                    have m6 : A3.heap[W.heap.size]? = some (.cells #[.int .i64 (o 3)] 2 (0, 0)) := (hgA3.block _ (blk_lt (N0.out.2.at_ N6.out.1 (by simp))) (by have := blk_lt N6.out.1; simp [Value.ownBlock]; omega)).trans (N0.out.2.at_ N6.out.1 (by simp))
                    refine wpAnyH_ready (rs := [7]) (by kernel_rfl) (by simp) ?_
                    refine (AllReadyH.cons rfl (fun K hK => ?_) AllReadyH.nil)
                    all_goals try simp only [List.getElem_toArray, List.getElem_cons_succ, List.getElem_cons_zero]
                    rw [if_pos (by rfl)]
                    refine step_append2 (o := _) (a := _) (v := v1) (u := .slice (some ⟨W.heap.size, 0, none⟩) 1 1) (l := [] ++ out.take cc2) (l2 := [o 3]) (S := []) (w0 := wr) (.tmp 68) (.tmp 70) 44 idR elem91 hA3 hsA3 hFA3 (SrcAt.one (renc := idE) (a := o 3) (t := 2) (fr := (0, 0)) m6 1) hl2 (by omega) rfl rfl rfl ?_
                    intro v2 A4 hsA4 hA4 hFA4 hgA4
                    refine hK.out _ _ (hA4) (fun hHeld => ?_)
                    clear hK K
                    try simp only [Act.put, List.setIfInBounds_toArray, List.set_cons_zero, List.set_cons_succ]
                    refine wpAnyH_done (by kernel_rfl) ?_ _
                    simp only [cutQ]
                    go_wp2_with (at_builtin; go_must (refine wpL_append' rfl _ _ 44 rfl idR elem91 (w0 := wr) (l2 := out.drop cc2) hA4 hsA4 hFA4 (HU.out.2.chg hA4 (by simp)) rfl rfl hl3 (by omega) ?_))
                    intro v3 W9 hs9 h9 hF9 hg9
                    have hs99 : SlAt 2 1 idE W9 v3 (out.take cc2 ++ [o 3] ++ out.drop cc2) := by simpa using hs9
                    have hC9 : Chg [] w W9 := hC.trans h9
                    have hF99 : Fresh w.heap.size v3 := hF9.mono hC.size
                    have HS9 := Lib.hid hs99
                    clear hg9 h9 hF9 hHeld hs9 hs99
                    go_wp2_with fail
                    go_roundg (l.length - (k + 1) + 1)
                    case measure => rw [Hm.out]; omega
                    case rel => exact ⟨k + 1, _, by omega, rfl, by go_num, HS9.out, by rw [Ho.out.2]; exact HN.out, hF99, hC9⟩
                · have hjc : j ≤ cc2 := by omega
                  have hjn : ¬ cc2 = j := hcj
                  have hU2 : SrcAt idE wr (.slice (some ⟨g5, j, none⟩) (out.length - j) (cc2 - j)) (out.drop j) := by rw [hz0, hd0]; exact SrcAt.nil
                  clear hje hcp hd0 hz0 hcj
                  have HU := Lib.hid (And.intro hU1 hU2)
                  clear hU1 hU2
                  go_wp2_with fail
                  refine wp_cutR (Chg [] wr) 11 (by kernel_rfl) (by kernel_rfl) (fun _ h => Chg.nil h) (fun W hW hS => ?_)
                  simp only [List.take_succ_cons, List.take_zero, List.drop_succ_cons, List.drop_zero]
                  refine takeH 1 (v := ?vv794) rfl (by kernel_rfl) (by kernel_rfl) (by kernel_rfl) (fun _ _ _ h => h) (by kernel_rfl) (fun Wx hSx => ?hy794) (by assumption) ?hrest794
                  case hy794 => go_simp; (try with_reducible rfl)
                  simp only [Act.put, List.getElem_toArray, List.getElem_cons_succ, List.getElem_cons_zero, List.setIfInBounds_toArray, List.set_cons_zero, List.set_cons_succ]
                  refine takeH 2 (v := ?vv797) rfl (by kernel_rfl) (by kernel_rfl) (by kernel_rfl) (fun _ _ _ h => h) (by kernel_rfl) (fun Wx hSx => ?hy797) (by assumption) ?hrest797
                  case hy797 => go_simp; (try with_reducible rfl)
                  simp only [Act.put, List.getElem_toArray, List.getElem_cons_succ, List.getElem_cons_zero, List.setIfInBounds_toArray, List.set_cons_zero, List.set_cons_succ]
                  refine takeH 3 (v := ?vv800) rfl (by kernel_rfl) (by kernel_rfl) (by kernel_rfl) (fun _ _ _ h => h) (by kernel_rfl) (fun Wx hSx => ?hy800) (by assumption) ?hrest800
                  case hy800 => go_simp; (try with_reducible rfl)
                  simp only [Act.put, List.getElem_toArray, List.getElem_cons_succ, List.getElem_cons_zero, List.setIfInBounds_toArray, List.set_cons_zero, List.set_cons_succ]
                  refine takeH 5 (v := ?vv803) rfl (by kernel_rfl) (by kernel_rfl) (by kernel_rfl) (fun _ _ _ h => h) (by kernel_rfl) (fun Wx hSx => ?hy803) (by assumption) ?hrest803
                  case hy803 => go_simp; (try with_reducible rfl)
                  simp only [Act.put, List.getElem_toArray, List.getElem_cons_succ, List.getElem_cons_zero, List.setIfInBounds_toArray, List.set_cons_zero, List.set_cons_succ]
                  refine takeH 8 (v := ?vv806) rfl (by kernel_rfl) (by kernel_rfl) (by kernel_rfl) (fun _ _ _ h => h) (by kernel_rfl) (fun Wx hSx => ?hy806) (by assumption) ?hrest806
                  case hy806 => go_simp; (try with_reducible rfl)
                  simp only [Act.put, List.getElem_toArray, List.getElem_cons_succ, List.getElem_cons_zero, List.setIfInBounds_toArray, List.set_cons_zero, List.set_cons_succ]
                  refine takeH 9 (v := ?vv809) rfl (by kernel_rfl) (by kernel_rfl) (by kernel_rfl) (fun _ _ _ h => h) (by kernel_rfl) (fun Wx hSx => ?hy809) (by assumption) ?hrest809
                  case hy809 => go_simp; (try with_reducible rfl)
                  simp only [Act.put, List.getElem_toArray, List.getElem_cons_succ, List.getElem_cons_zero, List.setIfInBounds_toArray, List.set_cons_zero, List.set_cons_succ]
                  refine takeH 10 (v := ?vv812) rfl (by kernel_rfl) (by kernel_rfl) (by kernel_rfl) (fun _ _ _ h => h) (by kernel_rfl) (fun Wx hSx => ?hy812) (by assumption) ?hrest812
                  case hy812 => go_simp; (try with_reducible rfl)
                  simp only [Act.put, List.getElem_toArray, List.getElem_cons_succ, List.getElem_cons_zero, List.setIfInBounds_toArray, List.set_cons_zero, List.set_cons_succ]
                  have hl1 : ([] : List Int).length + (out.take j).length ≤ 1000000 := by simp; omega
                  have hl2 : ([] ++ out.take j).length + [o 3].length ≤ 1000000 := by simp; omega
                  have hl3 : ([] ++ out.take j ++ [o 3]).length + (out.drop j).length ≤ 1000000 := by simp; omega
                  refine wpAnyH_ready (rs := [0, 6]) (by kernel_rfl) (by simp) ?_
                  refine (AllReadyH.cons rfl (fun K hK => ?_) (AllReadyH.cons rfl (fun K hK => ?_) AllReadyH.nil))
                  all_goals try simp only [List.getElem_toArray, List.getElem_cons_succ, List.getElem_cons_zero]
                  · go_simp
                    have n0 := heap_alloc_new W (.cells #[] 2)
                    have hn0 := Chg.alloc [] W (.cells #[] 2)
                    have hz0 := hW.size
                    obtain ⟨A1, eA1⟩ : ∃ A1, W.alloc (.cells #[] 2) = A1 := ⟨_, rfl⟩
                    rw [eA1] at n0 hn0 ⊢
                    have hA1 := hW.trans hn0
                    have N0 := Lib.hid (And.intro n0 hn0)
                    clear n0 hn0 eA1
                    refine hK.out _ _ (hA1) (fun hHeld => ?_)
                    clear hK K
                    try simp only [Act.put, List.getElem_toArray, List.getElem_cons_succ, List.getElem_cons_zero, List.setIfInBounds_toArray, List.set_cons_zero, List.set_cons_succ]
                    refine wpAnyH_ready (rs := [4, 6]) (by kernel_rfl) (by simp) ?_
                    refine (AllReadyH.cons rfl (fun K hK => ?_) (AllReadyH.cons rfl (fun K hK => ?_) AllReadyH.nil))
                    all_goals try simp only [List.getElem_toArray, List.getElem_cons_succ, List.getElem_cons_zero]
                    · rw [if_pos (by rfl)]
                      refine step_append2 (o := _) (a := _) (v := .slice (some ⟨W.heap.size, 0, none⟩) 0 0) (u := .slice (some ⟨g5, 0, none⟩) j cc2) (l := ([] : List Int)) (l2 := out.take j) (S := []) (w0 := wr) (.tmp 64) (.tmp 67) 44 idR elem91 hA1 (SlAt.empty N0.out.1 rfl) (Fresh.of (by omega)) (HU.out.1.chg hA1 (by simp)) hl1 (by omega) rfl rfl rfl ?_
                      intro v1 A2 hsA2 hA2 hFA2 hgA2
                      refine hK.out _ _ (hA2) (fun hHeld => ?_)
                      clear hK K
                      try simp only [Act.put, List.setIfInBounds_toArray, List.set_cons_zero, List.set_cons_succ]
                      refine wpAnyH_ready (rs := [6]) (by kernel_rfl) (by simp) ?_
                      refine (AllReadyH.cons rfl (fun K hK => ?_) AllReadyH.nil)
                      all_goals try simp only [List.getElem_toArray, List.getElem_cons_succ, List.getElem_cons_zero]
                      go_simp
                      have n6 := heap_alloc_new A2 (.cells #[.int .i64 (o 3)] 2)
                      have hn6 := Chg.alloc [] A2 (.cells #[.int .i64 (o 3)] 2)
                      obtain ⟨A3, eA3⟩ : ∃ A3, A2.alloc (.cells #[.int .i64 (o 3)] 2) = A3 := ⟨_, rfl⟩
                      rw [eA3] at n6 hn6 ⊢
                      have hA3 := hA2.trans hn6
                      have N6 := Lib.hid (And.intro n6 hn6)
                      clear n6 hn6 eA3
                      refine hK.out _ _ (hA3) (fun hHeld => ?_)
                      clear hK K
                      try simp only [Act.put, List.getElem_toArray, List.getElem_cons_succ, List.getElem_cons_zero, List.setIfInBounds_toArray, List.set_cons_zero, List.set_cons_succ]
                      refine wpAnyH_ready (rs := [7]) (by kernel_rfl) (by simp) ?_
                      refine (AllReadyH.cons rfl (fun K hK => ?_) AllReadyH.nil)
                      all_goals try simp only [List.getElem_toArray, List.getElem_cons_succ, List.getElem_cons_zero]
                      rw [if_pos (by rfl)]
                      refine step_append2 (o := _) (a := _) (v := v1) (u := .slice (some ⟨A2.heap.size, 0, none⟩) 1 1) (l := [] ++ out.take j) (l2 := [o 3]) (S := []) (w0 := wr) (.tmp 68) (.tmp 70) 44 idR elem91 hA3 (hsA2.chg N6.out.2 (by simp)) hFA2 (SrcAt.one (renc := idE) (a := o 3) (t := 2) (fr := (0, 0)) N6.out.1 1) hl2 (by omega) rfl rfl rfl ?_
                      intro v2 A4 hsA4 hA4 hFA4 hgA4
                      refine hK.out _ _ (hA4) (fun hHeld => ?_)
                      clear hK K
                      try simp only [Act.put, List.setIfInBounds_toArray, List.set_cons_zero, List.set_cons_succ]
                      refine wpAnyH_done (by kernel_rfl) ?_ _
                      simp only [cutQ]
                      go_wp2_with (at_builtin; go_must (refine wpL_append' rfl _ _ 44 rfl idR elem91 (w0 := wr) (l2 := out.drop j) hA4 hsA4 hFA4 (HU.out.2.chg hA4 (by simp)) rfl rfl hl3 (by omega) ?_))
                      intro v3 W9 hs9 h9 hF9 hg9
                      have hs99 : SlAt 2 1 idE W9 v3 (out.take j ++ [o 3] ++ out.drop j) := by simpa using hs9
                      have hC9 : Chg [] w W9 := hC.trans h9
                      have hF99 : Fresh w.heap.size v3 := hF9.mono hC.size
                      have HS9 := Lib.hid hs99
                      clear hg9 h9 hF9 hHeld hs9 hs99
                      go_wp2_with fail
                      go_roundg (l.length - (k + 1) + 1)
                      case measure => rw [Hm.out]; omega
                      case rel => exact ⟨k + 1, _, by omega, rfl, by go_num, HS9.out, by rw [Ho.out.2]; exact HN.out, hF99, hC9⟩
                    · go_simp
                      have n6 := heap_alloc_new A1 (.cells #[.int .i64 (o 3)] 2)
                      have hn6 := Chg.alloc [] A1 (.cells #[.int .i64 (o 3)] 2)
                      obtain ⟨A2, eA2⟩ : ∃ A2, A1.alloc (.cells #[.int .i64 (o 3)] 2) = A2 := ⟨_, rfl⟩
                      rw [eA2] at n6 hn6 ⊢
                      have hA2 := hA1.trans hn6
                      have N6 := Lib.hid (And.intro n6 hn6)
                      clear n6 hn6 eA2
                      refine hK.out _ _ (hA2) (fun hHeld => ?_)
                      clear hK K
                      try simp only [Act.put, List.getElem_toArray, List.getElem_cons_succ, List.getElem_cons_zero, List.setIfInBounds_toArray, List.set_cons_zero, List.set_cons_succ]
                      refine wpAnyH_ready (rs := [4]) (by kernel_rfl) (by simp) ?_
                      refine (AllReadyH.cons rfl (fun K hK => ?_) AllReadyH.nil)
                      all_goals try simp only [List.getElem_toArray, List.getElem_cons_succ, List.getElem_cons_zero]
                      rw [if_pos (by rfl)]
                      refine step_append2 (o := _) (a := _) (v := .slice (some ⟨W.heap.size, 0, none⟩) 0 0) (u := .slice (some ⟨g5, 0, none⟩) j cc2) (l := ([] : List Int)) (l2 := out.take j) (S := []) (w0 := wr) (.tmp 64) (.tmp 67) 44 idR elem91 hA2 (SlAt.empty (N6.out.2.at_ N0.out.1 (by simp)) rfl) (Fresh.of (by omega)) (HU.out.1.chg hA2 (by simp)) hl1 (by omega) rfl rfl rfl ?_
                      intro v1 A3 hsA3 hA3 hFA3 hgA3
                      refine hK.out _ _ (hA3) (fun hHeld => ?_)
                      clear hK K
                      try simp only [Act.put, List.setIfInBounds_toArray, List.set_cons_zero, List.set_cons_succ]
                      have m6 : A3.heap[A1.heap.size]? = some (.cells #[.int .i64 (o 3)] 2 (0, 0)) := (hgA3.block _ (blk_lt N6.out.1) (by have := blk_lt N0.out.1; simp [Value.ownBlock]; omega)).trans N6.out.1
                      refine wpAnyH_ready (rs := [7]) (by kernel_rfl) (by simp) ?_
                      refine (AllReadyH.cons rfl (fun K hK => ?_) AllReadyH.nil)
                      all_goals try simp only [List.getElem_toArray, List.getElem_cons_succ, List.getElem_cons_zero]
                      rw [if_pos (by rfl)]
                      refine step_append2 (o := _) (a := _) (v := v1) (u := .slice (some ⟨A1.heap.size, 0, none⟩) 1 1) (l := [] ++ out.take j) (l2 := [o 3]) (S := []) (w0 := wr) (.tmp 68) (.tmp 70) 44 idR elem91 hA3 hsA3 hFA3 (SrcAt.one (renc := idE) (a := o 3) (t := 2) (fr := (0, 0)) m6 1) hl2 (by omega) rfl rfl rfl ?_
                      intro v2 A4 hsA4 hA4 hFA4 hgA4
                      refine hK.out _ _ (hA4) (fun hHeld => ?_)
                      clear hK K
                      try simp only [Act.put, List.setIfInBounds_toArray, List.set_cons_zero, List.set_cons_succ]
                      refine wpAnyH_done (by kernel_rfl) ?_ _
                      simp only [cutQ]
                      go_wp2_with (at_builtin; go_must (refine wpL_append' rfl _ _ 44 rfl idR elem91 (w0 := wr) (l2 := out.drop j) hA4 hsA4 hFA4 (HU.out.2.chg hA4 (by simp)) rfl rfl hl3 (by omega) ?_))
                      intro v3 W9 hs9 h9 hF9 hg9
                      have hs99 : SlAt 2 1 idE W9 v3 (out.take j ++ [o 3] ++ out.drop j) := by simpa using hs9
                      have hC9 : Chg [] w W9 := hC.trans h9
                      have hF99 : Fresh w.heap.size v3 := hF9.mono hC.size
                      have HS9 := Lib.hid hs99
                      clear hg9 h9 hF9 hHeld hs9 hs99
                      go_wp2_with fail
                      go_roundg (l.length - (k + 1) + 1)
                      case measure => rw [Hm.out]; omega
                      case rel => exact ⟨k + 1, _, by omega, rfl, by go_num, HS9.out, by rw [Ho.out.2]; exact HN.out, hF99, hC9⟩
                  · go_simp
                    have n6 := heap_alloc_new W (.cells #[.int .i64 (o 3)] 2)
                    have hn6 := Chg.alloc [] W (.cells #[.int .i64 (o 3)] 2)
                    obtain ⟨A1, eA1⟩ : ∃ A1, W.alloc (.cells #[.int .i64 (o 3)] 2) = A1 := ⟨_, rfl⟩
                    rw [eA1] at n6 hn6 ⊢
                    have hA1 := hW.trans hn6
                    have N6 := Lib.hid (And.intro n6 hn6)
                    clear n6 hn6 eA1
                    refine hK.out _ _ (hA1) (fun hHeld => ?_)
                    clear hK K
                    try simp only [Act.put, List.getElem_toArray, List.getElem_cons_succ, List.getElem_cons_zero, List.setIfInBounds_toArray, List.set_cons_zero, List.set_cons_succ]
                    refine wpAnyH_ready (rs := [0]) (by kernel_rfl) (by simp) ?_
                    refine (AllReadyH.cons rfl (fun K hK => ?_) AllReadyH.nil)
                    all_goals try simp only [List.getElem_toArray, List.getElem_cons_zero]
                    go_simp
                    have n0 := heap_alloc_new A1 (.cells #[] 2)
                    have hn0 := Chg.alloc [] A1 (.cells #[] 2)
                    have hz0 := hA1.size
                    obtain ⟨A2, eA2⟩ : ∃ A2, A1.alloc (.cells #[] 2) = A2 := ⟨_, rfl⟩
                    rw [eA2] at n0 hn0 ⊢
                    have hA2 := hA1.trans hn0
                    have N0 := Lib.hid (And.intro n0 hn0)
                    clear n0 hn0 eA2
                    refine hK.out _ _ (hA2) (fun hHeld => ?_)
                    clear hK K
                    try simp only [Act.put, List.getElem_toArray, List.getElem_cons_succ, List.getElem_cons_zero, List.setIfInBounds_toArray, List.set_cons_zero, List.set_cons_succ]
                    refine wpAnyH_ready (rs := [4]) (by kernel_rfl) (by simp) ?_
                    refine (AllReadyH.cons rfl (fun K hK => ?_) AllReadyH.nil)
                    all_goals try simp only [List.getElem_toArray, List.getElem_cons_succ, List.getElem_cons_zero]
                    rw [if_pos (by rfl)]
                    refine step_append2 (o := _) (a := _) (v := .slice (some ⟨A1.heap.size, 0, none⟩) 0 0) (u := .slice (some ⟨g5, 0, none⟩) j cc2) (l := ([] : List Int)) (l2 := out.take j) (S := []) (w0 := wr) (.tmp 64) (.tmp 67) 44 idR elem91 hA2 (SlAt.empty N0.out.1 rfl) (Fresh.of (by omega)) (HU.out.1.chg hA2 (by simp)) hl1 (by omega) rfl rfl rfl ?_
                    intro v1 A3 hsA3 hA3 hFA3 hgA3
                    refine hK.out _ _ (hA3) (fun hHeld => ?_)
                    clear hK K
                    try simp only [Act.put, List.setIfInBounds_toArray, List.set_cons_zero, List.set_cons_succ]
                    have m6 : A3.heap[W.heap.size]? = some (.cells #[.int .i64 (o 3)] 2 (0, 0)) := (hgA3.block _ (blk_lt (N0.out.2.at_ N6.out.1 (by simp))) (by have := blk_lt N6.out.1; simp [Value.ownBlock]; omega)).trans (N0.out.2.at_ N6.out.1 (by simp))
                    refine wpAnyH_ready (rs := [7]) (by kernel_rfl) (by simp) ?_
                    refine (AllReadyH.cons rfl (fun K hK => ?_) AllReadyH.nil)
                    all_goals try simp only [List.getElem_toArray, List.getElem_cons_succ, List.getElem_cons_zero]
                    rw [if_pos (by rfl)]
                    refine step_append2 (o := _) (a := _) (v := v1) (u := .slice (some ⟨W.heap.size, 0, none⟩) 1 1) (l := [] ++ out.take j) (l2 := [o 3]) (S := []) (w0 := wr) (.tmp 68) (.tmp 70) 44 idR elem91 hA3 hsA3 hFA3 (SrcAt.one (renc := idE) (a := o 3) (t := 2) (fr := (0, 0)) m6 1) hl2 (by omega) rfl rfl rfl ?_
                    intro v2 A4 hsA4 hA4 hFA4 hgA4
                    refine hK.out _ _ (hA4) (fun hHeld => ?_)
                    clear hK K
                    try simp only [Act.put, List.setIfInBounds_toArray, List.set_cons_zero, List.set_cons_succ]
                    refine wpAnyH_done (by kernel_rfl) ?_ _
                    simp only [cutQ]
                    go_wp2_with (at_builtin; go_must (refine wpL_append' rfl _ _ 44 rfl idR elem91 (w0 := wr) (l2 := out.drop j) hA4 hsA4 hFA4 (HU.out.2.chg hA4 (by simp)) rfl rfl hl3 (by omega) ?_))
                    intro v3 W9 hs9 h9 hF9 hg9
                    have hs99 : SlAt 2 1 idE W9 v3 (out.take j ++ [o 3] ++ out.drop j) := by simpa using hs9
                    have hC9 : Chg [] w W9 := hC.trans h9
                    have hF99 : Fresh w.heap.size v3 := hF9.mono hC.size
                    have HS9 := Lib.hid hs99
                    clear hg9 h9 hF9 hHeld hs9 hs99
                    go_wp2_with fail
                    go_roundg (l.length - (k + 1) + 1)
                    case measure => rw [Hm.out]; omega
                    case rel => exact ⟨k + 1, _, by omega, rfl, by go_num, HS9.out, by rw [Ho.out.2]; exact HN.out, hF99, hC9⟩
          · have t1 : decide (o 3 ≤ hi) = false := decide_eq_false h1
            have HN := Lib.hid (ins_old HPi.out (o := o) (.inl (fun hk => h1 hk.2)))
            clear h1 h0
            go_wp2_with fail
            go_roundg (l.length - (k + 1) + 1)
            case measure => rw [Hm.out]; omega
            case rel => exact ⟨k + 1, out, by omega, rfl, by go_num, hs2, by rw [Ho.out.2]; exact HN.out, hF, hC⟩
        · have t0 : decide (o 3 ≥ lo) = false := decide_eq_false h0
          have HN := Lib.hid (ins_old HPi.out (o := o) (.inl (fun hk => h0 hk.1)))
          clear h0
          go_wp2_with fail
          go_roundg (l.length - (k + 1) + 1)
          case measure => rw [Hm.out]; omega
          case rel => exact ⟨k + 1, out, by omega, rfl, by go_num, hs2, by rw [Ho.out.2]; exact HN.out, hF, hC⟩
    · have hkn : k = l.length := by omega
      subst hkn
      rw [List.take_length] at hP
      go_wp2_with fail
      go_ret
      exact ⟨_, out, rfl, hs2, hP, hF, hC⟩
end Go.Proofs.YtdcjfaplgpeonaaGreat

/-
  The reference's auction: which prices are allowed.
-/
namespace Go.Proofs.YtdcjfaplgpeonaaGreat
open Go.RowKit Go.Dm
attribute [local go_sem] Oper.semAt_some

theorem has_ps (L : List Ord) (q : Int) : hasP L q = true ↔ q ∈ psO L := by
  unfold hasP psO
  rw [List.any_eq_true, List.mem_map]
  constructor
  · rintro ⟨o, ho, h⟩; exact ⟨o, ho, by simpa using h⟩
  · rintro ⟨o, ho, h⟩; exact ⟨o, ho, by simpa using h⟩
/-- The first k prices, and the nearest one once it has been put. -/
structure PutIs (l : List Int) (near : Int) (k : Nat) (put : Bool) (acc : List Int) : Prop where
  rise : acc.Pairwise (· < ·)
  all : ∀ q, q ∈ acc ↔ q ∈ l.take k ∨ (put = true ∧ q = near)
  yes : put = true → ∃ x ∈ l.take k, near ≤ x
  no : put = false → ∀ x ∈ l.take k, x < near
theorem put_len {l : List Int} {near : Int} {k : Nat} {put : Bool} {acc : List Int} (h : PutIs l near k put acc) : acc.length ≤ k + 1 := by
  have hn : acc.Nodup := h.rise.imp (fun h => by omega)
  have := List.Nodup.length_le_of_subset hn (l₂ := near :: l.take k) (fun q hq => by
    rcases (h.all q).1 hq with h1 | h1
    · exact List.mem_cons_of_mem _ h1
    · simp [h1.2])
  rw [List.length_cons, List.length_take] at this
  omega
theorem take_lt {l : List Int} (hr : l.Pairwise (· < ·)) {k : Nat} {x : Int} (hx : l[k]? = some x) : ∀ y ∈ l.take k, y < x := fun y hy => by
  obtain ⟨t, ht⟩ := List.mem_iff_getElem?.1 hy
  rw [List.getElem?_take] at ht
  split at ht
  · rename_i hlt; exact rise_le hr ht hx hlt
  · cases ht
theorem app_rise {acc : List Int} {x : Int} (h : acc.Pairwise (· < ·)) (hx : ∀ y ∈ acc, y < x) : (acc ++ [x]).Pairwise (· < ·) :=
  List.pairwise_append.2 ⟨h, by simp, fun a ha b hb => by simp at hb; subst hb; exact hx a ha⟩
/-- The next price stands below. -/
theorem PutIs.below {l : List Int} {near : Int} {k : Nat} {acc : List Int} {x : Int} (h : PutIs l near k false acc) (hr : l.Pairwise (· < ·)) (hx : l[k]? = some x) (hlt : x < near) : PutIs l near (k + 1) false (acc ++ [x]) := by
  have ht := take_lt hr hx
  have hT : ∀ q, q ∈ l.take (k + 1) ↔ q ∈ l.take k ∨ q = x := fun q => by rw [← take_snocL hx, List.mem_append, List.mem_singleton]
  refine ⟨app_rise h.rise (fun y hy => ?_), fun q => ?_, fun e => (by cases e), fun _ y hy => ?_⟩
  · rcases (h.all y).1 hy with h1 | h1
    · exact ht y h1
    · cases h1.1
  · rw [List.mem_append, List.mem_singleton, h.all, hT]
    simp
  · rcases (hT y).1 hy with h1 | h1
    · exact h.no rfl y h1
    · omega
theorem PutIs.at_ {l : List Int} {near : Int} {k : Nat} {acc : List Int} {x : Int} (h : PutIs l near k false acc) (hr : l.Pairwise (· < ·)) (hx : l[k]? = some x) (he : x = near) : PutIs l near (k + 1) true (acc ++ [x]) := by
  have ht := take_lt hr hx
  have hT : ∀ q, q ∈ l.take (k + 1) ↔ q ∈ l.take k ∨ q = x := fun q => by rw [← take_snocL hx, List.mem_append, List.mem_singleton]
  refine ⟨app_rise h.rise (fun y hy => ?_), fun q => ?_, fun _ => ⟨x, (hT x).2 (.inr rfl), by omega⟩, fun e => by cases e⟩
  · rcases (h.all y).1 hy with h1 | h1
    · exact ht y h1
    · cases h1.1
  · rw [List.mem_append, List.mem_singleton, h.all, hT]
    subst he
    simp
theorem PutIs.above {l : List Int} {near : Int} {k : Nat} {acc : List Int} {x : Int} (h : PutIs l near k false acc) (hr : l.Pairwise (· < ·)) (hx : l[k]? = some x) (hlt : near < x) : PutIs l near (k + 1) true (acc ++ [near] ++ [x]) := by
  have ht := take_lt hr hx
  have hT : ∀ q, q ∈ l.take (k + 1) ↔ q ∈ l.take k ∨ q = x := fun q => by rw [← take_snocL hx, List.mem_append, List.mem_singleton]
  have h0 : (acc ++ [near]).Pairwise (· < ·) := app_rise h.rise (fun y hy => by
    rcases (h.all y).1 hy with h1 | h1
    · exact h.no rfl y h1
    · cases h1.1)
  refine ⟨app_rise h0 (fun y hy => ?_), fun q => ?_, fun _ => ⟨x, (hT x).2 (.inr rfl), by omega⟩, fun e => by cases e⟩
  · rcases List.mem_append.1 hy with hy | hy
    · rcases (h.all y).1 hy with h1 | h1
      · exact ht y h1
      · cases h1.1
    · simp at hy; omega
  · rw [List.mem_append, List.mem_append, List.mem_singleton, List.mem_singleton, h.all, hT]
    constructor
    · rintro ((h1 | h1) | h1)
      · rcases h1 with h1 | h1
        · exact .inl (.inl h1)
        · cases h1.1
      · exact .inr ⟨rfl, h1⟩
      · exact .inl (.inr h1)
    · rintro ((h1 | h1) | h1)
      · exact .inl (.inl (.inl h1))
      · exact .inr h1
      · exact .inl (.inr h1.2)
theorem PutIs.next {l : List Int} {near : Int} {k : Nat} {acc : List Int} {x : Int} (h : PutIs l near k true acc) (hr : l.Pairwise (· < ·)) (hx : l[k]? = some x) : PutIs l near (k + 1) true (acc ++ [x]) := by
  have ht := take_lt hr hx
  have hT : ∀ q, q ∈ l.take (k + 1) ↔ q ∈ l.take k ∨ q = x := fun q => by rw [← take_snocL hx, List.mem_append, List.mem_singleton]
  obtain ⟨z, hz, hz2⟩ := h.yes rfl
  refine ⟨app_rise h.rise (fun y hy => ?_), fun q => ?_, fun _ => ⟨z, (hT z).2 (.inl hz), hz2⟩, fun e => by cases e⟩
  · rcases (h.all y).1 hy with h1 | h1
    · exact ht y h1
    · have := ht z hz; omega
  · rw [List.mem_append, List.mem_singleton, h.all, hT]
    constructor
    · rintro ((h1 | h1) | h1)
      · exact .inl (.inl h1)
      · exact .inr h1
      · exact .inl (.inr h1)
    · rintro ((h1 | h1) | h1)
      · exact .inl (.inl h1)
      · exact .inr h1
      · exact .inl (.inr h1)
theorem PutIs.ends {L : List Ord} {lo hi near : Int} {l acc : List Int} (h : PutIs l near l.length true acc) (hP : PricesIs L lo hi l) : AllowedIs (psO L) lo hi near acc := by
  refine ⟨h.rise, fun q => ?_⟩
  rw [h.all, List.take_length, hP.all, has_ps]
  simp [or_comm]
theorem PutIs.last {L : List Ord} {lo hi near : Int} {l acc : List Int} (h : PutIs l near l.length false acc) (hP : PricesIs L lo hi l) : AllowedIs (psO L) lo hi near (acc ++ [near]) := by
  refine ⟨app_rise h.rise (fun y hy => ?_), fun q => ?_⟩
  · rcases (h.all y).1 hy with h1 | h1
    · exact h.no rfl y h1
    · cases h1.1
  · rw [List.mem_append, List.mem_singleton, h.all, List.take_length, hP.all, has_ps]
    simp [or_comm]

def RAlRel (w : World) (l : List Int) (near : Int) (m : Nat) (v p i : Value) (W : World) : Prop :=
  ∃ (k : Nat) (put : Bool) (acc : List Int), k ≤ l.length ∧ m = l.length - k + 1 ∧ i = .int .i64 k ∧ p = .bool put ∧ SlAt 2 1 idE W v acc ∧ PutIs l near k put acc ∧ Fresh w.heap.size v ∧ Chg [] w W

set_option maxRecDepth 100000 in
set_option maxHeartbeats 8000000 in
theorem rallowed19 (w : World) (r : Nat) (L : List Ord) (h : BkR w r L) (hlen : L.length ≤ 60) (rf lo hi : Int) :
    Calls Tryz.prog 19 #[.pointer (some ⟨r, 0, none⟩), .int .i64 rf, bdV lo hi] w fun e w' => ∃ v, e = .returned v ∧ SlAt 2 1 idE w' v (allowB L rf lo hi) ∧ Chg [] w w' := by
  have hA1 := Chg.alloc [] w (.cells #[.int .i64 lo, .int .i64 hi] 32)
  have b5 := heap_alloc_new w (.cells #[.int .i64 lo, .int .i64 hi] 32)
  obtain ⟨W1, eW1⟩ : ∃ W1, w.alloc (.cells #[.int .i64 lo, .int .i64 hi] 32) = W1 := ⟨_, rfl⟩
  rw [eW1] at hA1 b5
  obtain ⟨x0, x1⟩ := blk2 b5
  have f5 := blkfreeU b5
  unfold allowB
  obtain ⟨nl, hnl⟩ : ∃ nl, max lo 1 = nl := ⟨_, rfl⟩
  obtain ⟨nh, hnh⟩ : ∃ nh, min hi 1099511627776 = nh := ⟨_, rfl⟩
  rw [hnl, hnh]
  have d5 := blk_set (blk_set b5 0 (.int .i64 nl)) 1 (.int .i64 nh)
  simp only [List.setIfInBounds_toArray, List.set_cons_zero, List.set_cons_succ] at d5
  have hC2 := (hA1.putNew (g := w.heap.size) (j := 0) (u := .int .i64 nl) (by omega)).putNew (g := w.heap.size) (j := 1) (u := .int .i64 nh) (by omega)
  obtain ⟨W2, eW2⟩ : ∃ W2, (W1.setCell ⟨w.heap.size, 0, none⟩ (.int .i64 nl)).setCell ⟨w.heap.size, 1, none⟩ (.int .i64 nh) = W2 := ⟨_, rfl⟩
  rw [eW2] at d5 hC2
  obtain ⟨y0, y1⟩ := blk2 d5
  clear hA1 b5 d5
  unfold bdV
  by_cases hlt : nh < nl
  · have t1 : decide (nh < nl) = true := decide_eq_true hlt
    rw [if_pos hlt]
    clear hlt
    go_enter Tryz.func19, Tryz.ntmps19
    go_wp2_with fail
    go_ret
    exact ⟨_, rfl, SlAt.nil _ _ _ _, hC2⟩
  · have t1 : decide (nh < nl) = false := decide_eq_false hlt
    rw [if_neg hlt]
    obtain ⟨m1, hm1⟩ : ∃ m1, min rf nh = m1 := ⟨_, rfl⟩
    obtain ⟨nr, hnr⟩ : ∃ nr, max m1 nl = nr := ⟨_, rfl⟩
    have hne : nearI rf nl nh = nr := by unfold nearI; rw [hm1, hnr]
    rw [hne]
    have hpr := rprices43 W2 r L (h.chg hC2 (by simp) (by simp)) nl nh hlen
    clear hlt hne
    go_enter Tryz.func19, Tryz.ntmps19
    go_wp2_with fail
    refine hpr.mono ?_
    rintro e W3 ⟨vl, l, rfl, hsl, hP, hFl, hC3⟩
    have hC4 := hC2.trans hC3
    obtain ⟨A, cap, rfl, _, hA0⟩ := hsl.form
    have hll := hP.len
    have hrise := hP.rise
    have HP := Lib.hid (And.intro hP hrise)
    clear hpr hC2 hC3 hFl hP hrise x0 x1 y0 y1 f5 eW1 eW2 t1 hnl hnh hm1 hnr
    go_wp2_with fail
    go_loopg [9, 10, 11] (l.length + 1) (fun m v p i wr => RAlRel W3 l nr m v p i wr)
    case atStart => exact ⟨0, false, [], Nat.zero_le _, rfl, rfl, rfl, SlAt.nil _ _ _ _, ⟨by simp, fun q => by simp, fun e => (by cases e), by simp⟩, Fresh.none, Chg.refl _ _⟩
    case round =>
      obtain ⟨k, put, acc, hk, hm, rfl, rfl, hsa, hPu, hFa, hCa⟩ := hrel
      have Hm := Lib.hid hm
      have hpl := put_len hPu
      have HPu := Lib.hid hPu
      clear hm hPu
      obtain ⟨A2, c2, hv2, _⟩ := hsa.form
      obtain ⟨n1, hn1⟩ : ∃ n1, acc.length = n1 := ⟨_, rfl⟩
      rw [hn1] at hv2
      subst hv2
      by_cases hlt : k < l.length
      · obtain ⟨g, rfl⟩ := hA0 (by omega)
        obtain ⟨x, hx⟩ : ∃ x, l[k]? = some x := ⟨l[k], by simp [hlt]⟩
        have hsr := hsl.chg hCa (by simp)
        have e0 := hsr.at_ idR hx (j := 0) (by omega)
        simp only [Nat.mul_one, Nat.add_zero, idE, List.getElem?_cons_zero] at e0
        have hlg := hsr.lt (g := g) rfl
        have k0 : (0 : Int) ≤ (k : Int) := Int.natCast_nonneg _
        have k1 : (k : Int) < (l.length : Int) := by omega
        have hl1 : acc.length + [x].length ≤ 1000000 := by simp; omega
        have HX := Lib.hid hx
        clear hx hn1
        cases put with
        | true =>
          have HN := Lib.hid (HPu.out.next HP.out.2 HX.out)
          go_wp2_with (at_builtin; go_must (refine wpL_append' rfl _ _ 44 rfl idR elem91 (w0 := W3) (l2 := [x]) (hCa.trans (Chg.alloc [] wr (.cells #[.int .i64 x] 2))) (hsa.chg (Chg.alloc [] wr (.cells #[.int .i64 x] 2)) (by simp)) hFa (SrcAt.one (renc := idE) (a := x) (t := 2) (fr := (0, 0)) (by exact heap_alloc_new wr (.cells #[.int .i64 x] 2)) 1) rfl rfl hl1 (by omega) ?_))
          intro v2 W4 hs4 hC4a hF4 _
          clear hsa hFa hCa hsr
          clear e0
          go_wp2_with fail
          go_roundg (l.length - (k + 1) + 1)
          case measure => rw [Hm.out]; omega
          case rel => exact ⟨k + 1, true, _, by omega, rfl, by go_num, rfl, hs4, HN.out, hF4, hC4a⟩
        | false =>
          by_cases hge : x ≥ nr
          · have t2 : decide (x ≥ nr) = true := decide_eq_true hge
            by_cases hxe : x = nr
            · have t3 : (x != nr) = false := by simpa using hxe
              have HN := Lib.hid (HPu.out.at_ HP.out.2 HX.out hxe)
              clear hge hxe
              go_wp2_with (at_builtin; go_must (refine wpL_append' rfl _ _ 44 rfl idR elem91 (w0 := W3) (l2 := [x]) (hCa.trans (Chg.alloc [] wr (.cells #[.int .i64 x] 2))) (hsa.chg (Chg.alloc [] wr (.cells #[.int .i64 x] 2)) (by simp)) hFa (SrcAt.one (renc := idE) (a := x) (t := 2) (fr := (0, 0)) (by exact heap_alloc_new wr (.cells #[.int .i64 x] 2)) 1) rfl rfl hl1 (by omega) ?_))
              intro v2 W4 hs4 hC4a hF4 _
              clear hsa hFa hCa hsr
              clear e0
              go_wp2_with fail
              go_roundg (l.length - (k + 1) + 1)
              case measure => rw [Hm.out]; omega
              case rel => exact ⟨k + 1, true, _, by omega, rfl, by go_num, rfl, hs4, HN.out, hF4, hC4a⟩
            · have t3 : (x != nr) = true := by simpa using hxe
              have HN := Lib.hid (HPu.out.above HP.out.2 HX.out (by omega))
              have hl0 : acc.length + [nr].length ≤ 1000000 := by simp; omega
              have hl9 : (acc ++ [nr]).length + [x].length ≤ 1000000 := by simp; omega
              clear hge hxe
              go_wp2_with (at_builtin; go_must (refine wpL_append' rfl _ _ 44 rfl idR elem91 (w0 := W3) (l2 := [nr]) (hCa.trans (Chg.alloc [] wr (.cells #[.int .i64 nr] 2))) (hsa.chg (Chg.alloc [] wr (.cells #[.int .i64 nr] 2)) (by simp)) hFa (SrcAt.one (renc := idE) (a := nr) (t := 2) (fr := (0, 0)) (by exact heap_alloc_new wr (.cells #[.int .i64 nr] 2)) 1) rfl rfl hl0 (by omega) ?_))
              intro v2 W4 hs4 hC4a hF4 _
              have hsr4 := hsl.chg hC4a (by simp)
              have e4 := hsr4.at_ idR HX.out (j := 0) (by omega)
              simp only [Nat.mul_one, Nat.add_zero, idE, List.getElem?_cons_zero] at e4
              have hlg4 := hsr4.lt (g := g) rfl
              obtain ⟨A4, c4, hv4, _⟩ := hs4.form
              obtain ⟨n4, hn4⟩ : ∃ n4, (acc ++ [nr]).length = n4 := ⟨_, rfl⟩
              rw [hn4] at hv4
              subst hv4
              clear hsa hFa hCa hsr hn4 e0
              go_wp2_with (at_builtin; go_must (refine wpL_append' rfl _ _ 44 rfl idR elem91 (w0 := W3) (l2 := [x]) (hC4a.trans (Chg.alloc [] W4 (.cells #[.int .i64 x] 2))) (hs4.chg (Chg.alloc [] W4 (.cells #[.int .i64 x] 2)) (by simp)) hF4 (SrcAt.one (renc := idE) (a := x) (t := 2) (fr := (0, 0)) (by exact heap_alloc_new W4 (.cells #[.int .i64 x] 2)) 1) rfl rfl hl9 (by omega) ?_))
              intro v5 W5 hs5 hC5 hF5 _
              have e0 := e4
              clear hs4 hF4 hC4a hsr4 e4
              clear e0
              go_wp2_with fail
              go_roundg (l.length - (k + 1) + 1)
              case measure => rw [Hm.out]; omega
              case rel => exact ⟨k + 1, true, acc ++ [nr] ++ [x], by omega, rfl, by go_num, rfl, (by simpa using hs5), HN.out, hF5, hC5⟩
          · have t2 : decide (x ≥ nr) = false := decide_eq_false hge
            have HN := Lib.hid (HPu.out.below HP.out.2 HX.out (by omega))
            clear hge
            go_wp2_with (at_builtin; go_must (refine wpL_append' rfl _ _ 44 rfl idR elem91 (w0 := W3) (l2 := [x]) (hCa.trans (Chg.alloc [] wr (.cells #[.int .i64 x] 2))) (hsa.chg (Chg.alloc [] wr (.cells #[.int .i64 x] 2)) (by simp)) hFa (SrcAt.one (renc := idE) (a := x) (t := 2) (fr := (0, 0)) (by exact heap_alloc_new wr (.cells #[.int .i64 x] 2)) 1) rfl rfl hl1 (by omega) ?_))
            intro v2 W4 hs4 hC4a hF4 _
            clear hsa hFa hCa hsr
            clear e0
            go_wp2_with fail
            go_roundg (l.length - (k + 1) + 1)
            case measure => rw [Hm.out]; omega
            case rel => exact ⟨k + 1, false, _, by omega, rfl, by go_num, rfl, hs4, HN.out, hF4, hC4a⟩
      · have hkn : k = l.length := by omega
        subst hkn
        clear hn1
        cases put with
        | true =>
          have HN := Lib.hid ((HPu.out.ends HP.out.1).eq (allowL_is (psO L) nl nh nr))
          go_wp2_with fail
          go_ret
          exact ⟨_, rfl, HN.out ▸ hsa, hC4.trans hCa⟩
        | false =>
          have HN := Lib.hid ((HPu.out.last HP.out.1).eq (allowL_is (psO L) nl nh nr))
          have hl0 : acc.length + [nr].length ≤ 1000000 := by simp; omega
          go_wp2_with (at_builtin; go_must (refine wpL_append' rfl _ _ 44 rfl idR elem91 (w0 := W3) (l2 := [nr]) (hCa.trans (Chg.alloc [] wr (.cells #[.int .i64 nr] 2))) (hsa.chg (Chg.alloc [] wr (.cells #[.int .i64 nr] 2)) (by simp)) hFa (SrcAt.one (renc := idE) (a := nr) (t := 2) (fr := (0, 0)) (by exact heap_alloc_new wr (.cells #[.int .i64 nr] 2)) 1) rfl rfl hl0 (by omega) ?_))
          intro v2 W4 hs4 hC4a hF4 _
          clear hsa hFa hCa
          go_wp2_with fail
          go_ret
          exact ⟨_, rfl, HN.out ▸ hs4, hC4.trans hC4a⟩
end Go.Proofs.YtdcjfaplgpeonaaGreat
