/-
  The reference's curve: which prices a book has.
-/
import Derived.Test.YtdcjfaplgpeonaaQf
import Derived.Test.YtdcjfaplgpeonaaQg
namespace Go.Proofs.Ytdcjfaplgpeonaa
open Go.RowKit Go.Dm
attribute [local go_sem] Oper.semAt_some

/-- The prices of some orders within a band, rising, each once. -/
structure PricesIs (l : List Ord) (lo hi : Int) (out : List Int) : Prop where
  rise : out.Pairwise (· < ·)
  all : ∀ q, q ∈ out ↔ lo ≤ q ∧ q ≤ hi ∧ hasP l q = true
theorem PricesIs.len {l : List Ord} {lo hi : Int} {out : List Int} (h : PricesIs l lo hi out) : out.length ≤ l.length := by
  have hn : out.Nodup := h.rise.imp (fun h => by omega)
  have := List.Nodup.length_le_of_subset hn (l₂ := l.map (fun o => o 3)) (fun q hq => by
    have h1 := ((h.all q).1 hq).2.2
    unfold hasP at h1
    rw [List.any_eq_true] at h1
    obtain ⟨o, ho, h2⟩ := h1
    exact List.mem_map.2 ⟨o, ho, by simpa using h2⟩)
  simpa using this
/-- Where a price stands among some. -/
def InsPos (out : List Int) (p : Int) (j : Nat) : Prop := j ≤ out.length ∧ (∀ (t : Nat) x, t < j → out[t]? = some x → x < p) ∧ (∀ x, out[j]? = some x → p ≤ x)
theorem ins_new {l : List Ord} {lo hi : Int} {out : List Int} {o : Ord} {j : Nat} (h : PricesIs l lo hi out) (hj : InsPos out (o 3) j) (hne : out[j]? ≠ some (o 3)) (h0 : lo ≤ o 3) (h1 : o 3 ≤ hi) :
    PricesIs (l ++ [o]) lo hi (out.take j ++ [o 3] ++ out.drop j) := by
  obtain ⟨hj1, hj2, hj3⟩ := hj
  have hd : ∀ x ∈ out.drop j, o 3 < x := fun x hx => by
    obtain ⟨t, ht⟩ := List.mem_iff_getElem?.1 hx
    rw [List.getElem?_drop] at ht
    by_cases e : t = 0
    · subst e
      rw [Nat.add_zero] at ht
      have := hj3 x ht
      have : x ≠ o 3 := fun e => hne (e ▸ ht)
      omega
    · have hlt := (List.getElem?_eq_some_iff.1 ht).1
      obtain ⟨y, hy⟩ : ∃ y, out[j]? = some y := ⟨out[j]'(by omega), List.getElem?_eq_getElem _⟩
      have h2 := hj3 y hy
      have h3 : y ≠ o 3 := fun e => hne (e ▸ hy)
      have := rise_le h.rise hy ht (by omega)
      omega
  have ht : ∀ x ∈ out.take j, x < o 3 := fun x hx => by
    obtain ⟨t, ht⟩ := List.mem_iff_getElem?.1 hx
    rw [List.getElem?_take] at ht
    split at ht
    · rename_i hlt; exact hj2 t x hlt ht
    · cases ht
  refine ⟨?_, fun q => ?_⟩
  · refine List.pairwise_append.2 ⟨List.pairwise_append.2 ⟨h.rise.sublist (List.take_sublist _ _), by simp, fun a ha b hb => ?_⟩, h.rise.sublist (List.drop_sublist _ _), fun a ha b hb => ?_⟩
    · simp at hb; subst hb; exact ht a ha
    · rcases List.mem_append.1 ha with ha | ha
      · have := ht a ha; have := hd b hb; omega
      · simp at ha; subst ha; exact hd b hb
  · have hm : q ∈ out ↔ q ∈ out.take j ∨ q ∈ out.drop j := by
      conv => lhs; rw [← List.take_append_drop j out]
      exact List.mem_append
    rw [List.mem_append, List.mem_append, List.mem_singleton, hasP_app, Bool.or_eq_true, decide_eq_true_eq]
    have ha := h.all q
    rw [hm] at ha
    constructor
    · rintro ((h2 | rfl) | h2)
      · have := ha.1 (.inl h2); exact ⟨this.1, this.2.1, .inl this.2.2⟩
      · exact ⟨h0, h1, .inr rfl⟩
      · have := ha.1 (.inr h2); exact ⟨this.1, this.2.1, .inl this.2.2⟩
    · rintro ⟨h2, h3, h4 | h4⟩
      · rcases ha.2 ⟨h2, h3, h4⟩ with h5 | h5
        · exact .inl (.inl h5)
        · exact .inr h5
      · exact .inl (.inr h4.symm)
theorem ins_old {l : List Ord} {lo hi : Int} {out : List Int} {o : Ord} (h : PricesIs l lo hi out) (hne : ¬ (lo ≤ o 3 ∧ o 3 ≤ hi) ∨ o 3 ∈ out) : PricesIs (l ++ [o]) lo hi out := by
  refine ⟨h.rise, fun q => ?_⟩
  rw [hasP_app, Bool.or_eq_true, decide_eq_true_eq, h.all]
  constructor
  · rintro ⟨h1, h2, h3⟩; exact ⟨h1, h2, .inl h3⟩
  · rintro ⟨h1, h2, h3 | h3⟩
    · exact ⟨h1, h2, h3⟩
    · subst h3
      rcases hne with hne | hne
      · exact absurd ⟨h1, h2⟩ hne
      · exact (h.all _).1 hne

def RPrRel (w : World) (l : List Ord) (lo hi : Int) (m : Nat) (v i : Value) (wr : World) : Prop :=
  ∃ (k : Nat) (out : List Int), k ≤ l.length ∧ m = l.length - k + 1 ∧ i = .int .i64 k ∧ SlAt 2 1 idE wr v out ∧ PricesIs (l.take k) lo hi out ∧ Fresh w.heap.size v ∧ Chg [] w wr

set_option maxRecDepth 100000 in
set_option maxHeartbeats 8000000 in
theorem rprices43 (w : World) (r : Nat) (l : List Ord) (h : BkR w r l) (lo hi : Int) (hlen : l.length ≤ 60) :
    Calls Try.prog 43 #[.pointer (some ⟨r, 0, none⟩), .int .i64 lo, .int .i64 hi] w fun e w' => ∃ v out, e = .returned v ∧ SlAt 2 1 idE w' v out ∧ PricesIs l lo hi out ∧ Fresh w.heap.size v ∧ Chg [] w w' := by
  have hr := h.lt
  obtain ⟨vb, hb, hs⟩ := h
  obtain ⟨A, c, rfl, _, hA⟩ := hs.form
  go_enter Try.func43, Try.ntmps43
  go_wp2_with fail
  go_loopg [7, 8] (l.length + 1) (fun m v i wr => RPrRel w l lo hi m v i wr)
  case atStart => exact ⟨0, [], Nat.zero_le _, rfl, rfl, SlAt.nil _ _ _ _, ⟨by simp, fun q => by simp [hasP]⟩, Fresh.none, Chg.refl _ _⟩
  case round =>
    obtain ⟨k, out, hk, hm, rfl, hs2, hP, hF, hC⟩ := hrel
    have Hm := Lib.hid hm
    clear hm
    have hbr := hC.at_ hb (by simp)
    obtain ⟨_, _, c2⟩ := blk3 hbr
    have hrr := blk_lt hbr
    have hlo := hP.len
    rw [List.length_take] at hlo
    obtain ⟨A2, cc2, rfl, _, hA2⟩ := hs2.form
    by_cases hlt : k < l.length
    · obtain ⟨g, rfl⟩ := hA (by omega)
      obtain ⟨o, ho⟩ : ∃ o, l[k]? = some o := ⟨l[k], by simp [hlt]⟩
      obtain ⟨e0, e1, e2, e3, _⟩ := ords_at (hs.chg hC (by simp)) ho
      have hg := (hs.chg hC (by simp)).lt (g := g) rfl
      have hT : l.take (k + 1) = l.take k ++ [o] := (take_snocL ho).symm
      have Ho := Lib.hid (And.intro ho hT)
      clear ho hT
      have k0 : (0 : Int) ≤ (k : Int) := Int.natCast_nonneg _
      have k1 : (k : Int) < (l.length : Int) := by omega
      go_upto_block 2 with fail
      go_cut [10] from 28 to 41 (fun u10 W => ∃ j : Nat, u10 = .int .i64 j ∧ InsPos out (o 3) j ∧ wr = W)
      case first =>
        go_wp2
        go_loopg [10] (out.length + 1) (fun n u10 W => ∃ j : Nat, j ≤ out.length ∧ n = out.length - j + 1 ∧ u10 = .int .i64 j ∧ (∀ (t : Nat) x, t < j → out[t]? = some x → x < o 3) ∧ W = wr)
        case atStart => exact ⟨0, Nat.zero_le _, rfl, rfl, fun t x ht => by omega, rfl⟩
        case round =>
          obtain ⟨j, hj, hn, rfl, hall, rfl⟩ := hrel
          have Hj := Lib.hid (And.intro hn hall)
          clear hn hall
          by_cases hjl : j < out.length
          · obtain ⟨g5, rfl⟩ := hA2 (by omega)
            obtain ⟨q, hq⟩ : ∃ q, out[j]? = some q := ⟨out[j], by simp [hjl]⟩
            have d0 := hs2.at_ idR hq (j := 0) (by omega)
            simp only [Nat.mul_one, Nat.add_zero, idE, List.getElem?_cons_zero] at d0
            have Hq := Lib.hid hq
            clear hq
            have j0 : (0 : Int) ≤ (j : Int) := Int.natCast_nonneg _
            have j1 : (j : Int) < (out.length : Int) := by omega
            by_cases hqp : q < o 3
            · have t1 : decide (q < o 3) = true := decide_eq_true hqp
              have Hp := Lib.hid hqp
              clear hqp
              go_wp2_with fail
              go_roundg (out.length - (j + 1) + 1)
              case measure => rw [Hj.out.1]; omega
              case rel =>
                refine ⟨j + 1, by omega, rfl, by go_num, fun t x ht hx => ?_, rfl⟩
                by_cases e : t = j
                · subst e; rw [Hq.out] at hx; cases hx; exact Hp.out
                · exact Hj.out.2 t x (by omega) hx
            · have t1 : decide (q < o 3) = false := decide_eq_false hqp
              have Hp := Lib.hid hqp
              clear hqp
              go_wp2_with fail
              go_meet
              exact ⟨j, rfl, ⟨by omega, Hj.out.2, fun x hx => by rw [Hq.out] at hx; cases hx; have := Hp.out; omega⟩, rfl⟩
          · go_wp2_with fail
            go_meet
            exact ⟨j, rfl, ⟨by omega, Hj.out.2, fun x hx => by have := (List.getElem?_eq_some_iff.1 hx).1; omega⟩, rfl⟩
      case rest =>
        obtain ⟨j, rfl, hj, rfl⟩ := hcut
        have HJ := Lib.hid hj
        have hjl := hj.1
        have HPi := Lib.hid hP
        clear hj hP
        have j0 : (0 : Int) ≤ (j : Int) := Int.natCast_nonneg _
        by_cases h0 : lo ≤ o 3
        · have t0 : decide (o 3 ≥ lo) = true := decide_eq_true h0
          by_cases h1 : o 3 ≤ hi
          · have t1 : decide (o 3 ≤ hi) = true := decide_eq_true h1
            by_cases hjo : j < out.length
            · obtain ⟨g5, rfl⟩ := hA2 (by omega)
              obtain ⟨q, hq⟩ : ∃ q, out[j]? = some q := ⟨out[j], by simp [hjo]⟩
              have d0 := hs2.at_ idR hq (j := 0) (by omega)
              simp only [Nat.mul_one, Nat.add_zero, idE, List.getElem?_cons_zero] at d0
              have hlg := hs2.lt (g := g5) rfl
              have t3 : ((j : Int) == (out.length : Int)) = false := by simp; omega
              have j1 : (j : Int) < (out.length : Int) := by omega
              by_cases hqp : q = o 3
              · have t4 : (q != o 3) = false := by simpa using hqp
                have HN := Lib.hid (ins_old HPi.out (o := o) (.inr (hqp ▸ List.mem_of_getElem? hq)))
                clear hqp hq h0 h1
                go_wp2_with fail
                go_roundg (l.length - (k + 1) + 1)
                case measure => rw [Hm.out]; omega
                case rel => exact ⟨k + 1, out, by omega, rfl, by go_num, hs2, by rw [Ho.out.2]; exact HN.out, hF, hC⟩
              · have t4 : (q != o 3) = true := by simpa using hqp
                have hcp := hs2.cap.2.1
                have hjc : j ≤ cc2 := by omega
                have hjn : ¬ cc2 = j := by omega
                have hjl2 : j ≤ out.length := by omega
                have hjt : ((j : Nat) : Int).toNat = j := by omega
                have HN := Lib.hid (ins_new HPi.out HJ.out (by rw [hq]; intro e; exact hqp (Option.some.inj e)) h0 h1)
                have hU1 : SrcAt idE wr (.slice (some ⟨g5, 0, none⟩) j cc2) (out.take j) := hs2.src_take (by omega) _
                have hU2 : SrcAt idE wr (.slice (some ⟨g5, j, none⟩) (out.length - j) (cc2 - j)) (out.drop j) := by have h9 := hs2.src_drop idR (k := j) (by omega) (cc2 - j) (out.length - j) rfl; rwa [Nat.mul_one] at h9
                clear hqp hq h0 h1
                have HU := Lib.hid (And.intro hU1 hU2)
                clear hU1 hU2
                go_wp2_with fail
                refine wp_cutR (Chg [] wr) 11 (by kernel_rfl) (by kernel_rfl) (fun _ h => Chg.nil h) (fun W hW hS => ?_)
                simp only [List.take_succ_cons, List.take_zero, List.drop_succ_cons, List.drop_zero]
                refine takeH 1 (v := ?vv197) rfl (by kernel_rfl) (by kernel_rfl) (by kernel_rfl) (fun _ _ _ h => h) (by kernel_rfl) (fun Wx hSx => ?hy197) (by assumption) ?hrest197
                case hy197 => go_simp; (try with_reducible rfl)
                simp only [Act.put, List.getElem_toArray, List.getElem_cons_succ, List.getElem_cons_zero, List.setIfInBounds_toArray, List.set_cons_zero, List.set_cons_succ]
                refine takeH 2 (v := ?vv200) rfl (by kernel_rfl) (by kernel_rfl) (by kernel_rfl) (fun _ _ _ h => h) (by kernel_rfl) (fun Wx hSx => ?hy200) (by assumption) ?hrest200
                case hy200 => go_simp; (try with_reducible rfl)
                simp only [Act.put, List.getElem_toArray, List.getElem_cons_succ, List.getElem_cons_zero, List.setIfInBounds_toArray, List.set_cons_zero, List.set_cons_succ]
                refine takeH 3 (v := ?vv203) rfl (by kernel_rfl) (by kernel_rfl) (by kernel_rfl) (fun _ _ _ h => h) (by kernel_rfl) (fun Wx hSx => ?hy203) (by assumption) ?hrest203
                case hy203 => go_simp; (try with_reducible rfl)
                simp only [Act.put, List.getElem_toArray, List.getElem_cons_succ, List.getElem_cons_zero, List.setIfInBounds_toArray, List.set_cons_zero, List.set_cons_succ]
                refine takeH 5 (v := ?vv206) rfl (by kernel_rfl) (by kernel_rfl) (by kernel_rfl) (fun _ _ _ h => h) (by kernel_rfl) (fun Wx hSx => ?hy206) (by assumption) ?hrest206
                case hy206 => go_simp; (try with_reducible rfl)
                simp only [Act.put, List.getElem_toArray, List.getElem_cons_succ, List.getElem_cons_zero, List.setIfInBounds_toArray, List.set_cons_zero, List.set_cons_succ]
                refine takeH 8 (v := ?vv209) rfl (by kernel_rfl) (by kernel_rfl) (by kernel_rfl) (fun _ _ _ h => h) (by kernel_rfl) (fun Wx hSx => ?hy209) (by assumption) ?hrest209
                case hy209 => go_simp; (try with_reducible rfl)
                simp only [Act.put, List.getElem_toArray, List.getElem_cons_succ, List.getElem_cons_zero, List.setIfInBounds_toArray, List.set_cons_zero, List.set_cons_succ]
                refine takeH 9 (v := ?vv212) rfl (by kernel_rfl) (by kernel_rfl) (by kernel_rfl) (fun _ _ _ h => h) (by kernel_rfl) (fun Wx hSx => ?hy212) (by assumption) ?hrest212
                case hy212 => go_simp; (try with_reducible rfl)
                simp only [Act.put, List.getElem_toArray, List.getElem_cons_succ, List.getElem_cons_zero, List.setIfInBounds_toArray, List.set_cons_zero, List.set_cons_succ]
                refine takeH 10 (v := ?vv215) rfl (by kernel_rfl) (by kernel_rfl) (by kernel_rfl) (fun _ _ _ h => h) (by kernel_rfl) (fun Wx hSx => ?hy215) (by assumption) ?hrest215
                case hy215 => go_simp; (try with_reducible rfl)
                simp only [Act.put, List.getElem_toArray, List.getElem_cons_succ, List.getElem_cons_zero, List.setIfInBounds_toArray, List.set_cons_zero, List.set_cons_succ]
                have hl1 : ([] : List Int).length + (out.take j).length ≤ 1000000 := by simp; omega
                have hl2 : ([] ++ out.take j).length + [o 3].length ≤ 1000000 := by simp; omega
                have hl3 : ([] ++ out.take j ++ [o 3]).length + (out.drop j).length ≤ 1000000 := by simp; omega
                refine wpAnyH_ready (rs := [0, 6]) (by kernel_rfl) (by simp) ?_
                refine (AllReadyH.cons rfl (fun K hK => ?_) (AllReadyH.cons rfl (fun K hK => ?_) AllReadyH.nil))
                all_goals try simp only [List.getElem_toArray, List.getElem_cons_succ, List.getElem_cons_zero]
                · go_simp
                  have n0 := heap_alloc_new W (.cells #[] 2)
                  have hn0 := Chg.alloc [] W (.cells #[] 2)
                  have hz0 := hW.size
                  obtain ⟨A1, eA1⟩ : ∃ A1, W.alloc (.cells #[] 2) = A1 := ⟨_, rfl⟩
                  rw [eA1] at n0 hn0 ⊢
                  have hA1 := hW.trans hn0
                  have N0 := Lib.hid (And.intro n0 hn0)
                  clear n0 hn0 eA1
                  refine hK.out _ _ (hA1) (fun hHeld => ?_)
                  clear hK K
                  try simp only [Act.put, List.getElem_toArray, List.getElem_cons_succ, List.getElem_cons_zero, List.setIfInBounds_toArray, List.set_cons_zero, List.set_cons_succ]
                  refine wpAnyH_ready (rs := [4, 6]) (by kernel_rfl) (by simp) ?_
                  refine (AllReadyH.cons rfl (fun K hK => ?_) (AllReadyH.cons rfl (fun K hK => ?_) AllReadyH.nil))
                  all_goals try simp only [List.getElem_toArray, List.getElem_cons_succ, List.getElem_cons_zero]
                  · rw [if_pos (by rfl)]
                    refine step_append2 (o := _) (a := _) (v := .slice (some ⟨W.heap.size, 0, none⟩) 0 0) (u := .slice (some ⟨g5, 0, none⟩) j cc2) (l := ([] : List Int)) (l2 := out.take j) (S := []) (w0 := wr) (.tmp 64) (.tmp 67) 91 idR elem91 hA1 (SlAt.empty N0.out.1 rfl) (Fresh.of (by omega)) (HU.out.1.chg hA1 (by simp)) hl1 (by omega) rfl rfl rfl ?_
                    intro v1 A2 hsA2 hA2 hFA2 hgA2
                    refine hK.out _ _ (hA2) (fun hHeld => ?_)
                    clear hK K
                    try simp only [Act.put, List.setIfInBounds_toArray, List.set_cons_zero, List.set_cons_succ]
                    refine wpAnyH_ready (rs := [6]) (by kernel_rfl) (by simp) ?_
                    refine (AllReadyH.cons rfl (fun K hK => ?_) AllReadyH.nil)
                    all_goals try simp only [List.getElem_toArray, List.getElem_cons_succ, List.getElem_cons_zero]
                    go_simp
                    have n6 := heap_alloc_new A2 (.cells #[.int .i64 (o 3)] 2)
                    have hn6 := Chg.alloc [] A2 (.cells #[.int .i64 (o 3)] 2)
                    obtain ⟨A3, eA3⟩ : ∃ A3, A2.alloc (.cells #[.int .i64 (o 3)] 2) = A3 := ⟨_, rfl⟩
                    rw [eA3] at n6 hn6 ⊢
                    have hA3 := hA2.trans hn6
                    have N6 := Lib.hid (And.intro n6 hn6)
                    clear n6 hn6 eA3
                    refine hK.out _ _ (hA3) (fun hHeld => ?_)
                    clear hK K
                    try simp only [Act.put, List.getElem_toArray, List.getElem_cons_succ, List.getElem_cons_zero, List.setIfInBounds_toArray, List.set_cons_zero, List.set_cons_succ]
                    refine wpAnyH_ready (rs := [7]) (by kernel_rfl) (by simp) ?_
                    refine (AllReadyH.cons rfl (fun K hK => ?_) AllReadyH.nil)
                    all_goals try simp only [List.getElem_toArray, List.getElem_cons_succ, List.getElem_cons_zero]
                    rw [if_pos (by rfl)]
                    refine step_append2 (o := _) (a := _) (v := v1) (u := .slice (some ⟨A2.heap.size, 0, none⟩) 1 1) (l := [] ++ out.take j) (l2 := [o 3]) (S := []) (w0 := wr) (.tmp 68) (.tmp 70) 91 idR elem91 hA3 (hsA2.chg N6.out.2 (by simp)) hFA2 (SrcAt.one (renc := idE) (a := o 3) (t := 2) (fr := (0, 0)) N6.out.1 1) hl2 (by omega) rfl rfl rfl ?_
                    intro v2 A4 hsA4 hA4 hFA4 hgA4
                    refine hK.out _ _ (hA4) (fun hHeld => ?_)
                    clear hK K
                    try simp only [Act.put, List.setIfInBounds_toArray, List.set_cons_zero, List.set_cons_succ]
                    refine wpAnyH_done (by kernel_rfl) ?_ _
                    simp only [cutQ]
                    go_wp2_with (at_builtin; go_must (refine wpL_append' rfl _ _ 91 rfl idR elem91 (w0 := wr) (l2 := out.drop j) hA4 hsA4 hFA4 (HU.out.2.chg hA4 (by simp)) rfl rfl hl3 (by omega) ?_))
                    intro v3 W9 hs9 h9 hF9 hg9
                    have hs99 : SlAt 2 1 idE W9 v3 (out.take j ++ [o 3] ++ out.drop j) := by simpa using hs9
                    have hC9 : Chg [] w W9 := hC.trans h9
                    have hF99 : Fresh w.heap.size v3 := hF9.mono hC.size
                    have HS9 := Lib.hid hs99
                    clear hg9 h9 hF9 hHeld hs9 hs99
                    go_wp2_with fail
                    go_roundg (l.length - (k + 1) + 1)
                    case measure => rw [Hm.out]; omega
                    case rel => exact ⟨k + 1, _, by omega, rfl, by go_num, HS9.out, by rw [Ho.out.2]; exact HN.out, hF99, hC9⟩
                  · go_simp
                    have n6 := heap_alloc_new A1 (.cells #[.int .i64 (o 3)] 2)
                    have hn6 := Chg.alloc [] A1 (.cells #[.int .i64 (o 3)] 2)
                    obtain ⟨A2, eA2⟩ : ∃ A2, A1.alloc (.cells #[.int .i64 (o 3)] 2) = A2 := ⟨_, rfl⟩
                    rw [eA2] at n6 hn6 ⊢
                    have hA2 := hA1.trans hn6
                    have N6 := Lib.hid (And.intro n6 hn6)
                    clear n6 hn6 eA2
                    refine hK.out _ _ (hA2) (fun hHeld => ?_)
                    clear hK K
                    try simp only [Act.put, List.getElem_toArray, List.getElem_cons_succ, List.getElem_cons_zero, List.setIfInBounds_toArray, List.set_cons_zero, List.set_cons_succ]
                    refine wpAnyH_ready (rs := [4]) (by kernel_rfl) (by simp) ?_
                    refine (AllReadyH.cons rfl (fun K hK => ?_) AllReadyH.nil)
                    all_goals try simp only [List.getElem_toArray, List.getElem_cons_succ, List.getElem_cons_zero]
                    rw [if_pos (by rfl)]
                    refine step_append2 (o := _) (a := _) (v := .slice (some ⟨W.heap.size, 0, none⟩) 0 0) (u := .slice (some ⟨g5, 0, none⟩) j cc2) (l := ([] : List Int)) (l2 := out.take j) (S := []) (w0 := wr) (.tmp 64) (.tmp 67) 91 idR elem91 hA2 (SlAt.empty (N6.out.2.at_ N0.out.1 (by simp)) rfl) (Fresh.of (by omega)) (HU.out.1.chg hA2 (by simp)) hl1 (by omega) rfl rfl rfl ?_
                    intro v1 A3 hsA3 hA3 hFA3 hgA3
                    refine hK.out _ _ (hA3) (fun hHeld => ?_)
                    clear hK K
                    try simp only [Act.put, List.setIfInBounds_toArray, List.set_cons_zero, List.set_cons_succ]
                    have m6 : A3.heap[A1.heap.size]? = some (.cells #[.int .i64 (o 3)] 2 (0, 0)) := (hgA3.block _ (blk_lt N6.out.1) (by have := blk_lt N0.out.1; simp [Value.ownBlock]; omega)).trans N6.out.1
                    refine wpAnyH_ready (rs := [7]) (by kernel_rfl) (by simp) ?_
                    refine (AllReadyH.cons rfl (fun K hK => ?_) AllReadyH.nil)
                    all_goals try simp only [List.getElem_toArray, List.getElem_cons_succ, List.getElem_cons_zero]
                    rw [if_pos (by rfl)]
                    refine step_append2 (o := _) (a := _) (v := v1) (u := .slice (some ⟨A1.heap.size, 0, none⟩) 1 1) (l := [] ++ out.take j) (l2 := [o 3]) (S := []) (w0 := wr) (.tmp 68) (.tmp 70) 91 idR elem91 hA3 hsA3 hFA3 (SrcAt.one (renc := idE) (a := o 3) (t := 2) (fr := (0, 0)) m6 1) hl2 (by omega) rfl rfl rfl ?_
                    intro v2 A4 hsA4 hA4 hFA4 hgA4
                    refine hK.out _ _ (hA4) (fun hHeld => ?_)
                    clear hK K
                    try simp only [Act.put, List.setIfInBounds_toArray, List.set_cons_zero, List.set_cons_succ]
                    refine wpAnyH_done (by kernel_rfl) ?_ _
                    simp only [cutQ]
                    go_wp2_with (at_builtin; go_must (refine wpL_append' rfl _ _ 91 rfl idR elem91 (w0 := wr) (l2 := out.drop j) hA4 hsA4 hFA4 (HU.out.2.chg hA4 (by simp)) rfl rfl hl3 (by omega) ?_))
                    intro v3 W9 hs9 h9 hF9 hg9
                    have hs99 : SlAt 2 1 idE W9 v3 (out.take j ++ [o 3] ++ out.drop j) := by simpa using hs9
                    have hC9 : Chg [] w W9 := hC.trans h9
                    have hF99 : Fresh w.heap.size v3 := hF9.mono hC.size
                    have HS9 := Lib.hid hs99
                    clear hg9 h9 hF9 hHeld hs9 hs99
                    go_wp2_with fail
                    go_roundg (l.length - (k + 1) + 1)
                    case measure => rw [Hm.out]; omega
                    case rel => exact ⟨k + 1, _, by omega, rfl, by go_num, HS9.out, by rw [Ho.out.2]; exact HN.out, hF99, hC9⟩
                · go_simp
                  have n6 := heap_alloc_new W (.cells #[.int .i64 (o 3)] 2)
                  have hn6 := Chg.alloc [] W (.cells #[.int .i64 (o 3)] 2)
                  obtain ⟨A1, eA1⟩ : ∃ A1, W.alloc (.cells #[.int .i64 (o 3)] 2) = A1 := ⟨_, rfl⟩
                  rw [eA1] at n6 hn6 ⊢
                  have hA1 := hW.trans hn6
                  have N6 := Lib.hid (And.intro n6 hn6)
                  clear n6 hn6 eA1
                  refine hK.out _ _ (hA1) (fun hHeld => ?_)
                  clear hK K
                  try simp only [Act.put, List.getElem_toArray, List.getElem_cons_succ, List.getElem_cons_zero, List.setIfInBounds_toArray, List.set_cons_zero, List.set_cons_succ]
                  refine wpAnyH_ready (rs := [0]) (by kernel_rfl) (by simp) ?_
                  refine (AllReadyH.cons rfl (fun K hK => ?_) AllReadyH.nil)
                  all_goals try simp only [List.getElem_toArray, List.getElem_cons_zero]
                  go_simp
                  have n0 := heap_alloc_new A1 (.cells #[] 2)
                  have hn0 := Chg.alloc [] A1 (.cells #[] 2)
                  have hz0 := hA1.size
                  obtain ⟨A2, eA2⟩ : ∃ A2, A1.alloc (.cells #[] 2) = A2 := ⟨_, rfl⟩
                  rw [eA2] at n0 hn0 ⊢
                  have hA2 := hA1.trans hn0
                  have N0 := Lib.hid (And.intro n0 hn0)
                  clear n0 hn0 eA2
                  refine hK.out _ _ (hA2) (fun hHeld => ?_)
                  clear hK K
                  try simp only [Act.put, List.getElem_toArray, List.getElem_cons_succ, List.getElem_cons_zero, List.setIfInBounds_toArray, List.set_cons_zero, List.set_cons_succ]
                  refine wpAnyH_ready (rs := [4]) (by kernel_rfl) (by simp) ?_
                  refine (AllReadyH.cons rfl (fun K hK => ?_) AllReadyH.nil)
                  all_goals try simp only [List.getElem_toArray, List.getElem_cons_succ, List.getElem_cons_zero]
                  rw [if_pos (by rfl)]
                  refine step_append2 (o := _) (a := _) (v := .slice (some ⟨A1.heap.size, 0, none⟩) 0 0) (u := .slice (some ⟨g5, 0, none⟩) j cc2) (l := ([] : List Int)) (l2 := out.take j) (S := []) (w0 := wr) (.tmp 64) (.tmp 67) 91 idR elem91 hA2 (SlAt.empty N0.out.1 rfl) (Fresh.of (by omega)) (HU.out.1.chg hA2 (by simp)) hl1 (by omega) rfl rfl rfl ?_
                  intro v1 A3 hsA3 hA3 hFA3 hgA3
                  refine hK.out _ _ (hA3) (fun hHeld => ?_)
                  clear hK K
                  try simp only [Act.put, List.setIfInBounds_toArray, List.set_cons_zero, List.set_cons_succ]
                  have m6 : A3.heap[W.heap.size]? = some (.cells #[.int .i64 (o 3)] 2 (0, 0)) := (hgA3.block _ (blk_lt (N0.out.2.at_ N6.out.1 (by simp))) (by have := blk_lt N6.out.1; simp [Value.ownBlock]; omega)).trans (N0.out.2.at_ N6.out.1 (by simp))
                  refine wpAnyH_ready (rs := [7]) (by kernel_rfl) (by simp) ?_
                  refine (AllReadyH.cons rfl (fun K hK => ?_) AllReadyH.nil)
                  all_goals try simp only [List.getElem_toArray, List.getElem_cons_succ, List.getElem_cons_zero]
                  rw [if_pos (by rfl)]
                  refine step_append2 (o := _) (a := _) (v := v1) (u := .slice (some ⟨W.heap.size, 0, none⟩) 1 1) (l := [] ++ out.take j) (l2 := [o 3]) (S := []) (w0 := wr) (.tmp 68) (.tmp 70) 91 idR elem91 hA3 hsA3 hFA3 (SrcAt.one (renc := idE) (a := o 3) (t := 2) (fr := (0, 0)) m6 1) hl2 (by omega) rfl rfl rfl ?_
                  intro v2 A4 hsA4 hA4 hFA4 hgA4
                  refine hK.out _ _ (hA4) (fun hHeld => ?_)
                  clear hK K
                  try simp only [Act.put, List.setIfInBounds_toArray, List.set_cons_zero, List.set_cons_succ]
                  refine wpAnyH_done (by kernel_rfl) ?_ _
                  simp only [cutQ]
                  go_wp2_with (at_builtin; go_must (refine wpL_append' rfl _ _ 91 rfl idR elem91 (w0 := wr) (l2 := out.drop j) hA4 hsA4 hFA4 (HU.out.2.chg hA4 (by simp)) rfl rfl hl3 (by omega) ?_))
                  intro v3 W9 hs9 h9 hF9 hg9
                  have hs99 : SlAt 2 1 idE W9 v3 (out.take j ++ [o 3] ++ out.drop j) := by simpa using hs9
                  have hC9 : Chg [] w W9 := hC.trans h9
                  have hF99 : Fresh w.heap.size v3 := hF9.mono hC.size
                  have HS9 := Lib.hid hs99
                  clear hg9 h9 hF9 hHeld hs9 hs99
                  go_wp2_with fail
                  go_roundg (l.length - (k + 1) + 1)
                  case measure => rw [Hm.out]; omega
                  case rel => exact ⟨k + 1, _, by omega, rfl, by go_num, HS9.out, by rw [Ho.out.2]; exact HN.out, hF99, hC9⟩
            · have hje : j = out.length := by omega
              have t3 : ((j : Int) == (out.length : Int)) = true := by simp; omega
              have HN := Lib.hid (ins_new HPi.out HJ.out (by rw [List.getElem?_eq_none (by omega)]; simp) h0 h1)
              clear h0 h1
              have hcp := hs2.cap
              cases A2 with
              | none =>
                obtain ⟨rfl, rfl⟩ := hcp.2.2.1 rfl
                obtain rfl : j = 0 := by simpa using hje
                have hU1 : SrcAt idE wr (.slice none 0 0) (([] : List Int).take 0) := SrcAt.nil
                have hU2 : SrcAt idE wr (.slice none 0 0) (([] : List Int).drop 0) := SrcAt.nil
                clear hje hcp
                have HU := Lib.hid (And.intro hU1 hU2)
                clear hU1 hU2
                go_wp2_with fail
                refine wp_cutR (Chg [] wr) 11 (by kernel_rfl) (by kernel_rfl) (fun _ h => Chg.nil h) (fun W hW hS => ?_)
                simp only [List.take_succ_cons, List.take_zero, List.drop_succ_cons, List.drop_zero]
                refine takeH 1 (v := ?vv399) rfl (by kernel_rfl) (by kernel_rfl) (by kernel_rfl) (fun _ _ _ h => h) (by kernel_rfl) (fun Wx hSx => ?hy399) (by assumption) ?hrest399
                case hy399 => go_simp; (try with_reducible rfl)
                simp only [Act.put, List.getElem_toArray, List.getElem_cons_succ, List.getElem_cons_zero, List.setIfInBounds_toArray, List.set_cons_zero, List.set_cons_succ]
                refine takeH 2 (v := ?vv402) rfl (by kernel_rfl) (by kernel_rfl) (by kernel_rfl) (fun _ _ _ h => h) (by kernel_rfl) (fun Wx hSx => ?hy402) (by assumption) ?hrest402
                case hy402 => go_simp; (try with_reducible rfl)
                simp only [Act.put, List.getElem_toArray, List.getElem_cons_succ, List.getElem_cons_zero, List.setIfInBounds_toArray, List.set_cons_zero, List.set_cons_succ]
                refine takeH 3 (v := ?vv405) rfl (by kernel_rfl) (by kernel_rfl) (by kernel_rfl) (fun _ _ _ h => h) (by kernel_rfl) (fun Wx hSx => ?hy405) (by assumption) ?hrest405
                case hy405 => go_simp; (try with_reducible rfl)
                simp only [Act.put, List.getElem_toArray, List.getElem_cons_succ, List.getElem_cons_zero, List.setIfInBounds_toArray, List.set_cons_zero, List.set_cons_succ]
                refine takeH 5 (v := ?vv408) rfl (by kernel_rfl) (by kernel_rfl) (by kernel_rfl) (fun _ _ _ h => h) (by kernel_rfl) (fun Wx hSx => ?hy408) (by assumption) ?hrest408
                case hy408 => go_simp; (try with_reducible rfl)
                simp only [Act.put, List.getElem_toArray, List.getElem_cons_succ, List.getElem_cons_zero, List.setIfInBounds_toArray, List.set_cons_zero, List.set_cons_succ]
                refine takeH 8 (v := ?vv411) rfl (by kernel_rfl) (by kernel_rfl) (by kernel_rfl) (fun _ _ _ h => h) (by kernel_rfl) (fun Wx hSx => ?hy411) (by assumption) ?hrest411
                case hy411 => go_simp; (try with_reducible rfl)
                simp only [Act.put, List.getElem_toArray, List.getElem_cons_succ, List.getElem_cons_zero, List.setIfInBounds_toArray, List.set_cons_zero, List.set_cons_succ]
                refine takeH 9 (v := ?vv414) rfl (by kernel_rfl) (by kernel_rfl) (by kernel_rfl) (fun _ _ _ h => h) (by kernel_rfl) (fun Wx hSx => ?hy414) (by assumption) ?hrest414
                case hy414 => go_simp; (try with_reducible rfl)
                simp only [Act.put, List.getElem_toArray, List.getElem_cons_succ, List.getElem_cons_zero, List.setIfInBounds_toArray, List.set_cons_zero, List.set_cons_succ]
                refine takeH 10 (v := ?vv417) rfl (by kernel_rfl) (by kernel_rfl) (by kernel_rfl) (fun _ _ _ h => h) (by kernel_rfl) (fun Wx hSx => ?hy417) (by assumption) ?hrest417
                case hy417 => go_simp; (try with_reducible rfl)
                simp only [Act.put, List.getElem_toArray, List.getElem_cons_succ, List.getElem_cons_zero, List.setIfInBounds_toArray, List.set_cons_zero, List.set_cons_succ]
                have hl1 : ([] : List Int).length + (([] : List Int).take 0).length ≤ 1000000 := by simp
                have hl2 : ([] ++ ([] : List Int).take 0).length + [o 3].length ≤ 1000000 := by simp
                have hl3 : ([] ++ ([] : List Int).take 0 ++ [o 3]).length + (([] : List Int).drop 0).length ≤ 1000000 := by simp
                refine wpAnyH_ready (rs := [0, 6]) (by kernel_rfl) (by simp) ?_
                refine (AllReadyH.cons rfl (fun K hK => ?_) (AllReadyH.cons rfl (fun K hK => ?_) AllReadyH.nil))
                all_goals try simp only [List.getElem_toArray, List.getElem_cons_succ, List.getElem_cons_zero]
                · go_simp
                  have n0 := heap_alloc_new W (.cells #[] 2)
                  have hn0 := Chg.alloc [] W (.cells #[] 2)
                  have hz0 := hW.size
                  obtain ⟨A1, eA1⟩ : ∃ A1, W.alloc (.cells #[] 2) = A1 := ⟨_, rfl⟩
                  rw [eA1] at n0 hn0 ⊢
                  have hA1 := hW.trans hn0
                  have N0 := Lib.hid (And.intro n0 hn0)
                  clear n0 hn0 eA1
                  refine hK.out _ _ (hA1) (fun hHeld => ?_)
                  clear hK K
                  try simp only [Act.put, List.getElem_toArray, List.getElem_cons_succ, List.getElem_cons_zero, List.setIfInBounds_toArray, List.set_cons_zero, List.set_cons_succ]
                  refine wpAnyH_ready (rs := [4, 6]) (by kernel_rfl) (by simp) ?_
                  refine (AllReadyH.cons rfl (fun K hK => ?_) (AllReadyH.cons rfl (fun K hK => ?_) AllReadyH.nil))
                  all_goals try simp only [List.getElem_toArray, List.getElem_cons_succ, List.getElem_cons_zero]
                  · rw [if_pos (by rfl)]
                    refine step_append2 (o := _) (a := _) (v := .slice (some ⟨W.heap.size, 0, none⟩) 0 0) (u := .slice none 0 0) (l := ([] : List Int)) (l2 := ([] : List Int).take 0) (S := []) (w0 := wr) (.tmp 64) (.tmp 67) 91 idR elem91 hA1 (SlAt.empty N0.out.1 rfl) (Fresh.of (by omega)) (HU.out.1.chg hA1 (by simp)) hl1 (by omega) rfl rfl rfl ?_
                    intro v1 A2 hsA2 hA2 hFA2 hgA2
                    refine hK.out _ _ (hA2) (fun hHeld => ?_)
                    clear hK K
                    try simp only [Act.put, List.setIfInBounds_toArray, List.set_cons_zero, List.set_cons_succ]
                    refine wpAnyH_ready (rs := [6]) (by kernel_rfl) (by simp) ?_
                    refine (AllReadyH.cons rfl (fun K hK => ?_) AllReadyH.nil)
                    all_goals try simp only [List.getElem_toArray, List.getElem_cons_succ, List.getElem_cons_zero]
                    go_simp
                    have n6 := heap_alloc_new A2 (.cells #[.int .i64 (o 3)] 2)
                    have hn6 := Chg.alloc [] A2 (.cells #[.int .i64 (o 3)] 2)
                    obtain ⟨A3, eA3⟩ : ∃ A3, A2.alloc (.cells #[.int .i64 (o 3)] 2) = A3 := ⟨_, rfl⟩
                    rw [eA3] at n6 hn6 ⊢
                    have hA3 := hA2.trans hn6
                    have N6 := Lib.hid (And.intro n6 hn6)
                    clear n6 hn6 eA3
                    refine hK.out _ _ (hA3) (fun hHeld => ?_)
                    clear hK K
                    try simp only [Act.put, List.getElem_toArray, List.getElem_cons_succ, List.getElem_cons_zero, List.setIfInBounds_toArray, List.set_cons_zero, List.set_cons_succ]
                    refine wpAnyH_ready (rs := [7]) (by kernel_rfl) (by simp) ?_
                    refine (AllReadyH.cons rfl (fun K hK => ?_) AllReadyH.nil)
                    all_goals try simp only [List.getElem_toArray, List.getElem_cons_succ, List.getElem_cons_zero]
                    rw [if_pos (by rfl)]
                    refine step_append2 (o := _) (a := _) (v := v1) (u := .slice (some ⟨A2.heap.size, 0, none⟩) 1 1) (l := [] ++ ([] : List Int).take 0) (l2 := [o 3]) (S := []) (w0 := wr) (.tmp 68) (.tmp 70) 91 idR elem91 hA3 (hsA2.chg N6.out.2 (by simp)) hFA2 (SrcAt.one (renc := idE) (a := o 3) (t := 2) (fr := (0, 0)) N6.out.1 1) hl2 (by omega) rfl rfl rfl ?_
                    intro v2 A4 hsA4 hA4 hFA4 hgA4
                    refine hK.out _ _ (hA4) (fun hHeld => ?_)
                    clear hK K
                    try simp only [Act.put, List.setIfInBounds_toArray, List.set_cons_zero, List.set_cons_succ]
                    refine wpAnyH_done (by kernel_rfl) ?_ _
                    simp only [cutQ]
                    go_wp2_with (at_builtin; go_must (refine wpL_append' rfl _ _ 91 rfl idR elem91 (w0 := wr) (l2 := ([] : List Int).drop 0) hA4 hsA4 hFA4 (HU.out.2.chg hA4 (by simp)) rfl rfl hl3 (by omega) ?_))
                    intro v3 W9 hs9 h9 hF9 hg9
                    have hs99 : SlAt 2 1 idE W9 v3 (([] : List Int).take 0 ++ [o 3] ++ ([] : List Int).drop 0) := by simpa using hs9
                    have hC9 : Chg [] w W9 := hC.trans h9
                    have hF99 : Fresh w.heap.size v3 := hF9.mono hC.size
                    have HS9 := Lib.hid hs99
                    clear hg9 h9 hF9 hHeld hs9 hs99
                    go_wp2_with fail
                    go_roundg (l.length - (k + 1) + 1)
                    case measure => rw [Hm.out]; omega
                    case rel => exact ⟨k + 1, _, by omega, rfl, by go_num, HS9.out, by rw [Ho.out.2]; exact HN.out, hF99, hC9⟩
                  · go_simp
                    have n6 := heap_alloc_new A1 (.cells #[.int .i64 (o 3)] 2)
                    have hn6 := Chg.alloc [] A1 (.cells #[.int .i64 (o 3)] 2)
                    obtain ⟨A2, eA2⟩ : ∃ A2, A1.alloc (.cells #[.int .i64 (o 3)] 2) = A2 := ⟨_, rfl⟩
                    rw [eA2] at n6 hn6 ⊢
                    have hA2 := hA1.trans hn6
                    have N6 := Lib.hid (And.intro n6 hn6)
                    clear n6 hn6 eA2
                    refine hK.out _ _ (hA2) (fun hHeld => ?_)
                    clear hK K
                    try simp only [Act.put, List.getElem_toArray, List.getElem_cons_succ, List.getElem_cons_zero, List.setIfInBounds_toArray, List.set_cons_zero, List.set_cons_succ]
                    refine wpAnyH_ready (rs := [4]) (by kernel_rfl) (by simp) ?_
                    refine (AllReadyH.cons rfl (fun K hK => ?_) AllReadyH.nil)
                    all_goals try simp only [List.getElem_toArray, List.getElem_cons_succ, List.getElem_cons_zero]
                    rw [if_pos (by rfl)]
                    refine step_append2 (o := _) (a := _) (v := .slice (some ⟨W.heap.size, 0, none⟩) 0 0) (u := .slice none 0 0) (l := ([] : List Int)) (l2 := ([] : List Int).take 0) (S := []) (w0 := wr) (.tmp 64) (.tmp 67) 91 idR elem91 hA2 (SlAt.empty (N6.out.2.at_ N0.out.1 (by simp)) rfl) (Fresh.of (by omega)) (HU.out.1.chg hA2 (by simp)) hl1 (by omega) rfl rfl rfl ?_
                    intro v1 A3 hsA3 hA3 hFA3 hgA3
                    refine hK.out _ _ (hA3) (fun hHeld => ?_)
                    clear hK K
                    try simp only [Act.put, List.setIfInBounds_toArray, List.set_cons_zero, List.set_cons_succ]
                    have m6 : A3.heap[A1.heap.size]? = some (.cells #[.int .i64 (o 3)] 2 (0, 0)) := (hgA3.block _ (blk_lt N6.out.1) (by have := blk_lt N0.out.1; simp [Value.ownBlock]; omega)).trans N6.out.1
                    refine wpAnyH_ready (rs := [7]) (by kernel_rfl) (by simp) ?_
                    refine (AllReadyH.cons rfl (fun K hK => ?_) AllReadyH.nil)
                    all_goals try simp only [List.getElem_toArray, List.getElem_cons_succ, List.getElem_cons_zero]
                    rw [if_pos (by rfl)]
                    refine step_append2 (o := _) (a := _) (v := v1) (u := .slice (some ⟨A1.heap.size, 0, none⟩) 1 1) (l := [] ++ ([] : List Int).take 0) (l2 := [o 3]) (S := []) (w0 := wr) (.tmp 68) (.tmp 70) 91 idR elem91 hA3 hsA3 hFA3 (SrcAt.one (renc := idE) (a := o 3) (t := 2) (fr := (0, 0)) m6 1) hl2 (by omega) rfl rfl rfl ?_
                    intro v2 A4 hsA4 hA4 hFA4 hgA4
                    refine hK.out _ _ (hA4) (fun hHeld => ?_)
                    clear hK K
                    try simp only [Act.put, List.setIfInBounds_toArray, List.set_cons_zero, List.set_cons_succ]
                    refine wpAnyH_done (by kernel_rfl) ?_ _
                    simp only [cutQ]
                    go_wp2_with (at_builtin; go_must (refine wpL_append' rfl _ _ 91 rfl idR elem91 (w0 := wr) (l2 := ([] : List Int).drop 0) hA4 hsA4 hFA4 (HU.out.2.chg hA4 (by simp)) rfl rfl hl3 (by omega) ?_))
                    intro v3 W9 hs9 h9 hF9 hg9
                    have hs99 : SlAt 2 1 idE W9 v3 (([] : List Int).take 0 ++ [o 3] ++ ([] : List Int).drop 0) := by simpa using hs9
                    have hC9 : Chg [] w W9 := hC.trans h9
                    have hF99 : Fresh w.heap.size v3 := hF9.mono hC.size
                    have HS9 := Lib.hid hs99
                    clear hg9 h9 hF9 hHeld hs9 hs99
                    go_wp2_with fail
                    go_roundg (l.length - (k + 1) + 1)
                    case measure => rw [Hm.out]; omega
                    case rel => exact ⟨k + 1, _, by omega, rfl, by go_num, HS9.out, by rw [Ho.out.2]; exact HN.out, hF99, hC9⟩
                · go_simp
                  have n6 := heap_alloc_new W (.cells #[.int .i64 (o 3)] 2)
                  have hn6 := Chg.alloc [] W (.cells #[.int .i64 (o 3)] 2)
                  obtain ⟨A1, eA1⟩ : ∃ A1, W.alloc (.cells #[.int .i64 (o 3)] 2) = A1 := ⟨_, rfl⟩
                  rw [eA1] at n6 hn6 ⊢
                  have hA1 := hW.trans hn6
                  have N6 := Lib.hid (And.intro n6 hn6)
                  clear n6 hn6 eA1
                  refine hK.out _ _ (hA1) (fun hHeld => ?_)
                  clear hK K
                  try simp only [Act.put, List.getElem_toArray, List.getElem_cons_succ, List.getElem_cons_zero, List.setIfInBounds_toArray, List.set_cons_zero, List.set_cons_succ]
                  refine wpAnyH_ready (rs := [0]) (by kernel_rfl) (by simp) ?_
                  refine (AllReadyH.cons rfl (fun K hK => ?_) AllReadyH.nil)
                  all_goals try simp only [List.getElem_toArray, List.getElem_cons_zero]
                  go_simp
                  have n0 := heap_alloc_new A1 (.cells #[] 2)
                  have hn0 := Chg.alloc [] A1 (.cells #[] 2)
                  have hz0 := hA1.size
                  obtain ⟨A2, eA2⟩ : ∃ A2, A1.alloc (.cells #[] 2) = A2 := ⟨_, rfl⟩
                  rw [eA2] at n0 hn0 ⊢
                  have hA2 := hA1.trans hn0
                  have N0 := Lib.hid (And.intro n0 hn0)
                  clear n0 hn0 eA2
                  refine hK.out _ _ (hA2) (fun hHeld => ?_)
                  clear hK K
                  try simp only [Act.put, List.getElem_toArray, List.getElem_cons_succ, List.getElem_cons_zero, List.setIfInBounds_toArray, List.set_cons_zero, List.set_cons_succ]
                  refine wpAnyH_ready (rs := [4]) (by kernel_rfl) (by simp) ?_
                  refine (AllReadyH.cons rfl (fun K hK => ?_) AllReadyH.nil)
                  all_goals try simp only [List.getElem_toArray, List.getElem_cons_succ, List.getElem_cons_zero]
                  rw [if_pos (by rfl)]
                  refine step_append2 (o := _) (a := _) (v := .slice (some ⟨A1.heap.size, 0, none⟩) 0 0) (u := .slice none 0 0) (l := ([] : List Int)) (l2 := ([] : List Int).take 0) (S := []) (w0 := wr) (.tmp 64) (.tmp 67) 91 idR elem91 hA2 (SlAt.empty N0.out.1 rfl) (Fresh.of (by omega)) (HU.out.1.chg hA2 (by simp)) hl1 (by omega) rfl rfl rfl ?_
                  intro v1 A3 hsA3 hA3 hFA3 hgA3
                  refine hK.out _ _ (hA3) (fun hHeld => ?_)
                  clear hK K
                  try simp only [Act.put, List.setIfInBounds_toArray, List.set_cons_zero, List.set_cons_succ]
                  have m6 : A3.heap[W.heap.size]? = some (.cells #[.int .i64 (o 3)] 2 (0, 0)) := (hgA3.block _ (blk_lt (N0.out.2.at_ N6.out.1 (by simp))) (by have := blk_lt N6.out.1; simp [Value.ownBlock]; omega)).trans (N0.out.2.at_ N6.out.1 (by simp))
                  refine wpAnyH_ready (rs := [7]) (by kernel_rfl) (by simp) ?_
                  refine (AllReadyH.cons rfl (fun K hK => ?_) AllReadyH.nil)
                  all_goals try simp only [List.getElem_toArray, List.getElem_cons_succ, List.getElem_cons_zero]
                  rw [if_pos (by rfl)]
                  refine step_append2 (o := _) (a := _) (v := v1) (u := .slice (some ⟨W.heap.size, 0, none⟩) 1 1) (l := [] ++ ([] : List Int).take 0) (l2 := [o 3]) (S := []) (w0 := wr) (.tmp 68) (.tmp 70) 91 idR elem91 hA3 hsA3 hFA3 (SrcAt.one (renc := idE) (a := o 3) (t := 2) (fr := (0, 0)) m6 1) hl2 (by omega) rfl rfl rfl ?_
                  intro v2 A4 hsA4 hA4 hFA4 hgA4
                  refine hK.out _ _ (hA4) (fun hHeld => ?_)
                  clear hK K
                  try simp only [Act.put, List.setIfInBounds_toArray, List.set_cons_zero, List.set_cons_succ]
                  refine wpAnyH_done (by kernel_rfl) ?_ _
                  simp only [cutQ]
                  go_wp2_with (at_builtin; go_must (refine wpL_append' rfl _ _ 91 rfl idR elem91 (w0 := wr) (l2 := ([] : List Int).drop 0) hA4 hsA4 hFA4 (HU.out.2.chg hA4 (by simp)) rfl rfl hl3 (by omega) ?_))
                  intro v3 W9 hs9 h9 hF9 hg9
                  have hs99 : SlAt 2 1 idE W9 v3 (([] : List Int).take 0 ++ [o 3] ++ ([] : List Int).drop 0) := by simpa using hs9
                  have hC9 : Chg [] w W9 := hC.trans h9
                  have hF99 : Fresh w.heap.size v3 := hF9.mono hC.size
                  have HS9 := Lib.hid hs99
                  clear hg9 h9 hF9 hHeld hs9 hs99
                  go_wp2_with fail
                  go_roundg (l.length - (k + 1) + 1)
                  case measure => rw [Hm.out]; omega
                  case rel => exact ⟨k + 1, _, by omega, rfl, by go_num, HS9.out, by rw [Ho.out.2]; exact HN.out, hF99, hC9⟩
              | some x =>
                obtain ⟨g5, rfl⟩ := hcp.2.2.2 x rfl
                have hcp := hcp.2.1
                have hU1 : SrcAt idE wr (.slice (some ⟨g5, 0, none⟩) j cc2) (out.take j) := hs2.src_take (by omega) _
                have hjl2 : j ≤ out.length := by omega
                have hz0 : out.length - j = 0 := by omega
                have hd0 : out.drop j = [] := by rw [List.drop_eq_nil_iff]; omega
                by_cases hcj : cc2 = j
                · subst hcj
                  have hU2 : SrcAt idE wr (.slice (some ⟨g5, 0, none⟩) 0 0) (out.drop cc2) := by rw [hd0]; exact SrcAt.nil
                  clear hje hcp hd0 hz0
                  have HU := Lib.hid (And.intro hU1 hU2)
                  clear hU1 hU2
                  go_wp2_with fail
                  refine wp_cutR (Chg [] wr) 11 (by kernel_rfl) (by kernel_rfl) (fun _ h => Chg.nil h) (fun W hW hS => ?_)
                  simp only [List.take_succ_cons, List.take_zero, List.drop_succ_cons, List.drop_zero]
                  refine takeH 1 (v := ?vv600) rfl (by kernel_rfl) (by kernel_rfl) (by kernel_rfl) (fun _ _ _ h => h) (by kernel_rfl) (fun Wx hSx => ?hy600) (by assumption) ?hrest600
                  case hy600 => go_simp; (try with_reducible rfl)
                  simp only [Act.put, List.getElem_toArray, List.getElem_cons_succ, List.getElem_cons_zero, List.setIfInBounds_toArray, List.set_cons_zero, List.set_cons_succ]
                  refine takeH 2 (v := ?vv603) rfl (by kernel_rfl) (by kernel_rfl) (by kernel_rfl) (fun _ _ _ h => h) (by kernel_rfl) (fun Wx hSx => ?hy603) (by assumption) ?hrest603
                  case hy603 => go_simp; (try with_reducible rfl)
                  simp only [Act.put, List.getElem_toArray, List.getElem_cons_succ, List.getElem_cons_zero, List.setIfInBounds_toArray, List.set_cons_zero, List.set_cons_succ]
                  refine takeH 3 (v := ?vv606) rfl (by kernel_rfl) (by kernel_rfl) (by kernel_rfl) (fun _ _ _ h => h) (by kernel_rfl) (fun Wx hSx => ?hy606) (by assumption) ?hrest606
                  case hy606 => go_simp; (try with_reducible rfl)
                  simp only [Act.put, List.getElem_toArray, List.getElem_cons_succ, List.getElem_cons_zero, List.setIfInBounds_toArray, List.set_cons_zero, List.set_cons_succ]
                  refine takeH 5 (v := ?vv609) rfl (by kernel_rfl) (by kernel_rfl) (by kernel_rfl) (fun _ _ _ h => h) (by kernel_rfl) (fun Wx hSx => ?hy609) (by assumption) ?hrest609
                  case hy609 => go_simp; (try with_reducible rfl)
                  simp only [Act.put, List.getElem_toArray, List.getElem_cons_succ, List.getElem_cons_zero, List.setIfInBounds_toArray, List.set_cons_zero, List.set_cons_succ]
                  refine takeH 8 (v := ?vv612) rfl (by kernel_rfl) (by kernel_rfl) (by kernel_rfl) (fun _ _ _ h => h) (by kernel_rfl) (fun Wx hSx => ?hy612) (by assumption) ?hrest612
                  case hy612 => go_simp; (try with_reducible rfl)
                  simp only [Act.put, List.getElem_toArray, List.getElem_cons_succ, List.getElem_cons_zero, List.setIfInBounds_toArray, List.set_cons_zero, List.set_cons_succ]
                  refine takeH 9 (v := ?vv615) rfl (by kernel_rfl) (by kernel_rfl) (by kernel_rfl) (fun _ _ _ h => h) (by kernel_rfl) (fun Wx hSx => ?hy615) (by assumption) ?hrest615
                  case hy615 => go_simp; (try with_reducible rfl)
                  simp only [Act.put, List.getElem_toArray, List.getElem_cons_succ, List.getElem_cons_zero, List.setIfInBounds_toArray, List.set_cons_zero, List.set_cons_succ]
                  refine takeH 10 (v := ?vv618) rfl (by kernel_rfl) (by kernel_rfl) (by kernel_rfl) (fun _ _ _ h => h) (by kernel_rfl) (fun Wx hSx => ?hy618) (by assumption) ?hrest618
                  case hy618 => go_simp; (try with_reducible rfl)
                  simp only [Act.put, List.getElem_toArray, List.getElem_cons_succ, List.getElem_cons_zero, List.setIfInBounds_toArray, List.set_cons_zero, List.set_cons_succ]
                  have hl1 : ([] : List Int).length + (out.take cc2).length ≤ 1000000 := by simp; omega
                  have hl2 : ([] ++ out.take cc2).length + [o 3].length ≤ 1000000 := by simp; omega
                  have hl3 : ([] ++ out.take cc2 ++ [o 3]).length + (out.drop cc2).length ≤ 1000000 := by simp; omega
                  refine wpAnyH_ready (rs := [0, 6]) (by kernel_rfl) (by simp) ?_
                  refine (AllReadyH.cons rfl (fun K hK => ?_) (AllReadyH.cons rfl (fun K hK => ?_) AllReadyH.nil))
                  all_goals try simp only [List.getElem_toArray, List.getElem_cons_succ, List.getElem_cons_zero]
                  · go_simp
                    have n0 := heap_alloc_new W (.cells #[] 2)
                    have hn0 := Chg.alloc [] W (.cells #[] 2)
                    have hz0 := hW.size
                    obtain ⟨A1, eA1⟩ : ∃ A1, W.alloc (.cells #[] 2) = A1 := ⟨_, rfl⟩
                    rw [eA1] at n0 hn0 ⊢
                    have hA1 := hW.trans hn0
                    have N0 := Lib.hid (And.intro n0 hn0)
                    clear n0 hn0 eA1
                    refine hK.out _ _ (hA1) (fun hHeld => ?_)
                    clear hK K
                    try simp only [Act.put, List.getElem_toArray, List.getElem_cons_succ, List.getElem_cons_zero, List.setIfInBounds_toArray, List.set_cons_zero, List.set_cons_succ]
                    refine wpAnyH_ready (rs := [4, 6]) (by kernel_rfl) (by simp) ?_
                    refine (AllReadyH.cons rfl (fun K hK => ?_) (AllReadyH.cons rfl (fun K hK => ?_) AllReadyH.nil))
                    all_goals try simp only [List.getElem_toArray, List.getElem_cons_succ, List.getElem_cons_zero]
                    · rw [if_pos (by rfl)]
                      refine step_append2 (o := _) (a := _) (v := .slice (some ⟨W.heap.size, 0, none⟩) 0 0) (u := .slice (some ⟨g5, 0, none⟩) cc2 cc2) (l := ([] : List Int)) (l2 := out.take cc2) (S := []) (w0 := wr) (.tmp 64) (.tmp 67) 91 idR elem91 hA1 (SlAt.empty N0.out.1 rfl) (Fresh.of (by omega)) (HU.out.1.chg hA1 (by simp)) hl1 (by omega) rfl rfl rfl ?_
                      intro v1 A2 hsA2 hA2 hFA2 hgA2
                      refine hK.out _ _ (hA2) (fun hHeld => ?_)
                      clear hK K
                      try simp only [Act.put, List.setIfInBounds_toArray, List.set_cons_zero, List.set_cons_succ]
                      refine wpAnyH_ready (rs := [6]) (by kernel_rfl) (by simp) ?_
                      refine (AllReadyH.cons rfl (fun K hK => ?_) AllReadyH.nil)
                      all_goals try simp only [List.getElem_toArray, List.getElem_cons_succ, List.getElem_cons_zero]
                      go_simp
                      have n6 := heap_alloc_new A2 (.cells #[.int .i64 (o 3)] 2)
                      have hn6 := Chg.alloc [] A2 (.cells #[.int .i64 (o 3)] 2)
                      obtain ⟨A3, eA3⟩ : ∃ A3, A2.alloc (.cells #[.int .i64 (o 3)] 2) = A3 := ⟨_, rfl⟩
                      rw [eA3] at n6 hn6 ⊢
                      have hA3 := hA2.trans hn6
                      have N6 := Lib.hid (And.intro n6 hn6)
                      clear n6 hn6 eA3
                      refine hK.out _ _ (hA3) (fun hHeld => ?_)
                      clear hK K
                      try simp only [Act.put, List.getElem_toArray, List.getElem_cons_succ, List.getElem_cons_zero, List.setIfInBounds_toArray, List.set_cons_zero, List.set_cons_succ]
                      refine wpAnyH_ready (rs := [7]) (by kernel_rfl) (by simp) ?_
                      refine (AllReadyH.cons rfl (fun K hK => ?_) AllReadyH.nil)
                      all_goals try simp only [List.getElem_toArray, List.getElem_cons_succ, List.getElem_cons_zero]
                      rw [if_pos (by rfl)]
                      refine step_append2 (o := _) (a := _) (v := v1) (u := .slice (some ⟨A2.heap.size, 0, none⟩) 1 1) (l := [] ++ out.take cc2) (l2 := [o 3]) (S := []) (w0 := wr) (.tmp 68) (.tmp 70) 91 idR elem91 hA3 (hsA2.chg N6.out.2 (by simp)) hFA2 (SrcAt.one (renc := idE) (a := o 3) (t := 2) (fr := (0, 0)) N6.out.1 1) hl2 (by omega) rfl rfl rfl ?_
                      intro v2 A4 hsA4 hA4 hFA4 hgA4
                      refine hK.out _ _ (hA4) (fun hHeld => ?_)
                      clear hK K
                      try simp only [Act.put, List.setIfInBounds_toArray, List.set_cons_zero, List.set_cons_succ]
                      refine wpAnyH_done (by kernel_rfl) ?_ _
                      simp only [cutQ]
                      go_wp2_with (at_builtin; go_must (refine wpL_append' rfl _ _ 91 rfl idR elem91 (w0 := wr) (l2 := out.drop cc2) hA4 hsA4 hFA4 (HU.out.2.chg hA4 (by simp)) rfl rfl hl3 (by omega) ?_))
                      intro v3 W9 hs9 h9 hF9 hg9
                      have hs99 : SlAt 2 1 idE W9 v3 (out.take cc2 ++ [o 3] ++ out.drop cc2) := by simpa using hs9
                      have hC9 : Chg [] w W9 := hC.trans h9
                      have hF99 : Fresh w.heap.size v3 := hF9.mono hC.size
                      have HS9 := Lib.hid hs99
                      clear hg9 h9 hF9 hHeld hs9 hs99
                      go_wp2_with fail
                      go_roundg (l.length - (k + 1) + 1)
                      case measure => rw [Hm.out]; omega
                      case rel => exact ⟨k + 1, _, by omega, rfl, by go_num, HS9.out, by rw [Ho.out.2]; exact HN.out, hF99, hC9⟩
                    · go_simp
                      have n6 := heap_alloc_new A1 (.cells #[.int .i64 (o 3)] 2)
                      have hn6 := Chg.alloc [] A1 (.cells #[.int .i64 (o 3)] 2)
                      obtain ⟨A2, eA2⟩ : ∃ A2, A1.alloc (.cells #[.int .i64 (o 3)] 2) = A2 := ⟨_, rfl⟩
                      rw [eA2] at n6 hn6 ⊢
                      have hA2 := hA1.trans hn6
                      have N6 := Lib.hid (And.intro n6 hn6)
                      clear n6 hn6 eA2
                      refine hK.out _ _ (hA2) (fun hHeld => ?_)
                      clear hK K
                      try simp only [Act.put, List.getElem_toArray, List.getElem_cons_succ, List.getElem_cons_zero, List.setIfInBounds_toArray, List.set_cons_zero, List.set_cons_succ]
                      refine wpAnyH_ready (rs := [4]) (by kernel_rfl) (by simp) ?_
                      refine (AllReadyH.cons rfl (fun K hK => ?_) AllReadyH.nil)
                      all_goals try simp only [List.getElem_toArray, List.getElem_cons_succ, List.getElem_cons_zero]
                      rw [if_pos (by rfl)]
                      refine step_append2 (o := _) (a := _) (v := .slice (some ⟨W.heap.size, 0, none⟩) 0 0) (u := .slice (some ⟨g5, 0, none⟩) cc2 cc2) (l := ([] : List Int)) (l2 := out.take cc2) (S := []) (w0 := wr) (.tmp 64) (.tmp 67) 91 idR elem91 hA2 (SlAt.empty (N6.out.2.at_ N0.out.1 (by simp)) rfl) (Fresh.of (by omega)) (HU.out.1.chg hA2 (by simp)) hl1 (by omega) rfl rfl rfl ?_
                      intro v1 A3 hsA3 hA3 hFA3 hgA3
                      refine hK.out _ _ (hA3) (fun hHeld => ?_)
                      clear hK K
                      try simp only [Act.put, List.setIfInBounds_toArray, List.set_cons_zero, List.set_cons_succ]
                      have m6 : A3.heap[A1.heap.size]? = some (.cells #[.int .i64 (o 3)] 2 (0, 0)) := (hgA3.block _ (blk_lt N6.out.1) (by have := blk_lt N0.out.1; simp [Value.ownBlock]; omega)).trans N6.out.1
                      refine wpAnyH_ready (rs := [7]) (by kernel_rfl) (by simp) ?_
                      refine (AllReadyH.cons rfl (fun K hK => ?_) AllReadyH.nil)
                      all_goals try simp only [List.getElem_toArray, List.getElem_cons_succ, List.getElem_cons_zero]
                      rw [if_pos (by rfl)]
                      refine step_append2 (o := _) (a := _) (v := v1) (u := .slice (some ⟨A1.heap.size, 0, none⟩) 1 1) (l := [] ++ out.take cc2) (l2 := [o 3]) (S := []) (w0 := wr) (.tmp 68) (.tmp 70) 91 idR elem91 hA3 hsA3 hFA3 (SrcAt.one (renc := idE) (a := o 3) (t := 2) (fr := (0, 0)) m6 1) hl2 (by omega) rfl rfl rfl ?_
                      intro v2 A4 hsA4 hA4 hFA4 hgA4
                      refine hK.out _ _ (hA4) (fun hHeld => ?_)
                      clear hK K
                      try simp only [Act.put, List.setIfInBounds_toArray, List.set_cons_zero, List.set_cons_succ]
                      refine wpAnyH_done (by kernel_rfl) ?_ _
                      simp only [cutQ]
                      go_wp2_with (at_builtin; go_must (refine wpL_append' rfl _ _ 91 rfl idR elem91 (w0 := wr) (l2 := out.drop cc2) hA4 hsA4 hFA4 (HU.out.2.chg hA4 (by simp)) rfl rfl hl3 (by omega) ?_))
                      intro v3 W9 hs9 h9 hF9 hg9
                      have hs99 : SlAt 2 1 idE W9 v3 (out.take cc2 ++ [o 3] ++ out.drop cc2) := by simpa using hs9
                      have hC9 : Chg [] w W9 := hC.trans h9
                      have hF99 : Fresh w.heap.size v3 := hF9.mono hC.size
                      have HS9 := Lib.hid hs99
                      clear hg9 h9 hF9 hHeld hs9 hs99
                      go_wp2_with fail
                      go_roundg (l.length - (k + 1) + 1)
                      case measure => rw [Hm.out]; omega
                      case rel => exact ⟨k + 1, _, by omega, rfl, by go_num, HS9.out, by rw [Ho.out.2]; exact HN.out, hF99, hC9⟩
                  · go_simp
                    have n6 := heap_alloc_new W (.cells #[.int .i64 (o 3)] 2)
                    have hn6 := Chg.alloc [] W (.cells #[.int .i64 (o 3)] 2)
                    obtain ⟨A1, eA1⟩ : ∃ A1, W.alloc (.cells #[.int .i64 (o 3)] 2) = A1 := ⟨_, rfl⟩
                    rw [eA1] at n6 hn6 ⊢
                    have hA1 := hW.trans hn6
                    have N6 := Lib.hid (And.intro n6 hn6)
                    clear n6 hn6 eA1
                    refine hK.out _ _ (hA1) (fun hHeld => ?_)
                    clear hK K
                    try simp only [Act.put, List.getElem_toArray, List.getElem_cons_succ, List.getElem_cons_zero, List.setIfInBounds_toArray, List.set_cons_zero, List.set_cons_succ]
                    refine wpAnyH_ready (rs := [0]) (by kernel_rfl) (by simp) ?_
                    refine (AllReadyH.cons rfl (fun K hK => ?_) AllReadyH.nil)
                    all_goals try simp only [List.getElem_toArray, List.getElem_cons_zero]
                    go_simp
                    have n0 := heap_alloc_new A1 (.cells #[] 2)
                    have hn0 := Chg.alloc [] A1 (.cells #[] 2)
                    have hz0 := hA1.size
                    obtain ⟨A2, eA2⟩ : ∃ A2, A1.alloc (.cells #[] 2) = A2 := ⟨_, rfl⟩
                    rw [eA2] at n0 hn0 ⊢
                    have hA2 := hA1.trans hn0
                    have N0 := Lib.hid (And.intro n0 hn0)
                    clear n0 hn0 eA2
                    refine hK.out _ _ (hA2) (fun hHeld => ?_)
                    clear hK K
                    try simp only [Act.put, List.getElem_toArray, List.getElem_cons_succ, List.getElem_cons_zero, List.setIfInBounds_toArray, List.set_cons_zero, List.set_cons_succ]
                    refine wpAnyH_ready (rs := [4]) (by kernel_rfl) (by simp) ?_
                    refine (AllReadyH.cons rfl (fun K hK => ?_) AllReadyH.nil)
                    all_goals try simp only [List.getElem_toArray, List.getElem_cons_succ, List.getElem_cons_zero]
                    rw [if_pos (by rfl)]
                    refine step_append2 (o := _) (a := _) (v := .slice (some ⟨A1.heap.size, 0, none⟩) 0 0) (u := .slice (some ⟨g5, 0, none⟩) cc2 cc2) (l := ([] : List Int)) (l2 := out.take cc2) (S := []) (w0 := wr) (.tmp 64) (.tmp 67) 91 idR elem91 hA2 (SlAt.empty N0.out.1 rfl) (Fresh.of (by omega)) (HU.out.1.chg hA2 (by simp)) hl1 (by omega) rfl rfl rfl ?_
                    intro v1 A3 hsA3 hA3 hFA3 hgA3
                    refine hK.out _ _ (hA3) (fun hHeld => ?_)
                    clear hK K
                    try simp only [Act.put, List.setIfInBounds_toArray, List.set_cons_zero, List.set_cons_succ]
                    have m6 : A3.heap[W.heap.size]? = some (.cells #[.int .i64 (o 3)] 2 (0, 0)) := (hgA3.block _ (blk_lt (N0.out.2.at_ N6.out.1 (by simp))) (by have := blk_lt N6.out.1; simp [Value.ownBlock]; omega)).trans (N0.out.2.at_ N6.out.1 (by simp))
                    refine wpAnyH_ready (rs := [7]) (by kernel_rfl) (by simp) ?_
                    refine (AllReadyH.cons rfl (fun K hK => ?_) AllReadyH.nil)
                    all_goals try simp only [List.getElem_toArray, List.getElem_cons_succ, List.getElem_cons_zero]
                    rw [if_pos (by rfl)]
                    refine step_append2 (o := _) (a := _) (v := v1) (u := .slice (some ⟨W.heap.size, 0, none⟩) 1 1) (l := [] ++ out.take cc2) (l2 := [o 3]) (S := []) (w0 := wr) (.tmp 68) (.tmp 70) 91 idR elem91 hA3 hsA3 hFA3 (SrcAt.one (renc := idE) (a := o 3) (t := 2) (fr := (0, 0)) m6 1) hl2 (by omega) rfl rfl rfl ?_
                    intro v2 A4 hsA4 hA4 hFA4 hgA4
                    refine hK.out _ _ (hA4) (fun hHeld => ?_)
                    clear hK K
                    try simp only [Act.put, List.setIfInBounds_toArray, List.set_cons_zero, List.set_cons_succ]
                    refine wpAnyH_done (by kernel_rfl) ?_ _
                    simp only [cutQ]
                    go_wp2_with (at_builtin; go_must (refine wpL_append' rfl _ _ 91 rfl idR elem91 (w0 := wr) (l2 := out.drop cc2) hA4 hsA4 hFA4 (HU.out.2.chg hA4 (by simp)) rfl rfl hl3 (by omega) ?_))
                    intro v3 W9 hs9 h9 hF9 hg9
                    have hs99 : SlAt 2 1 idE W9 v3 (out.take cc2 ++ [o 3] ++ out.drop cc2) := by simpa using hs9
                    have hC9 : Chg [] w W9 := hC.trans h9
                    have hF99 : Fresh w.heap.size v3 := hF9.mono hC.size
                    have HS9 := Lib.hid hs99
                    clear hg9 h9 hF9 hHeld hs9 hs99
                    go_wp2_with fail
                    go_roundg (l.length - (k + 1) + 1)
                    case measure => rw [Hm.out]; omega
                    case rel => exact ⟨k + 1, _, by omega, rfl, by go_num, HS9.out, by rw [Ho.out.2]; exact HN.out, hF99, hC9⟩
                · have hjc : j ≤ cc2 := by omega
                  have hjn : ¬ cc2 = j := hcj
                  have hU2 : SrcAt idE wr (.slice (some ⟨g5, j, none⟩) (out.length - j) (cc2 - j)) (out.drop j) := by rw [hz0, hd0]; exact SrcAt.nil
                  clear hje hcp hd0 hz0 hcj
                  have HU := Lib.hid (And.intro hU1 hU2)
                  clear hU1 hU2
                  go_wp2_with fail
                  refine wp_cutR (Chg [] wr) 11 (by kernel_rfl) (by kernel_rfl) (fun _ h => Chg.nil h) (fun W hW hS => ?_)
                  simp only [List.take_succ_cons, List.take_zero, List.drop_succ_cons, List.drop_zero]
                  refine takeH 1 (v := ?vv794) rfl (by kernel_rfl) (by kernel_rfl) (by kernel_rfl) (fun _ _ _ h => h) (by kernel_rfl) (fun Wx hSx => ?hy794) (by assumption) ?hrest794
                  case hy794 => go_simp; (try with_reducible rfl)
                  simp only [Act.put, List.getElem_toArray, List.getElem_cons_succ, List.getElem_cons_zero, List.setIfInBounds_toArray, List.set_cons_zero, List.set_cons_succ]
                  refine takeH 2 (v := ?vv797) rfl (by kernel_rfl) (by kernel_rfl) (by kernel_rfl) (fun _ _ _ h => h) (by kernel_rfl) (fun Wx hSx => ?hy797) (by assumption) ?hrest797
                  case hy797 => go_simp; (try with_reducible rfl)
                  simp only [Act.put, List.getElem_toArray, List.getElem_cons_succ, List.getElem_cons_zero, List.setIfInBounds_toArray, List.set_cons_zero, List.set_cons_succ]
                  refine takeH 3 (v := ?vv800) rfl (by kernel_rfl) (by kernel_rfl) (by kernel_rfl) (fun _ _ _ h => h) (by kernel_rfl) (fun Wx hSx => ?hy800) (by assumption) ?hrest800
                  case hy800 => go_simp; (try with_reducible rfl)
                  simp only [Act.put, List.getElem_toArray, List.getElem_cons_succ, List.getElem_cons_zero, List.setIfInBounds_toArray, List.set_cons_zero, List.set_cons_succ]
                  refine takeH 5 (v := ?vv803) rfl (by kernel_rfl) (by kernel_rfl) (by kernel_rfl) (fun _ _ _ h => h) (by kernel_rfl) (fun Wx hSx => ?hy803) (by assumption) ?hrest803
                  case hy803 => go_simp; (try with_reducible rfl)
                  simp only [Act.put, List.getElem_toArray, List.getElem_cons_succ, List.getElem_cons_zero, List.setIfInBounds_toArray, List.set_cons_zero, List.set_cons_succ]
                  refine takeH 8 (v := ?vv806) rfl (by kernel_rfl) (by kernel_rfl) (by kernel_rfl) (fun _ _ _ h => h) (by kernel_rfl) (fun Wx hSx => ?hy806) (by assumption) ?hrest806
                  case hy806 => go_simp; (try with_reducible rfl)
                  simp only [Act.put, List.getElem_toArray, List.getElem_cons_succ, List.getElem_cons_zero, List.setIfInBounds_toArray, List.set_cons_zero, List.set_cons_succ]
                  refine takeH 9 (v := ?vv809) rfl (by kernel_rfl) (by kernel_rfl) (by kernel_rfl) (fun _ _ _ h => h) (by kernel_rfl) (fun Wx hSx => ?hy809) (by assumption) ?hrest809
                  case hy809 => go_simp; (try with_reducible rfl)
                  simp only [Act.put, List.getElem_toArray, List.getElem_cons_succ, List.getElem_cons_zero, List.setIfInBounds_toArray, List.set_cons_zero, List.set_cons_succ]
                  refine takeH 10 (v := ?vv812) rfl (by kernel_rfl) (by kernel_rfl) (by kernel_rfl) (fun _ _ _ h => h) (by kernel_rfl) (fun Wx hSx => ?hy812) (by assumption) ?hrest812
                  case hy812 => go_simp; (try with_reducible rfl)
                  simp only [Act.put, List.getElem_toArray, List.getElem_cons_succ, List.getElem_cons_zero, List.setIfInBounds_toArray, List.set_cons_zero, List.set_cons_succ]
                  have hl1 : ([] : List Int).length + (out.take j).length ≤ 1000000 := by simp; omega
                  have hl2 : ([] ++ out.take j).length + [o 3].length ≤ 1000000 := by simp; omega
                  have hl3 : ([] ++ out.take j ++ [o 3]).length + (out.drop j).length ≤ 1000000 := by simp; omega
                  refine wpAnyH_ready (rs := [0, 6]) (by kernel_rfl) (by simp) ?_
                  refine (AllReadyH.cons rfl (fun K hK => ?_) (AllReadyH.cons rfl (fun K hK => ?_) AllReadyH.nil))
                  all_goals try simp only [List.getElem_toArray, List.getElem_cons_succ, List.getElem_cons_zero]
                  · go_simp
                    have n0 := heap_alloc_new W (.cells #[] 2)
                    have hn0 := Chg.alloc [] W (.cells #[] 2)
                    have hz0 := hW.size
                    obtain ⟨A1, eA1⟩ : ∃ A1, W.alloc (.cells #[] 2) = A1 := ⟨_, rfl⟩
                    rw [eA1] at n0 hn0 ⊢
                    have hA1 := hW.trans hn0
                    have N0 := Lib.hid (And.intro n0 hn0)
                    clear n0 hn0 eA1
                    refine hK.out _ _ (hA1) (fun hHeld => ?_)
                    clear hK K
                    try simp only [Act.put, List.getElem_toArray, List.getElem_cons_succ, List.getElem_cons_zero, List.setIfInBounds_toArray, List.set_cons_zero, List.set_cons_succ]
                    refine wpAnyH_ready (rs := [4, 6]) (by kernel_rfl) (by simp) ?_
                    refine (AllReadyH.cons rfl (fun K hK => ?_) (AllReadyH.cons rfl (fun K hK => ?_) AllReadyH.nil))
                    all_goals try simp only [List.getElem_toArray, List.getElem_cons_succ, List.getElem_cons_zero]
                    · rw [if_pos (by rfl)]
                      refine step_append2 (o := _) (a := _) (v := .slice (some ⟨W.heap.size, 0, none⟩) 0 0) (u := .slice (some ⟨g5, 0, none⟩) j cc2) (l := ([] : List Int)) (l2 := out.take j) (S := []) (w0 := wr) (.tmp 64) (.tmp 67) 91 idR elem91 hA1 (SlAt.empty N0.out.1 rfl) (Fresh.of (by omega)) (HU.out.1.chg hA1 (by simp)) hl1 (by omega) rfl rfl rfl ?_
                      intro v1 A2 hsA2 hA2 hFA2 hgA2
                      refine hK.out _ _ (hA2) (fun hHeld => ?_)
                      clear hK K
                      try simp only [Act.put, List.setIfInBounds_toArray, List.set_cons_zero, List.set_cons_succ]
                      refine wpAnyH_ready (rs := [6]) (by kernel_rfl) (by simp) ?_
                      refine (AllReadyH.cons rfl (fun K hK => ?_) AllReadyH.nil)
                      all_goals try simp only [List.getElem_toArray, List.getElem_cons_succ, List.getElem_cons_zero]
                      go_simp
                      have n6 := heap_alloc_new A2 (.cells #[.int .i64 (o 3)] 2)
                      have hn6 := Chg.alloc [] A2 (.cells #[.int .i64 (o 3)] 2)
                      obtain ⟨A3, eA3⟩ : ∃ A3, A2.alloc (.cells #[.int .i64 (o 3)] 2) = A3 := ⟨_, rfl⟩
                      rw [eA3] at n6 hn6 ⊢
                      have hA3 := hA2.trans hn6
                      have N6 := Lib.hid (And.intro n6 hn6)
                      clear n6 hn6 eA3
                      refine hK.out _ _ (hA3) (fun hHeld => ?_)
                      clear hK K
                      try simp only [Act.put, List.getElem_toArray, List.getElem_cons_succ, List.getElem_cons_zero, List.setIfInBounds_toArray, List.set_cons_zero, List.set_cons_succ]
                      refine wpAnyH_ready (rs := [7]) (by kernel_rfl) (by simp) ?_
                      refine (AllReadyH.cons rfl (fun K hK => ?_) AllReadyH.nil)
                      all_goals try simp only [List.getElem_toArray, List.getElem_cons_succ, List.getElem_cons_zero]
                      rw [if_pos (by rfl)]
                      refine step_append2 (o := _) (a := _) (v := v1) (u := .slice (some ⟨A2.heap.size, 0, none⟩) 1 1) (l := [] ++ out.take j) (l2 := [o 3]) (S := []) (w0 := wr) (.tmp 68) (.tmp 70) 91 idR elem91 hA3 (hsA2.chg N6.out.2 (by simp)) hFA2 (SrcAt.one (renc := idE) (a := o 3) (t := 2) (fr := (0, 0)) N6.out.1 1) hl2 (by omega) rfl rfl rfl ?_
                      intro v2 A4 hsA4 hA4 hFA4 hgA4
                      refine hK.out _ _ (hA4) (fun hHeld => ?_)
                      clear hK K
                      try simp only [Act.put, List.setIfInBounds_toArray, List.set_cons_zero, List.set_cons_succ]
                      refine wpAnyH_done (by kernel_rfl) ?_ _
                      simp only [cutQ]
                      go_wp2_with (at_builtin; go_must (refine wpL_append' rfl _ _ 91 rfl idR elem91 (w0 := wr) (l2 := out.drop j) hA4 hsA4 hFA4 (HU.out.2.chg hA4 (by simp)) rfl rfl hl3 (by omega) ?_))
                      intro v3 W9 hs9 h9 hF9 hg9
                      have hs99 : SlAt 2 1 idE W9 v3 (out.take j ++ [o 3] ++ out.drop j) := by simpa using hs9
                      have hC9 : Chg [] w W9 := hC.trans h9
                      have hF99 : Fresh w.heap.size v3 := hF9.mono hC.size
                      have HS9 := Lib.hid hs99
                      clear hg9 h9 hF9 hHeld hs9 hs99
                      go_wp2_with fail
                      go_roundg (l.length - (k + 1) + 1)
                      case measure => rw [Hm.out]; omega
                      case rel => exact ⟨k + 1, _, by omega, rfl, by go_num, HS9.out, by rw [Ho.out.2]; exact HN.out, hF99, hC9⟩
                    · go_simp
                      have n6 := heap_alloc_new A1 (.cells #[.int .i64 (o 3)] 2)
                      have hn6 := Chg.alloc [] A1 (.cells #[.int .i64 (o 3)] 2)
                      obtain ⟨A2, eA2⟩ : ∃ A2, A1.alloc (.cells #[.int .i64 (o 3)] 2) = A2 := ⟨_, rfl⟩
                      rw [eA2] at n6 hn6 ⊢
                      have hA2 := hA1.trans hn6
                      have N6 := Lib.hid (And.intro n6 hn6)
                      clear n6 hn6 eA2
                      refine hK.out _ _ (hA2) (fun hHeld => ?_)
                      clear hK K
                      try simp only [Act.put, List.getElem_toArray, List.getElem_cons_succ, List.getElem_cons_zero, List.setIfInBounds_toArray, List.set_cons_zero, List.set_cons_succ]
                      refine wpAnyH_ready (rs := [4]) (by kernel_rfl) (by simp) ?_
                      refine (AllReadyH.cons rfl (fun K hK => ?_) AllReadyH.nil)
                      all_goals try simp only [List.getElem_toArray, List.getElem_cons_succ, List.getElem_cons_zero]
                      rw [if_pos (by rfl)]
                      refine step_append2 (o := _) (a := _) (v := .slice (some ⟨W.heap.size, 0, none⟩) 0 0) (u := .slice (some ⟨g5, 0, none⟩) j cc2) (l := ([] : List Int)) (l2 := out.take j) (S := []) (w0 := wr) (.tmp 64) (.tmp 67) 91 idR elem91 hA2 (SlAt.empty (N6.out.2.at_ N0.out.1 (by simp)) rfl) (Fresh.of (by omega)) (HU.out.1.chg hA2 (by simp)) hl1 (by omega) rfl rfl rfl ?_
                      intro v1 A3 hsA3 hA3 hFA3 hgA3
                      refine hK.out _ _ (hA3) (fun hHeld => ?_)
                      clear hK K
                      try simp only [Act.put, List.setIfInBounds_toArray, List.set_cons_zero, List.set_cons_succ]
                      have m6 : A3.heap[A1.heap.size]? = some (.cells #[.int .i64 (o 3)] 2 (0, 0)) := (hgA3.block _ (blk_lt N6.out.1) (by have := blk_lt N0.out.1; simp [Value.ownBlock]; omega)).trans N6.out.1
                      refine wpAnyH_ready (rs := [7]) (by kernel_rfl) (by simp) ?_
                      refine (AllReadyH.cons rfl (fun K hK => ?_) AllReadyH.nil)
                      all_goals try simp only [List.getElem_toArray, List.getElem_cons_succ, List.getElem_cons_zero]
                      rw [if_pos (by rfl)]
                      refine step_append2 (o := _) (a := _) (v := v1) (u := .slice (some ⟨A1.heap.size, 0, none⟩) 1 1) (l := [] ++ out.take j) (l2 := [o 3]) (S := []) (w0 := wr) (.tmp 68) (.tmp 70) 91 idR elem91 hA3 hsA3 hFA3 (SrcAt.one (renc := idE) (a := o 3) (t := 2) (fr := (0, 0)) m6 1) hl2 (by omega) rfl rfl rfl ?_
                      intro v2 A4 hsA4 hA4 hFA4 hgA4
                      refine hK.out _ _ (hA4) (fun hHeld => ?_)
                      clear hK K
                      try simp only [Act.put, List.setIfInBounds_toArray, List.set_cons_zero, List.set_cons_succ]
                      refine wpAnyH_done (by kernel_rfl) ?_ _
                      simp only [cutQ]
                      go_wp2_with (at_builtin; go_must (refine wpL_append' rfl _ _ 91 rfl idR elem91 (w0 := wr) (l2 := out.drop j) hA4 hsA4 hFA4 (HU.out.2.chg hA4 (by simp)) rfl rfl hl3 (by omega) ?_))
                      intro v3 W9 hs9 h9 hF9 hg9
                      have hs99 : SlAt 2 1 idE W9 v3 (out.take j ++ [o 3] ++ out.drop j) := by simpa using hs9
                      have hC9 : Chg [] w W9 := hC.trans h9
                      have hF99 : Fresh w.heap.size v3 := hF9.mono hC.size
                      have HS9 := Lib.hid hs99
                      clear hg9 h9 hF9 hHeld hs9 hs99
                      go_wp2_with fail
                      go_roundg (l.length - (k + 1) + 1)
                      case measure => rw [Hm.out]; omega
                      case rel => exact ⟨k + 1, _, by omega, rfl, by go_num, HS9.out, by rw [Ho.out.2]; exact HN.out, hF99, hC9⟩
                  · go_simp
                    have n6 := heap_alloc_new W (.cells #[.int .i64 (o 3)] 2)
                    have hn6 := Chg.alloc [] W (.cells #[.int .i64 (o 3)] 2)
                    obtain ⟨A1, eA1⟩ : ∃ A1, W.alloc (.cells #[.int .i64 (o 3)] 2) = A1 := ⟨_, rfl⟩
                    rw [eA1] at n6 hn6 ⊢
                    have hA1 := hW.trans hn6
                    have N6 := Lib.hid (And.intro n6 hn6)
                    clear n6 hn6 eA1
                    refine hK.out _ _ (hA1) (fun hHeld => ?_)
                    clear hK K
                    try simp only [Act.put, List.getElem_toArray, List.getElem_cons_succ, List.getElem_cons_zero, List.setIfInBounds_toArray, List.set_cons_zero, List.set_cons_succ]
                    refine wpAnyH_ready (rs := [0]) (by kernel_rfl) (by simp) ?_
                    refine (AllReadyH.cons rfl (fun K hK => ?_) AllReadyH.nil)
                    all_goals try simp only [List.getElem_toArray, List.getElem_cons_zero]
                    go_simp
                    have n0 := heap_alloc_new A1 (.cells #[] 2)
                    have hn0 := Chg.alloc [] A1 (.cells #[] 2)
                    have hz0 := hA1.size
                    obtain ⟨A2, eA2⟩ : ∃ A2, A1.alloc (.cells #[] 2) = A2 := ⟨_, rfl⟩
                    rw [eA2] at n0 hn0 ⊢
                    have hA2 := hA1.trans hn0
                    have N0 := Lib.hid (And.intro n0 hn0)
                    clear n0 hn0 eA2
                    refine hK.out _ _ (hA2) (fun hHeld => ?_)
                    clear hK K
                    try simp only [Act.put, List.getElem_toArray, List.getElem_cons_succ, List.getElem_cons_zero, List.setIfInBounds_toArray, List.set_cons_zero, List.set_cons_succ]
                    refine wpAnyH_ready (rs := [4]) (by kernel_rfl) (by simp) ?_
                    refine (AllReadyH.cons rfl (fun K hK => ?_) AllReadyH.nil)
                    all_goals try simp only [List.getElem_toArray, List.getElem_cons_succ, List.getElem_cons_zero]
                    rw [if_pos (by rfl)]
                    refine step_append2 (o := _) (a := _) (v := .slice (some ⟨A1.heap.size, 0, none⟩) 0 0) (u := .slice (some ⟨g5, 0, none⟩) j cc2) (l := ([] : List Int)) (l2 := out.take j) (S := []) (w0 := wr) (.tmp 64) (.tmp 67) 91 idR elem91 hA2 (SlAt.empty N0.out.1 rfl) (Fresh.of (by omega)) (HU.out.1.chg hA2 (by simp)) hl1 (by omega) rfl rfl rfl ?_
                    intro v1 A3 hsA3 hA3 hFA3 hgA3
                    refine hK.out _ _ (hA3) (fun hHeld => ?_)
                    clear hK K
                    try simp only [Act.put, List.setIfInBounds_toArray, List.set_cons_zero, List.set_cons_succ]
                    have m6 : A3.heap[W.heap.size]? = some (.cells #[.int .i64 (o 3)] 2 (0, 0)) := (hgA3.block _ (blk_lt (N0.out.2.at_ N6.out.1 (by simp))) (by have := blk_lt N6.out.1; simp [Value.ownBlock]; omega)).trans (N0.out.2.at_ N6.out.1 (by simp))
                    refine wpAnyH_ready (rs := [7]) (by kernel_rfl) (by simp) ?_
                    refine (AllReadyH.cons rfl (fun K hK => ?_) AllReadyH.nil)
                    all_goals try simp only [List.getElem_toArray, List.getElem_cons_succ, List.getElem_cons_zero]
                    rw [if_pos (by rfl)]
                    refine step_append2 (o := _) (a := _) (v := v1) (u := .slice (some ⟨W.heap.size, 0, none⟩) 1 1) (l := [] ++ out.take j) (l2 := [o 3]) (S := []) (w0 := wr) (.tmp 68) (.tmp 70) 91 idR elem91 hA3 hsA3 hFA3 (SrcAt.one (renc := idE) (a := o 3) (t := 2) (fr := (0, 0)) m6 1) hl2 (by omega) rfl rfl rfl ?_
                    intro v2 A4 hsA4 hA4 hFA4 hgA4
                    refine hK.out _ _ (hA4) (fun hHeld => ?_)
                    clear hK K
                    try simp only [Act.put, List.setIfInBounds_toArray, List.set_cons_zero, List.set_cons_succ]
                    refine wpAnyH_done (by kernel_rfl) ?_ _
                    simp only [cutQ]
                    go_wp2_with (at_builtin; go_must (refine wpL_append' rfl _ _ 91 rfl idR elem91 (w0 := wr) (l2 := out.drop j) hA4 hsA4 hFA4 (HU.out.2.chg hA4 (by simp)) rfl rfl hl3 (by omega) ?_))
                    intro v3 W9 hs9 h9 hF9 hg9
                    have hs99 : SlAt 2 1 idE W9 v3 (out.take j ++ [o 3] ++ out.drop j) := by simpa using hs9
                    have hC9 : Chg [] w W9 := hC.trans h9
                    have hF99 : Fresh w.heap.size v3 := hF9.mono hC.size
                    have HS9 := Lib.hid hs99
                    clear hg9 h9 hF9 hHeld hs9 hs99
                    go_wp2_with fail
                    go_roundg (l.length - (k + 1) + 1)
                    case measure => rw [Hm.out]; omega
                    case rel => exact ⟨k + 1, _, by omega, rfl, by go_num, HS9.out, by rw [Ho.out.2]; exact HN.out, hF99, hC9⟩
          · have t1 : decide (o 3 ≤ hi) = false := decide_eq_false h1
            have HN := Lib.hid (ins_old HPi.out (o := o) (.inl (fun hk => h1 hk.2)))
            clear h1 h0
            go_wp2_with fail
            go_roundg (l.length - (k + 1) + 1)
            case measure => rw [Hm.out]; omega
            case rel => exact ⟨k + 1, out, by omega, rfl, by go_num, hs2, by rw [Ho.out.2]; exact HN.out, hF, hC⟩
        · have t0 : decide (o 3 ≥ lo) = false := decide_eq_false h0
          have HN := Lib.hid (ins_old HPi.out (o := o) (.inl (fun hk => h0 hk.1)))
          clear h0
          go_wp2_with fail
          go_roundg (l.length - (k + 1) + 1)
          case measure => rw [Hm.out]; omega
          case rel => exact ⟨k + 1, out, by omega, rfl, by go_num, hs2, by rw [Ho.out.2]; exact HN.out, hF, hC⟩
    · have hkn : k = l.length := by omega
      subst hkn
      rw [List.take_length] at hP
      go_wp2_with fail
      go_ret
      exact ⟨_, out, rfl, hs2, hP, hF, hC⟩
end Go.Proofs.Ytdcjfaplgpeonaa

/-
  The points of any book, as far as they are asked: the law's own walk.
-/
namespace Go.Proofs.Ytdcjfaplgpeonaa
open Go.RowKit Go.Dm Go.Shelf
attribute [local go_sem] Oper.semAt_some
attribute [local simp] wide_fn
attribute [local go_sem] wide_fn

theorem rise_ext : ∀ {a b : List Int}, a.Pairwise (· < ·) → b.Pairwise (· < ·) → (∀ q, q ∈ a ↔ q ∈ b) → a = b
  | [], [], _, _, _ => rfl
  | [], y :: b, _, _, h => absurd ((h y).2 (by simp)) (by simp)
  | x :: a, [], _, _, h => absurd ((h x).1 (by simp)) (by simp)
  | x :: a, y :: b, ha, hb, h => by
    rw [List.pairwise_cons] at ha hb
    have hxy : x = y := by
      rcases List.mem_cons.1 ((h x).1 (by simp)) with e | h1
      · exact e
      · rcases List.mem_cons.1 ((h y).2 (by simp)) with e | h2
        · exact e.symm
        · have := hb.1 x h1
          have := ha.1 y h2
          omega
    subst hxy
    refine congrArg (x :: ·) (rise_ext ha.2 hb.2 (fun q => ⟨fun hq => ?_, fun hq => ?_⟩))
    · rcases List.mem_cons.1 ((h q).1 (List.mem_cons_of_mem _ hq)) with e | h1
      · have := ha.1 q hq; omega
      · exact h1
    · rcases List.mem_cons.1 ((h q).2 (List.mem_cons_of_mem _ hq)) with e | h1
      · have := hb.1 q hq; omega
      · exact h1
theorem hasP_iff {l : List Ord} {q : Int} : hasP l q = true ↔ ∃ o ∈ l, o 3 = q := by
  unfold hasP
  rw [List.any_eq_true]
  exact ⟨fun ⟨o, h, e⟩ => ⟨o, h, by simpa using e⟩, fun ⟨o, h, e⟩ => ⟨o, h, by simpa using e⟩⟩
/-- The reference's prices of a book within the widest band are the curve's. -/
theorem all_prices {l : List Ord} {hi : Int} (h0 : 1099511627776 ≤ hi) {out ss : List Int} (hw : PricesIs (bookL l) 0 hi out) (hs : Prices ss (sdO (bookL l) 0) (sdO (bookL l) 1)) : out = ss := by
  refine rise_ext hw.rise hs.rise (fun q => ?_)
  rw [hw.all, hs.all, Bool.or_eq_true, hasP_iff, hasP_iff, hasP_iff]
  constructor
  · rintro ⟨_, _, o, ho, rfl⟩
    have h := bookL_ok l o ho
    simp only [okO, Bool.and_eq_true, decide_eq_true_eq] at h
    rcases (by omega : o 2 = 0 ∨ o 2 = 1) with e | e
    · exact .inl ⟨o, List.mem_filter.2 ⟨ho, by simp [e]⟩, rfl⟩
    · exact .inr ⟨o, List.mem_filter.2 ⟨ho, by simp [e]⟩, rfl⟩
  · intro h
    obtain ⟨o, ho, rfl⟩ : ∃ o ∈ bookL l, o 3 = q := by
      rcases h with ⟨o, ho, e⟩ | ⟨o, ho, e⟩
      · exact ⟨o, sdO_sub o ho, e⟩
      · exact ⟨o, sdO_sub o ho, e⟩
    have h := bookL_ok l o ho
    simp only [okO, Bool.and_eq_true, decide_eq_true_eq] at h
    exact ⟨by omega, by omega, o, ho, rfl⟩
end Go.Proofs.Ytdcjfaplgpeonaa
