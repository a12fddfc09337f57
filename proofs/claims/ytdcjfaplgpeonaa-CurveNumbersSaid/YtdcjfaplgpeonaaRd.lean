/-
  The reference's index: Drop of a key that is there.
-/
import Derived.Test.YtdcjfaplgpeonaaRx
namespace Go.Proofs.Ytdcjfaplgpeonaa
open Go.RowKit Go.Dm

set_option maxRecDepth 100000 in
set_option maxHeartbeats 2000000 in
theorem rdrop_yes (w : World) (r : Nat) (l : IL) (h : RAt w r l) (k1 k2 : Int) (hk : (mLook l (k1, k2)).isSome = true) (hn : (keysL l).Nodup) (hlen : l.length ≤ 1000) :
    Calls Try.prog 51 #[.pointer (some ⟨r, 0, none⟩), .int .i64 k1, .int .i64 k2] w fun e w' => e = .returned (.bool true) ∧ RAt w' r (delL l (k1, k2)) ∧ Chg [r] w w' := by
  have hf := find_any w r l h k1 k2 hlen
  rcases idx_look l (k1, k2) hn with ⟨h1, h2⟩ | ⟨k, sl, h1, h2, h3, h4⟩
  · rw [h1] at hk; cases hk
  rw [h2] at hf
  have hcut := Lib.hid (delL_cut hn h3)
  obtain ⟨vL, hb, hs⟩ := h
  obtain ⟨A, c, rfl, _, hA⟩ := hs.form
  obtain ⟨g, rfl⟩ := hA (by omega)
  have c0 := blk1 hb
  have f0 : w.frozen? ⟨r, 0, none⟩ = false := by simp [World.frozen?, hb]
  have hr := blk_lt hb
  have hlc : l.length ≤ c := by
    rcases hs.2 with ⟨h0, _⟩ | ⟨g', cap, cur, hv, _, _, hc, _⟩
    · cases h0
    · simp only [Value.slice.injEq] at hv; omega
  have hcm : c ≤ 9223372036854775807 := by
    rcases hs.2 with ⟨h0, _⟩ | ⟨g', cap, cur, hv, _, _, _, hc, _⟩
    · cases h0
    · simp only [Value.slice.injEq] at hv; unfold maxLen at hc; omega
  have Hcm := Lib.hid hcm
  clear h1 h2 h3 hA hk hcm
  have i0 : (0 : Int) ≤ (k : Int) := Int.natCast_nonneg _
  have i1 : (k : Int) ≤ (c : Int) := by omega
  have i2 : (k : Int) + 1 ≤ (l.length : Int) := by omega
  have i3 : (0 : Int) ≤ (k : Int) + 1 := by omega
  go_enter Try.func51, Try.ntmps51
  go_wp2_with fail
  refine hf.mono ?_
  rintro e w' ⟨rfl, rfl⟩
  clear hf
  go_wp2_with fail
  have iw : IntKind.i64.wrap ((k : Int) + 1) = (k : Int) + 1 := wrapOk (by omega) (by omega)
  have it : ((k : Int) + 1).toNat = k + 1 := by omega
  have hA0 : Chg [] w (w.alloc (.cells #[] 78)).drew := (Chg.alloc [] w _).trans (Chg.drew _ _)
  have hE0 : SlAt 78 3 rowE (w.alloc (.cells #[] 78)).drew (.slice (some ⟨w.heap.size, 0, none⟩) 0 0) ([] : IL) := SlAt.empty (by exact heap_alloc_new w (.cells #[] 78)) rfl
  have hsr1 : SrcAt rowE (w.alloc (.cells #[] 78)).drew (.slice (some ⟨g, 0, none⟩) k c) (l.take k) := (hs.chg hA0 (by simp)).src_take (by omega) c
  have hF0 : Fresh w.heap.size (Value.slice (some ⟨w.heap.size, 0, none⟩) 0 0) := Fresh.of (Nat.le_refl _)
  have hlt : ([] : IL).length + (l.take k).length ≤ 1000000 := by simp; omega
  have hl2 : ([] ++ l.take k).length + (l.drop (k + 1)).length ≤ 1000000 := by simp; omega
  have hlen3 := Lib.hid (show ([] ++ l.take k ++ l.drop (k + 1)).length = min k l.length + (l.length - (k + 1)) by simp)
  by_cases hck : c = k + 1
  · have hlk : l.length = k + 1 := by omega
    have hd0 : l.drop (k + 1) = [] := by rw [List.drop_eq_nil_iff]; omega
    have hcut2 := hcut.out
    rw [hd0, List.append_nil] at hcut2
    have Hcut := Lib.hid hcut2
    have Hlk := Lib.hid hlk
    have hl3 : ([] ++ l.take k).length + ([] : IL).length ≤ 1000000 := by simp; omega
    have z1 : l.length - (k + 1) = 0 := by omega
    have hlen4 := Lib.hid (show ([] ++ l.take k ++ ([] : IL)).length = min k l.length by simp)
    clear hlk hd0 hcut2 hcut hl2 i1
    subst hck
    have i1 : (k : Int) ≤ (k : Int) + 1 := by omega
    go_region_law (first
        | (refine step_append' rfl _ _ 27 rfl rowR elem27 hA0 hE0 hF0 hsr1 rfl rfl hlt (by omega) ?_; intro v1 W1 hs1 hC1 hF1 _; have cc1 := blk1 (hC1.at_ hb (by simp)))
        | (refine step_append' rfl _ _ 27 rfl rowR elem27 hC1 hs1 hF1 (SrcAt.nil (A := some ⟨g, 0, none⟩) (c := 0)) rfl rfl hl3 (by omega) ?_; intro v2 W2 hs2 hC2 hF2 _; obtain ⟨A2, c2, rfl, _⟩ := hs2.form; have f2 : W2.frozen? ⟨r, 0, none⟩ = false := (by simp [World.frozen?, hC2.at_ hb (by simp)]); have c2' := blk1 (hC2.at_ hb (by simp))))
    all_goals
      rw [hlen4.out] at hs2 hF2
      rw [Hcut.out, List.append_nil] at hs2
      have hRA : RAt (W2.setCell ⟨r, 0, none⟩ (.slice A2 (min k l.length) c2)) r (delL l (k1, k2)) :=
        ⟨_, blk_set (hC2.at_ hb (by simp)) 0 _, hs2.chg (Chg.setCell (S := [r]) W2 ⟨r, 0, none⟩ _ (by simp)) (hF2.not_in (by simp; omega))⟩
      have hCC : Chg [r] w (W2.setCell ⟨r, 0, none⟩ (.slice A2 (min k l.length) c2)) := (hC2.mono (by simp)).trans (Chg.setCell (S := [r]) W2 ⟨r, 0, none⟩ _ (by simp))
      clear hs2 hF2 hC2 hs1 hC1 hF1 hlen4 c2' f2 cc1 hsr1 hE0 hA0 hF0 hs hb c0 f0
      go_wp2
      go_ret
      exact ⟨rfl, hRA, hCC⟩
  · go_region_law (first
        | (refine step_append' rfl _ _ 27 rfl rowR elem27 hA0 hE0 hF0 hsr1 rfl rfl hlt (by omega) ?_; intro v1 W1 hs1 hC1 hF1 _; have cc1 := blk1 (hC1.at_ hb (by simp)))
        | (refine step_append' rfl _ _ 27 rfl rowR elem27 hC1 hs1 hF1 ((hs.chg hC1 (by simp)).src_drop rowR (k := k + 1) (by omega) _ _ rfl) rfl rfl hl2 (by omega) ?_; intro v2 W2 hs2 hC2 hF2 _; obtain ⟨A2, c2, rfl, _⟩ := hs2.form; have f2 : W2.frozen? ⟨r, 0, none⟩ = false := (by simp [World.frozen?, hC2.at_ hb (by simp)]); have c2' := blk1 (hC2.at_ hb (by simp))))
    all_goals
      rw [hlen3.out] at hs2 hF2
      rw [hcut.out] at hs2
      have hRA : RAt (W2.setCell ⟨r, 0, none⟩ (.slice A2 (min k l.length + (l.length - (k + 1))) c2)) r (delL l (k1, k2)) :=
        ⟨_, blk_set (hC2.at_ hb (by simp)) 0 _, hs2.chg (Chg.setCell (S := [r]) W2 ⟨r, 0, none⟩ _ (by simp)) (hF2.not_in (by simp; omega))⟩
      have hCC : Chg [r] w (W2.setCell ⟨r, 0, none⟩ (.slice A2 (min k l.length + (l.length - (k + 1))) c2)) := (hC2.mono (by simp)).trans (Chg.setCell (S := [r]) W2 ⟨r, 0, none⟩ _ (by simp))
      clear hs2 hF2 hC2 hs1 hC1 hF1 hcut hlen3 c2' f2 cc1 hsr1 hE0 hA0 hF0 hs hb c0 f0
      go_wp2
      go_ret
      exact ⟨rfl, hRA, hCC⟩
end Go.Proofs.Ytdcjfaplgpeonaa
