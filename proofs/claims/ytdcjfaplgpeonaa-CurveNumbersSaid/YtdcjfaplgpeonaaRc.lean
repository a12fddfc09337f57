/-
  The reference's index: Clear.
-/
import Derived.Test.YtdcjfaplgpeonaaRd
import Derived.Deep.LoopGhost
namespace Go.Proofs.Ytdcjfaplgpeonaa
open Go.RowKit Go.Dm

theorem take_succ' {α : Type} {l : List α} {k : Nat} {p : α} (h : l[k]? = some p) : l.take (k + 1) = l.take k ++ [p] := by
  rw [List.take_add_one, h]; rfl
theorem symOut_snoc (l : IL) (p : (Int × Int) × Int) (s : Int) : symOut (l ++ [p]) s = if p.1.1 = s then symOut l s else symOut l s ++ [p] := by
  unfold symOut
  rw [List.filter_append]
  by_cases e : p.1.1 = s <;> simp [e]
theorem icnt_snoc (l : IL) (p : (Int × Int) × Int) (s : Int) : icnt (l ++ [p]) s = icnt l s + if p.1.1 = s then 1 else 0 := by
  obtain ⟨⟨a, b⟩, c⟩ := p
  exact icnt_app l a b c s

def RClearRel (l : IL) (s : Int) (w : World) (n : Nat) (rest cnt i : Value) (wr : World) : Prop :=
  ∃ k : Nat, k ≤ l.length ∧ n = l.length - k + 1 ∧ i = .int .i64 k ∧ cnt = .int .i64 (icnt (l.take k) s) ∧ SlAt 78 3 rowE wr rest (symOut (l.take k) s) ∧ Fresh w.heap.size rest ∧ Chg [] w wr

set_option maxRecDepth 100000 in
set_option maxHeartbeats 1000000 in
theorem rclear_any (w : World) (r : Nat) (l : IL) (h : RAt w r l) (s : Int) (hlen : l.length ≤ 1000) :
    Calls Try.prog 52 #[.pointer (some ⟨r, 0, none⟩), .int .i64 s] w fun e w' => e = .returned (.int .i64 (icnt l s)) ∧ RAt w' r (symOut l s) ∧ Chg [r] w w' := by
  have hr := h.lt
  obtain ⟨vL, hb, hs⟩ := h
  obtain ⟨A, c, rfl, _, hA⟩ := hs.form
  go_enter Try.func52, Try.ntmps52
  go_wp2
  go_loopg [5, 6, 7] (l.length + 1) (fun n rest cnt i wr => RClearRel l s w n rest cnt i wr)
  case atStart => exact ⟨0, Nat.zero_le _, rfl, rfl, rfl, SlAt.nil _ _ _ _, Fresh.none, Chg.refl _ _⟩
  case round =>
    obtain ⟨k, hk, hn, rfl, rfl, hs5, hF, hC⟩ := hrel
    have Hn := Lib.hid hn
    clear hn
    have hbr := hC.at_ hb (by simp)
    have c0 := blk1 hbr
    have hrr := blk_lt hbr
    by_cases hlt : k < l.length
    · obtain ⟨g, rfl⟩ := hA (by omega)
      obtain ⟨⟨⟨p1, p2⟩, p3⟩, hp⟩ : ∃ p, l[k]? = some p := ⟨l[k], by simp [hlt]⟩
      obtain ⟨e0, e1, e2⟩ := rows_at (hs.chg hC (by simp)) hp
      have hts := take_succ' hp
      have hi := icnt_snoc (l.take k) ((p1, p2), p3) s
      have ho := symOut_snoc (l.take k) ((p1, p2), p3) s
      rw [← hts] at hi ho
      have hib := icnt_le (l.take k) s
      have htl : (l.take k).length ≤ k := List.length_take_le _ _
      have hol : (symOut (l.take k) s).length ≤ (l.take k).length := List.length_filter_le _ _
      by_cases hps : p1 = s
      · have t1 : (p1 == s) = true := by rw [beq_iff_eq]; exact hps
        rw [if_pos hps] at hi ho
        have Hio := Lib.hid (And.intro hi ho)
        clear hps hi ho hts hp
        go_wp2
        obtain ⟨hi, ho⟩ := Hio.out
        go_roundg (l.length - (k + 1) + 1)
        case measure => rw [Hn.out]; omega
        case rel => exact ⟨k + 1, by omega, rfl, by go_num, by rw [hi]; go_num, by rw [ho]; exact hs5, hF, hC⟩
      · have t1 : (p1 == s) = false := by rw [beq_eq_false_iff_ne]; exact hps
        rw [if_neg hps] at hi ho
        have Hio := Lib.hid (And.intro hi ho)
        clear hps hi ho hts hp
        go_wp2_with (at_builtin; go_must (refine wpL_append' rfl _ _ 27 rfl rowR elem27 (w0 := w) (l2 := [((p1, p2), p3)]) (hC.trans (Chg.alloc [] wr (.cells #[.int .i64 p1, .int .i64 p2, .int .i64 p3] 78))) (hs5.chg (Chg.alloc [] wr (.cells #[.int .i64 p1, .int .i64 p2, .int .i64 p3] 78)) (by simp)) hF (SrcAt.one (renc := rowE) (a := ((p1, p2), p3)) (t := 78) (fr := (0, 0)) (by exact heap_alloc_new wr (.cells #[.int .i64 p1, .int .i64 p2, .int .i64 p3] 78)) 1) rfl rfl (by simp; omega) (by omega) ?_))
        intro v2 W2 hs2 hC2 hF2 _
        clear hs5 hF hC c0 e0 e1 e2 hbr
        go_wp2
        obtain ⟨hi, ho⟩ := Hio.out
        go_roundg (l.length - (k + 1) + 1)
        case measure => rw [Hn.out]; omega
        case rel => exact ⟨k + 1, by omega, rfl, by go_num, by rw [hi]; rfl, by rw [ho]; exact hs2, hF2, hC2⟩
    · have hke : k = l.length := by omega
      obtain ⟨A5, c5, rfl, _⟩ := hs5.form
      have f0 : wr.frozen? ⟨r, 0, none⟩ = false := by simp [World.frozen?, hbr]
      subst hke
      rw [List.take_length] at hs5 hF
      have Hk := Lib.hid (List.take_length (l := l))
      go_wp2
      go_ret
      refine ⟨by simp, ⟨_, blk_set hbr 0 _, ?_⟩, (hC.mono (by simp)).trans (Chg.setCell (S := [r]) wr ⟨r, 0, none⟩ _ (by simp))⟩
      have h2 := hs5.chg (Chg.setCell (S := [r]) wr ⟨r, 0, none⟩ (.slice A5 (symOut l s).length c5) (by simp)) (hF.not_in (by simp; omega))
      simpa using h2
end Go.Proofs.Ytdcjfaplgpeonaa
