/-
  The reference's book: Fits, Room, Add.
-/
import Derived.Test.YtdcjfaplgpeonaaKa
namespace Go.Proofs.Ytdcjfaplgpeonaa
open Go.RowKit Go.Dm

def FitRel (l : List Ord) (w : World) (m : Nat) (ps i : Value) (wr : World) : Prop :=
  ∃ (k : Nat) (l2 : List Int), k ≤ l.length ∧ m = l.length - k + 1 ∧ i = .int .i64 k ∧ SlAt 2 1 idE wr ps l2 ∧ l2.length ≤ k ∧ Fresh w.heap.size ps ∧ Chg [] w wr

set_option maxRecDepth 100000 in
set_option maxHeartbeats 4000000 in
theorem rbfits (w : World) (r : Nat) (l : List Ord) (h : BkR w r l) (sd pr : Int) (hlen : l.length < 60) :
    Calls Try.prog 104 #[.pointer (some ⟨r, 0, none⟩), .int .i64 sd, .int .i64 pr] w fun e w' => e = .returned (.bool true) ∧ Chg [] w w' := by
  have hr := h.lt
  obtain ⟨v, hb, hs⟩ := h
  obtain ⟨A, c, rfl, _, hA⟩ := hs.form
  go_enter Try.func104, Try.ntmps104
  go_wp2
  go_loopg [7, 8] (l.length + 1) (fun m ps i wr => FitRel l w m ps i wr)
  case atStart => exact ⟨0, [], Nat.zero_le _, rfl, rfl, SlAt.nil _ _ _ _, Nat.le_refl _, Fresh.none, Chg.refl _ _⟩
  case round =>
    obtain ⟨k, l2, hk, hm, rfl, hs2, hl2, hF, hC⟩ := hrel
    have Hm := Lib.hid hm
    clear hm
    have hbr := hC.at_ hb (by simp)
    obtain ⟨_, c1, c2⟩ := blk3 hbr
    have hrr := blk_lt hbr
    have hl60 : l2.length < 60 := by omega
    obtain ⟨A2, cc2, rfl, _, hA2⟩ := hs2.form
    by_cases hlt : k < l.length
    · obtain ⟨g, rfl⟩ := hA (by omega)
      obtain ⟨o, hp⟩ : ∃ p, l[k]? = some p := ⟨l[k], by simp [hlt]⟩
      obtain ⟨e0, e1, e2, e3, _⟩ := ords_at (hs.chg hC (by simp)) hp
      have Hp := Lib.hid hp
      clear hp
      have k0 : (0 : Int) ≤ (k : Int) := Int.natCast_nonneg _
      have k1 : (k : Int) < (l.length : Int) := by omega
      obtain ⟨wo, rfl⟩ : ∃ wo : World, wo = wr := ⟨_, rfl⟩
      go_upto_block 2 with fail
      go_cut [9] from 20 to 41 (fun u9 W => ∃ (b : Bool) (m : Nat), u9 = .bool b ∧ W = wo.drewN m)
      case first =>
        go_wp2
        go_loopg [9, 10] (l2.length + 1) (fun n u9 i W => ∃ (b : Bool) (j m : Nat), j ≤ l2.length ∧ n = l2.length - j + 1 ∧ u9 = .bool b ∧ i = .int .i64 j ∧ W = wo.drewN m)
        case atStart => exact ⟨false, 0, 0, Nat.zero_le _, rfl, rfl, rfl, rfl⟩
        case round =>
          obtain ⟨b, j, m, hj, hn, rfl, rfl, rfl⟩ := hrel
          have Hj := Lib.hid hn
          clear hn
          by_cases hjl : j < l2.length
          · obtain ⟨g5, rfl⟩ := hA2 (by omega)
            obtain ⟨q, hq⟩ : ∃ q, l2[j]? = some q := ⟨l2[j], by simp [hjl]⟩
            have d0 := hs2.at_ idR hq (j := 0) (by omega)
            simp only [Nat.mul_one, Nat.add_zero, idE, List.getElem?_cons_zero] at d0
            have Hq := Lib.hid hq
            clear hq
            have j0 : (0 : Int) ≤ (j : Int) := Int.natCast_nonneg _
            have j1 : (j : Int) < (l2.length : Int) := by omega
            cases b with
            | true =>
              go_wp2
              go_quiet (fail)
              go_wp2
              go_roundg (l2.length - (j + 1) + 1)
              case measure => rw [Hj.out]; omega
              case rel => exact ⟨true, j + 1, m + nq, by omega, rfl, rfl, by go_num, rfl⟩
            | false =>
              go_wp2
              go_quiet (fail)
              go_wp2
              go_roundg (l2.length - (j + 1) + 1)
              case measure => rw [Hj.out]; omega
              case rel => exact ⟨_, j + 1, m + nq, by omega, rfl, rfl, by go_num, rfl⟩
          · go_wp2_with fail
            go_meet
            exact ⟨b, m, rfl, rfl⟩
      case rest =>
        obtain ⟨b, m, rfl, rfl⟩ := hcut
        have hCb := hC.trans (Chg.drewN [] wo m)
        have hsb := hs2.chg (Chg.drewN [] wo m) (by simp)
        have f1 := (Chg.drewN [] wo m).cell c1 (by simp)
        have f2 := (Chg.drewN [] wo m).cell c2 (by simp)
        have g2 := (Chg.drewN [] wo m).cell e2 (by simp)
        have g3 := (Chg.drewN [] wo m).cell e3 (by simp)
        obtain ⟨wb, hwb⟩ : ∃ wb, wb = wo.drewN m := ⟨_, rfl⟩
        rw [← hwb] at hCb hsb f1 f2 g2 g3 ⊢
        clear hwb hC hs2 c1 c2 e0 e1 e2 e3 hbr hrr
        have hbr := hCb.at_ hb (by simp)
        have hrb := blk_lt hbr
        by_cases hsd : o 2 = sd
        · have t1 : (o 2 == sd) = true := by rw [beq_iff_eq]; exact hsd
          clear hsd
          by_cases hpr : o 3 = pr
          · have t2 : (o 3 == pr) = true := by rw [beq_iff_eq]; exact hpr
            clear hpr
            cases b with
            | true =>
              go_wp2
              go_ret
              exact ⟨rfl, hCb⟩
            | false =>
              go_wp2_with (at_builtin; go_must (refine wpL_append' rfl _ _ 91 rfl idR elem91 (w0 := w) (l2 := [o 3]) (hCb.trans (Chg.alloc [] wb (.cells #[.int .i64 (o 3)] 2))) (hsb.chg (Chg.alloc [] wb (.cells #[.int .i64 (o 3)] 2)) (by simp)) hF (SrcAt.one (renc := idE) (a := o 3) (t := 2) (fr := (0, 0)) (by exact heap_alloc_new wb (.cells #[.int .i64 (o 3)] 2)) 1) rfl rfl (by simp; omega) (by omega) ?_))
              intro v2 W2 hs3 hC3 hF3 _
              have hbr3 := hC3.at_ hb (by simp)
              obtain ⟨_, c1, c2⟩ := blk3 hbr3
              obtain ⟨e0, e1, e2, e3, _⟩ := ords_at (hs.chg hC3 (by simp)) Hp.out
              clear hsb f1 f2 g2 g3 hCb hF
              go_wp2
              go_ret
              exact ⟨rfl, hC3⟩
          · have t2 : (o 3 == pr) = false := by rw [beq_eq_false_iff_ne]; exact hpr
            clear hpr
            cases b with
            | true =>
              go_wp2
              go_roundg (l.length - (k + 1) + 1)
              case measure => rw [Hm.out]; omega
              case rel => exact ⟨k + 1, l2, by omega, rfl, by go_num, hsb, by omega, hF, hCb⟩
            | false =>
              go_wp2_with (at_builtin; go_must (refine wpL_append' rfl _ _ 91 rfl idR elem91 (w0 := w) (l2 := [o 3]) (hCb.trans (Chg.alloc [] wb (.cells #[.int .i64 (o 3)] 2))) (hsb.chg (Chg.alloc [] wb (.cells #[.int .i64 (o 3)] 2)) (by simp)) hF (SrcAt.one (renc := idE) (a := o 3) (t := 2) (fr := (0, 0)) (by exact heap_alloc_new wb (.cells #[.int .i64 (o 3)] 2)) 1) rfl rfl (by simp; omega) (by omega) ?_))
              intro v2 W2 hs3 hC3 hF3 _
              have hbr3 := hC3.at_ hb (by simp)
              obtain ⟨_, c1, c2⟩ := blk3 hbr3
              obtain ⟨e0, e1, e2, e3, _⟩ := ords_at (hs.chg hC3 (by simp)) Hp.out
              clear hsb f1 f2 g2 g3 hCb hF
              go_wp2
              go_roundg (l.length - (k + 1) + 1)
              case measure => rw [Hm.out]; omega
              case rel => exact ⟨k + 1, _, by omega, rfl, by go_num, hs3, by simp; omega, hF3, hC3⟩
        · have t1 : (o 2 == sd) = false := by rw [beq_eq_false_iff_ne]; exact hsd
          clear hsd
          go_wp2
          go_roundg (l.length - (k + 1) + 1)
          case measure => rw [Hm.out]; omega
          case rel => exact ⟨k + 1, l2, by omega, rfl, by go_num, hsb, by omega, hF, hCb⟩
    · have k1 : decide ((k : Int) < (l.length : Int)) = false := by simp; omega
      have k2 : decide ((l2.length : Int) < 60) = true := by simp; omega
      go_wp2
      go_ret
      exact ⟨rfl, hC⟩

set_option maxRecDepth 100000 in
set_option maxHeartbeats 2000000 in
theorem rbroom (w : World) (r : Nat) (l : List Ord) (h : BkR w r l) (sd pr : Int) (hlen : l.length < 60) :
    Calls Try.prog 86 #[.pointer (some ⟨r, 0, none⟩), .int .i64 sd, .int .i64 pr] w fun e w' => e = .returned (.bool true) ∧ Chg [] w w' := by
  have hr := h.lt
  obtain ⟨v, hb, hs⟩ := id h
  obtain ⟨A, c, rfl, _, hA⟩ := hs.form
  obtain ⟨c0, c1, c2⟩ := blk3 hb
  have k2 : decide ((l.length : Int) < 60) = true := by simp; omega
  go_enter Try.func86, Try.ntmps86
  go_wp2_with fail
  refine wp_tail 14 (by kernel_rfl) (by kernel_rfl) ?_
  intro W hW
  have hf := rbfits W r l (h.chg hW (by simp) (by simp)) sd pr hlen
  have c0 := hW.cell c0 (by simp)
  have c2 := hW.cell c2 (by simp)
  simp only [List.take_succ_cons, List.take_zero, List.drop_succ_cons, List.drop_zero]
  repeat still_step
  refine wpStill_nil ?_
  go_wp2_with fail
  refine hf.mono ?_
  rintro e w' ⟨rfl, hC⟩
  go_wp2
  go_ret
  exact ⟨rfl, hW.trans hC⟩

end Go.Proofs.Ytdcjfaplgpeonaa
