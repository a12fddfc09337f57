/-
  The law's own functions over the index: the chapter's example; one act on both.
-/
import Derived.Test.YtdcjfaplgpeonaaRo
namespace Go.Proofs.Ytdcjfaplgpeonaa
open Go.RowKit Go.Dm

set_option maxRecDepth 100000 in
set_option maxHeartbeats 1000000 in
theorem alive12 (w : World) : Calls Try.prog 13 #[] w fun e w' => e = .returned (.bool true) ∧ Chg [] w w' := by
  go_enter Try.func13, Try.ntmps13
  go_wp2_with fail
  refine (new_any _).mono ?_
  rintro e W1 ⟨x, m1, m2, rfl, h1, hC1, hx, hm1, hm2⟩
  go_wp2_with fail
  refine (put_new _ x m1 m2 [] h1 0 5 3 rfl (by simp)).mono ?_
  rintro e W2 ⟨rfl, h2, hC2⟩
  have hA2 : Chg [] w W2 := hC1.trans' hC2 (by simp) (by simp; omega)
  clear hC1 hC2 h1
  go_wp2_with fail
  refine (get_any _ x m1 m2 _ h2 0 5).mono ?_
  rintro e W3 ⟨rfl, hC3⟩
  have h3 := h2.chg hC3 (by simp) (by simp) (by simp)
  have hA3 := hA2.trans hC3
  clear hC3 h2 hA2
  have e1 : mLook ([] ++ [(((0 : Int), (5 : Int)), (3 : Int))]) (0, 5) = some 3 := rfl
  simp only [e1, Option.getD_some, Option.isSome_some]
  clear e1
  go_wp2_with fail
  refine (get_any _ x m1 m2 _ h3 1 5).mono ?_
  rintro e W4 ⟨rfl, hC4⟩
  have h4 := h3.chg hC4 (by simp) (by simp) (by simp)
  have hA4 := hA3.trans hC4
  clear hC4 h3 hA3
  have e1 : mLook ([] ++ [(((0 : Int), (5 : Int)), (3 : Int))]) (1, 5) = none := rfl
  simp only [e1, Option.getD_none, Option.isSome_none]
  clear e1
  go_wp2_with fail
  refine (len_any _ x m1 m2 _ h4 0).mono ?_
  rintro e W5 ⟨rfl, rfl⟩
  have e1 : (icnt ([] ++ [(((0 : Int), (5 : Int)), (3 : Int))]) 0 : Int) = 1 := rfl
  rw [e1]
  clear e1
  go_wp2
  go_ret
  exact ⟨rfl, hA4⟩
end Go.Proofs.Ytdcjfaplgpeonaa
