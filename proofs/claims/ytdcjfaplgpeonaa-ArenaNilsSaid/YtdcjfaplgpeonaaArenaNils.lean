/-
  What a nil arena says (the law ArenaNils answers true, for every number and every order).
  Conditions: none.
-/
import Derived.Test.YtdcjfaplgpeonaaCa
import Derived.Test.YtdcjfaplgpeonaaG
import Derived.OpenShut
namespace Go.Proofs.Ytdcjfaplgpeonaa.arenaNils
open Go.ChangeShapes Go.WideShapes Go.ChangeAt Go.RowKit Go.Dm

theorem own : ownKnob Try.prog.godebug = none := by kernel_rfl
theorem laidOut : laidOutB Try.prog = true := by kernel_rfl

theorem flat52 : FlatInts Try.prog 52 7 :=
  flat_struct [1, 1, 1, 1, 1, 1, 1] Try.underlying52 (by kernel_rfl) rfl rfl (fun j hj => by
    have hjn : j < 7 := hj
    have f2 : FlatInts Try.prog 2 1 := flat_int Try.underlying2 (by kernel_rfl)
    have f3 : FlatInts Try.prog 3 1 := flat_int Try.underlying3 (by kernel_rfl)
    match j, hjn with
    | 0, _ => exact ⟨_, rfl, rfl, f2⟩
    | 1, _ => exact ⟨_, rfl, rfl, f3⟩
    | 2, _ => exact ⟨_, rfl, rfl, f3⟩
    | 3, _ => exact ⟨_, rfl, rfl, f2⟩
    | 4, _ => exact ⟨_, rfl, rfl, f2⟩
    | 5, _ => exact ⟨_, rfl, rfl, f3⟩
    | 6, _ => exact ⟨_, rfl, rfl, f2⟩)
theorem nils_at (w : World) (n : Int) (r : List Int) (hr : r.length = 7) :
    Calls Try.prog 8 #[.int .i64 n, .agg (r.map (fun n => Value.int .i64 n)).toArray] w fun e w' => e = .returned (.bool true) ∧ Chg [] w w' := by
  match r, hr with
  | [a0, a1, a2, a3, a4, a5, a6], _ =>
    exact (nils_any w n (fun j => [a0, a1, a2, a3, a4, a5, a6].getD j 0)).mono fun e w' h => ⟨h.1, Chg.of_below h.2 []⟩

set_option maxRecDepth 100000 in
theorem lifted (os : Os) (started : os.Started) (H : Type) (enc : TypeId × Value → H) :
    ReturnsInHanded {} Try.checked os 8 .any (Rows.arenaNilsSpec.pre6 enc Try.prog Try.f8 Rows.arenaNilsRow.domain false) (Rows.arenaNilsSpec.post enc Try.prog Try.f8 false true false false) := by
  refine returnsInHanded_of_change_sized (C := Try.checked) own started (by kernel_rfl) Try.func8
    (ChangeSpec.witness6 (enc := enc) (C := Try.checked) false ⟨#[], #[.int .i64 0, .agg #[.int .i64 0, .int .i64 0, .int .i64 0, .int .i64 0, .int .i64 0, .int .i64 0, .int .i64 0]], []⟩ 8 (by kernel_rfl) (by kernel_rfl) (by kernel_rfl) (by kernel_rfl)) ?_
  intro W base args ds gs before hval0 hW hcnd hsz0 _
  have hval : ∀ (j : Nat) t v, Try.f8.params[j]? = some t → args[j]? = some v → Value.okWide Try.prog W .any base t v := hval0
  have hW' := hW
  obtain ⟨p, q, hA0, hV, rfl, hfz, hnd⟩ := hW
  have hA : DataW.TrodAll enc Try.prog W 0 (fun _ => true) true Try.f8.params.toList args.toList ds p := hA0
  rw [Try.params8] at hA hval
  obtain ⟨v0, vs0, d0, ds0, p0, q0, hargs0, rfl, rfl, h0, t0⟩ := trodAll_cons hA
  obtain ⟨v1, vs1, d1, ds1, p1, q1, hargs1, rfl, rfl, h1, t1⟩ := trodAll_cons t0
  obtain ⟨rfl, rfl, rfl⟩ := trodAll_nil t1
  obtain rfl : args = #[v0, v1] := by cases args; simp_all
  obtain ⟨rfl, rfl⟩ := trodVars_none hV
  have k0 := h0
  have lt0 : ∀ x ∈ p0, x.block < W.heap.size := by obtain ⟨m, hm⟩ := k0; exact DataW.trod_lt m _ _ _ hm
  have k1 := h1
  have lt1 : ∀ x ∈ p1, x.block < W.heap.size := by obtain ⟨m, hm⟩ := k1; exact DataW.trod_lt m _ _ _ hm
  obtain ⟨n0, rfl⟩ := okWide_int Try.underlying3 (hval 0 3 v0 rfl rfl)
  obtain ⟨r1, hl1, rfl⟩ := open_flat flat52 Try.underlying52 (hval 1 52 v1 rfl rfl) h1
  have hw := nils_at W n0 r1 hl1
  refine hw.mono fun e W' ⟨he, hC⟩ => ?_
  have bel : Below W.heap.size W W' := hC.below (Nat.le_refl _) (by simp)
  subst he
  exact ⟨_, rfl, _, _, _, [], _, [], hW', trodAll_mk1 (shut_bool Try.underlying4 _), (trodAll_cons_mk (Below.trod laidOut (by kernel_rfl) (of_decide_eq_true (by kernel_rfl)) k0 bel lt0) (trodAll_cons_mk (Below.trod laidOut (by kernel_rfl) (of_decide_eq_true (by kernel_rfl)) k1 bel lt1) trodAll_mk0)), rfl, bel.frame _, fun h => by cases h⟩

theorem over : Rows.arenaNilsRow.holds Try.pinned (OpenSpec.ofChange Rows.arenaNilsSpec) :=
  OpenClaim.holds_of_wide 8 Try.f8 rfl rfl rfl rfl rfl rfl rfl ⟨rfl, rfl, rfl, rfl, rfl⟩ rfl rfl rfl rfl rfl (by kernel_rfl) Try.func8 (by kernel_rfl)
    (of_decide_eq_true (by kernel_rfl)) (by unfold Func.isWrapper; first | (rw [if_pos (by decide +kernel)]; kernel_rfl) | (rw [if_neg (by decide +kernel)]; exact ⟨rfl, rfl⟩))
    (fun os started H enc _ => lifted os started H enc)
theorem proved : Rows.ArenaNilsSaid := over
#print axioms proved
end Go.Proofs.Ytdcjfaplgpeonaa.arenaNils
