/-
  Which of any two prices is before the other one (the law ClearOrders answers true, for any two prices and any reference).
  Conditions: none.
-/
import Derived.Test.YtdcjfaplgpeonaaGreatQk
import Derived.Test.YtdcjfaplgpeonaaGreatG
import Derived.OpenShut
namespace Go.Proofs.YtdcjfaplgpeonaaGreat.clearOrders
open Go.ChangeShapes Go.WideShapes Go.ChangeAt Go.RowKit Go.Dm

theorem own : ownKnob Tryz.prog.godebug = none := by kernel_rfl
theorem laidOut : laidOutB Tryz.prog = true := by kernel_rfl

theorem flat23 : FlatInts Tryz.prog 23 3 :=
  flat_struct [1, 1, 1] Tryz.underlying23 (by kernel_rfl) rfl rfl (fun j hj => by
    have hjn : j < 3 := hj
    have f2 : FlatInts Tryz.prog 2 1 := flat_int Tryz.underlying2 (by kernel_rfl)
    match j, hjn with
    | 0, _ => exact ⟨_, rfl, rfl, f2⟩
    | 1, _ => exact ⟨_, rfl, rfl, f2⟩
    | 2, _ => exact ⟨_, rfl, rfl, f2⟩)
theorem orders_at (w : World) (r0 r1 : List Int) (r : Int) (h0 : r0.length = 3) (h1 : r1.length = 3) :
    Calls Tryz.prog 3 #[.agg (r0.map (fun n => Value.int .i64 n)).toArray, .agg (r1.map (fun n => Value.int .i64 n)).toArray, .int .i64 r] w fun e w' => e = .returned (.bool true) ∧ Chg [] w w' := by
  match r0, h0, r1, h1 with
  | [a0, a1, a2], _, [b0, b1, b2], _ => exact orders3 w ⟨a0, a1, a2⟩ ⟨b0, b1, b2⟩ r

set_option maxRecDepth 100000 in
theorem lifted (os : Os) (started : os.Started) (H : Type) (enc : TypeId × Value → H) :
    ReturnsInHanded {} Tryz.checked os 3 .any (Rows.clearOrdersSpec.pre6 enc Tryz.prog Tryz.f3 Rows.clearOrdersRow.domain false) (Rows.clearOrdersSpec.post enc Tryz.prog Tryz.f3 false true false false) := by
  refine returnsInHanded_of_change_sized (C := Tryz.checked) own started (by kernel_rfl) Tryz.func3
    (ChangeSpec.witness6 (enc := enc) (C := Tryz.checked) false ⟨#[], #[.agg #[.int .i64 0, .int .i64 0, .int .i64 0], .agg #[.int .i64 0, .int .i64 0, .int .i64 0], .int .i64 0], []⟩ 8 (by kernel_rfl) (by kernel_rfl) (by kernel_rfl) (by kernel_rfl)) ?_
  intro W base args ds gs before hval0 hW hcnd hsz0 _
  have hval : ∀ (j : Nat) t v, Tryz.f3.params[j]? = some t → args[j]? = some v → Value.okWide Tryz.prog W .any base t v := hval0
  have hW' := hW
  obtain ⟨p, q, hA0, hV, rfl, hfz, hnd⟩ := hW
  have hA : DataW.TrodAll enc Tryz.prog W 0 (fun _ => true) true Tryz.f3.params.toList args.toList ds p := hA0
  rw [Tryz.params3] at hA hval
  obtain ⟨v0, vs0, d0, ds0, p0, q0, hargs0, rfl, rfl, h0, t0⟩ := trodAll_cons hA
  obtain ⟨v1, vs1, d1, ds1, p1, q1, hargs1, rfl, rfl, h1, t1⟩ := trodAll_cons t0
  obtain ⟨v2, vs2, d2, ds2, p2, q2, hargs2, rfl, rfl, h2, t2⟩ := trodAll_cons t1
  obtain ⟨rfl, rfl, rfl⟩ := trodAll_nil t2
  obtain rfl : args = #[v0, v1, v2] := by cases args; simp_all
  obtain ⟨rfl, rfl⟩ := trodVars_none hV
  have k0 := h0
  have lt0 : ∀ x ∈ p0, x.block < W.heap.size := by obtain ⟨m, hm⟩ := k0; exact DataW.trod_lt m _ _ _ hm
  have k1 := h1
  have lt1 : ∀ x ∈ p1, x.block < W.heap.size := by obtain ⟨m, hm⟩ := k1; exact DataW.trod_lt m _ _ _ hm
  have k2 := h2
  have lt2 : ∀ x ∈ p2, x.block < W.heap.size := by obtain ⟨m, hm⟩ := k2; exact DataW.trod_lt m _ _ _ hm
  obtain ⟨r0, hl0, rfl⟩ := open_flat flat23 Tryz.underlying23 (hval 0 23 v0 rfl rfl) h0
  obtain ⟨r1, hl1, rfl⟩ := open_flat flat23 Tryz.underlying23 (hval 1 23 v1 rfl rfl) h1
  obtain ⟨n2, rfl⟩ := okWide_int Tryz.underlying2 (hval 2 2 v2 rfl rfl)
  have hw := orders_at W r0 r1 n2 hl0 hl1
  refine hw.mono fun e W' ⟨he, hC⟩ => ?_
  have bel : Below W.heap.size W W' := hC.below (Nat.le_refl _) (by simp)
  subst he
  exact ⟨_, rfl, _, _, _, [], _, [], hW', trodAll_mk1 (shut_bool Tryz.underlying4 _), (trodAll_cons_mk (Below.trod laidOut (by kernel_rfl) (of_decide_eq_true (by kernel_rfl)) k0 bel lt0) (trodAll_cons_mk (Below.trod laidOut (by kernel_rfl) (of_decide_eq_true (by kernel_rfl)) k1 bel lt1) (trodAll_cons_mk (Below.trod laidOut (by kernel_rfl) (of_decide_eq_true (by kernel_rfl)) k2 bel lt2) trodAll_mk0))), rfl, bel.frame _, fun h => by cases h⟩

theorem over : Rows.clearOrdersRow.holds Tryz.pinned (OpenSpec.ofChange Rows.clearOrdersSpec) :=
  OpenClaim.holds_of_wide 3 Tryz.f3 rfl rfl rfl rfl rfl rfl rfl ⟨rfl, rfl, rfl, rfl, rfl⟩ rfl rfl rfl rfl rfl (by kernel_rfl) Tryz.func3 (by kernel_rfl)
    (of_decide_eq_true (by kernel_rfl)) (by unfold Func.isWrapper; first | (rw [if_pos (by decide +kernel)]; kernel_rfl) | (rw [if_neg (by decide +kernel)]; exact ⟨rfl, rfl⟩))
    (fun os started H enc _ => lifted os started H enc)
theorem proved : Rows.ClearOrdersSaid := over
#print axioms proved
end Go.Proofs.YtdcjfaplgpeonaaGreat.clearOrders
