/-
  Keys of unlike symbols, or IDs, know nothing of each other in the index, and a nil index holds nothing (the law IndexApart answers true, for any two acts).
  Conditions: none.
-/
import Derived.Test.YtdcjfaplgpeonaaLe
import Derived.Test.YtdcjfaplgpeonaaG
import Derived.OpenShut
namespace Go.Proofs.Ytdcjfaplgpeonaa.indexApart
open Go.ChangeShapes Go.WideShapes Go.ChangeAt Go.RowKit Go.Dm

theorem own : ownKnob Try.prog.godebug = none := by kernel_rfl
theorem laidOut : laidOutB Try.prog = true := by kernel_rfl

theorem flat32 : FlatInts Try.prog 32 4 :=
  flat_struct [1, 1, 1, 1] Try.underlying32 (by kernel_rfl) rfl rfl (fun j hj => by
    have hj4 : j < 4 := hj
    have f3 : FlatInts Try.prog 3 1 := flat_int Try.underlying3 (by kernel_rfl)
    have f2 : FlatInts Try.prog 2 1 := flat_int Try.underlying2 (by kernel_rfl)
    match j, hj4 with
    | 0, _ => exact ⟨_, rfl, rfl, f3⟩
    | 1, _ => exact ⟨_, rfl, rfl, f3⟩
    | 2, _ => exact ⟨_, rfl, rfl, f3⟩
    | 3, _ => exact ⟨_, rfl, rfl, f2⟩)

theorem apart_any (w : World) (a b : List Int) (ha : a.length = 4) (hb : b.length = 4) :
    Calls Try.prog 4 #[.agg (a.map (Value.int .i64)).toArray, .agg (b.map (Value.int .i64)).toArray] w fun e w' => e = .returned (.bool true) ∧ Chg [] w w' := by
  match a, ha, b, hb with
  | [ak, sa, al, ad], _, [bk, sb, bl, bd], _ =>
    by_cases h : sa = sb
    · subst h
      by_cases h : ad = bd
      · subst h; exact apart_same w ak sa al ad bk bl
      · exact apart_unlike2 w ak sa al ad bk bl bd h
    · exact apart_unlike1 w ak sa al ad bk sb bl bd h

set_option maxRecDepth 100000 in
theorem lifted (os : Os) (started : os.Started) (H : Type) (enc : TypeId × Value → H) :
    ReturnsInHanded {} Try.checked os 4 .any (Rows.indexApartSpec.pre6 enc Try.prog Try.f4 Rows.indexApartRow.domain false) (Rows.indexApartSpec.post enc Try.prog Try.f4 false true false false) := by
  refine returnsInHanded_of_change_sized (C := Try.checked) own started (by kernel_rfl) Try.func4
    (ChangeSpec.witness6 (enc := enc) (C := Try.checked) false ⟨#[], #[.agg #[.int .i64 0, .int .i64 0, .int .i64 0, .int .i64 0], .agg #[.int .i64 0, .int .i64 0, .int .i64 0, .int .i64 0]], []⟩ 8 (by kernel_rfl) (by kernel_rfl) (by kernel_rfl) (by kernel_rfl)) ?_
  intro W base args ds gs before hval0 hW hcnd hsz0 _
  have hval : ∀ (j : Nat) t v, Try.f4.params[j]? = some t → args[j]? = some v → Value.okWide Try.prog W .any base t v := hval0
  have hW' := hW
  obtain ⟨p, q, hA0, hV, rfl, hfz, hnd⟩ := hW
  have hA : DataW.TrodAll enc Try.prog W 0 (fun _ => true) true Try.f4.params.toList args.toList ds p := hA0
  rw [Try.params4] at hA hval
  obtain ⟨v0, vs0, d0, ds0, p0, q0, hargs, rfl, rfl, h0, r0⟩ := trodAll_cons hA
  obtain ⟨v1, vs1, d1, ds1, p1, q1, hargs1, rfl, rfl, h1, r1⟩ := trodAll_cons r0
  obtain ⟨rfl, rfl, rfl⟩ := trodAll_nil r1
  obtain rfl : args = #[v0, v1] := by cases args; simp_all
  obtain ⟨rfl, rfl⟩ := trodVars_none hV
  have k0 := h0
  have k1 := h1
  have lt0 : ∀ x ∈ p0, x.block < W.heap.size := by obtain ⟨m, hm⟩ := k0; exact DataW.trod_lt m _ _ _ hm
  have lt1 : ∀ x ∈ p1, x.block < W.heap.size := by obtain ⟨m, hm⟩ := k1; exact DataW.trod_lt m _ _ _ hm
  obtain ⟨n0, hl0, rfl⟩ := open_flat flat32 Try.underlying32 (hval 0 32 v0 rfl rfl) h0
  obtain ⟨n1, hl1, rfl⟩ := open_flat flat32 Try.underlying32 (hval 1 32 v1 rfl rfl) h1
  have hw := apart_any W n0 n1 hl0 hl1
  refine hw.mono fun e W' ⟨he, hC⟩ => ?_
  have bel : Below W.heap.size W W' := hC.below (Nat.le_refl _) (by simp)
  subst he
  exact ⟨_, rfl, _, _, _, [], _, [], hW', trodAll_mk1 (shut_bool Try.underlying4 _), (trodAll_cons_mk (Below.trod laidOut (by kernel_rfl) (of_decide_eq_true (by kernel_rfl)) k0 bel lt0) (trodAll_cons_mk (Below.trod laidOut (by kernel_rfl) (of_decide_eq_true (by kernel_rfl)) k1 bel lt1) trodAll_mk0)), rfl, bel.frame _, fun h => by cases h⟩

theorem over : Rows.indexApartRow.holds Try.pinned (OpenSpec.ofChange Rows.indexApartSpec) :=
  OpenClaim.holds_of_wide 4 Try.f4 rfl rfl rfl rfl rfl rfl rfl ⟨rfl, rfl, rfl, rfl, rfl⟩ rfl rfl rfl rfl rfl (by kernel_rfl) Try.func4 (by kernel_rfl)
    (of_decide_eq_true (by kernel_rfl)) (by unfold Func.isWrapper; first | (rw [if_pos (by decide +kernel)]; kernel_rfl) | (rw [if_neg (by decide +kernel)]; exact ⟨rfl, rfl⟩))
    (fun os started H enc _ => lifted os started H enc)
theorem proved : Rows.IndexApartSaid := over
#print axioms proved
end Go.Proofs.Ytdcjfaplgpeonaa.indexApart
