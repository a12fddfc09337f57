/-
  The points of a book, as far as they are asked, are the document's (the law CurvePoints answers true, for all orders and every number of points asked).
  Conditions: none.
-/
import Derived.Test.YtdcjfaplgpeonaaQi
import Derived.Test.YtdcjfaplgpeonaaG
import Derived.OpenShut
namespace Go.Proofs.Ytdcjfaplgpeonaa.curvePoints
open Go.ChangeShapes Go.WideShapes Go.ChangeAt Go.RowKit Go.Dm

theorem own : ownKnob Try.prog.godebug = none := by kernel_rfl
theorem laidOut : laidOutB Try.prog = true := by kernel_rfl

theorem flat52 : FlatInts Try.prog 52 7 :=
  flat_struct [1, 1, 1, 1, 1, 1, 1] Try.underlying52 (by kernel_rfl) rfl rfl (fun j hj => by
    have hjn : j < 7 := hj
    have f2 : FlatInts Try.prog 2 1 := flat_int Try.underlying2 (by kernel_rfl)
    have f3 : FlatInts Try.prog 3 1 := flat_int Try.underlying3 (by kernel_rfl)
    match j, hjn with
    | 0, _ => exact ⟨_, rfl, rfl, f2⟩
    | 1, _ => exact ⟨_, rfl, rfl, f3⟩
    | 2, _ => exact ⟨_, rfl, rfl, f3⟩
    | 3, _ => exact ⟨_, rfl, rfl, f2⟩
    | 4, _ => exact ⟨_, rfl, rfl, f2⟩
    | 5, _ => exact ⟨_, rfl, rfl, f3⟩
    | 6, _ => exact ⟨_, rfl, rfl, f2⟩)
def toOrd (ns : List Int) : Nat → Int := fun j => ns.getD j 0
theorem ords_at {w : World} {A : Option Addr} {rows : List (List Int)} (hl : ∀ ns ∈ rows, ns.length = 7)
    (h : rows = [] ∨ ∃ b off, A = some ⟨b, off, none⟩ ∧ b < w.heap.size ∧ ∀ (i : Nat) (ns : List Int), rows[i]? = some ns → ∀ (j : Nat) (n : Int), ns[j]? = some n → w.cell? ⟨b, off + i * 7 + j, none⟩ = some (.int .i64 n)) :
    OrdsAt w A (rows.map toOrd) := by
  rcases h with rfl | ⟨b, off, rfl, hb, hc⟩
  · exact .inl rfl
  · refine .inr ⟨b, off, rfl, hb, fun i p hp j hj => ?_⟩
    rw [List.getElem?_map, Option.map_eq_some_iff] at hp
    obtain ⟨ns, hns, rfl⟩ := hp
    have h4 := hl ns (List.mem_of_getElem? hns)
    have hj2 : j < ns.length := by omega
    have := hc i _ hns j ns[j] (List.getElem?_eq_getElem hj2)
    rw [this]
    simp [toOrd, List.getD, List.getElem?_eq_getElem hj2]


set_option maxRecDepth 100000 in
theorem lifted (os : Os) (started : os.Started) (H : Type) (enc : TypeId × Value → H) :
    ReturnsInHanded {} Try.checked os 11 .any (Rows.curvePointsSpec.pre6 enc Try.prog Try.f11 Rows.curvePointsRow.domain false) (Rows.curvePointsSpec.post enc Try.prog Try.f11 false true false false) := by
  refine returnsInHanded_of_change_sized (C := Try.checked) own started (by kernel_rfl) Try.func11
    (ChangeSpec.witness6 (enc := enc) (C := Try.checked) false ⟨#[], #[.slice none 0 0, .int .i64 0], []⟩ 8 (by kernel_rfl) (by kernel_rfl) (by kernel_rfl) (by kernel_rfl)) ?_
  intro W base args ds gs before hval0 hW hcnd hsz0 _
  have hval : ∀ (j : Nat) t v, Try.f11.params[j]? = some t → args[j]? = some v → Value.okWide Try.prog W .any base t v := hval0
  have hW' := hW
  obtain ⟨p, q, hA0, hV, rfl, hfz, hnd⟩ := hW
  have hA : DataW.TrodAll enc Try.prog W 0 (fun _ => true) true Try.f11.params.toList args.toList ds p := hA0
  rw [Try.params11] at hA hval
  obtain ⟨v0, vs0, d0, ds0, p0, q0, hargs0, rfl, rfl, h0, t0⟩ := trodAll_cons hA
  obtain ⟨v1, vs1, d1, ds1, p1, q1, hargs1, rfl, rfl, h1, t1⟩ := trodAll_cons t0
  obtain ⟨rfl, rfl, rfl⟩ := trodAll_nil t1
  obtain rfl : args = #[v0, v1] := by cases args; simp_all
  obtain ⟨rfl, rfl⟩ := trodVars_none hV
  have k0 := h0
  have lt0 : ∀ x ∈ p0, x.block < W.heap.size := by obtain ⟨m, hm⟩ := k0; exact DataW.trod_lt m _ _ _ hm
  have k1 := h1
  have lt1 : ∀ x ∈ p1, x.block < W.heap.size := by obtain ⟨m, hm⟩ := k1; exact DataW.trod_lt m _ _ _ hm
  obtain ⟨A0, cap0, rows0, rfl, hl0, hrows0⟩ := open_flats flat52 (by omega) Try.underlying43 (hval 0 43 v0 rfl rfl) h0
  obtain ⟨n1, rfl⟩ := okWide_int Try.underlying3 (hval 1 3 v1 rfl rfl)
  have hw := points11 W A0 cap0 (rows0.map toOrd) (ords_at hl0 hrows0) n1
  try rw [List.length_map] at hw
  refine hw.mono fun e W' ⟨he, hC⟩ => ?_
  have bel : Below W.heap.size W W' := hC.below (Nat.le_refl _) (by simp)
  subst he
  exact ⟨_, rfl, _, _, _, [], _, [], hW', trodAll_mk1 (shut_bool Try.underlying4 _), (trodAll_cons_mk (Below.trod laidOut (by kernel_rfl) (of_decide_eq_true (by kernel_rfl)) k0 bel lt0) (trodAll_cons_mk (Below.trod laidOut (by kernel_rfl) (of_decide_eq_true (by kernel_rfl)) k1 bel lt1) trodAll_mk0)), rfl, bel.frame _, fun h => by cases h⟩

theorem over : Rows.curvePointsRow.holds Try.pinned (OpenSpec.ofChange Rows.curvePointsSpec) :=
  OpenClaim.holds_of_wide 11 Try.f11 rfl rfl rfl rfl rfl rfl rfl ⟨rfl, rfl, rfl, rfl, rfl⟩ rfl rfl rfl rfl rfl (by kernel_rfl) Try.func11 (by kernel_rfl)
    (of_decide_eq_true (by kernel_rfl)) (by unfold Func.isWrapper; first | (rw [if_pos (by decide +kernel)]; kernel_rfl) | (rw [if_neg (by decide +kernel)]; exact ⟨rfl, rfl⟩))
    (fun os started H enc _ => lifted os started H enc)
theorem proved : Rows.CurvePointsSaid := over
#print axioms proved
end Go.Proofs.Ytdcjfaplgpeonaa.curvePoints
