/-
  Whatever acts are done on the program's index and on the reference's, one behind the other: both answer alike, and a symbol has as many keys in both (the law IndexPlays answers true, for every list of acts).
  Conditions: none.
-/
import Derived.Test.YtdcjfaplgpeonaaLd
import Derived.Test.YtdcjfaplgpeonaaG
import Derived.OpenShut
namespace Go.Proofs.Ytdcjfaplgpeonaa.indexPlays
open Go.ChangeShapes Go.WideShapes Go.ChangeAt Go.RowKit Go.Dm

theorem own : ownKnob Try.prog.godebug = none := by kernel_rfl
theorem laidOut : laidOutB Try.prog = true := by kernel_rfl

theorem flat32 : FlatInts Try.prog 32 4 :=
  flat_struct [1, 1, 1, 1] Try.underlying32 (by kernel_rfl) rfl rfl (fun j hj => by
    have hj4 : j < 4 := hj
    have f3 : FlatInts Try.prog 3 1 := flat_int Try.underlying3 (by kernel_rfl)
    have f2 : FlatInts Try.prog 2 1 := flat_int Try.underlying2 (by kernel_rfl)
    match j, hj4 with
    | 0, _ => exact ⟨_, rfl, rfl, f3⟩
    | 1, _ => exact ⟨_, rfl, rfl, f3⟩
    | 2, _ => exact ⟨_, rfl, rfl, f3⟩
    | 3, _ => exact ⟨_, rfl, rfl, f2⟩)

def toAct (ns : List Int) : Act12 := ⟨ns.getD 0 0, ns.getD 1 0, ns.getD 2 0, ns.getD 3 0⟩
theorem acts_at {w : World} {A : Option Addr} {rows : List (List Int)} (hl : ∀ ns ∈ rows, ns.length = 4)
    (h : rows = [] ∨ ∃ b off, A = some ⟨b, off, none⟩ ∧ b < w.heap.size ∧ ∀ (i : Nat) (ns : List Int), rows[i]? = some ns → ∀ (j : Nat) (n : Int), ns[j]? = some n → w.cell? ⟨b, off + i * 4 + j, none⟩ = some (.int .i64 n)) :
    ActsAt w A (rows.map toAct) := by
  rcases h with rfl | ⟨b, off, rfl, hb, hc⟩
  · exact .inl rfl
  · refine .inr ⟨b, off, rfl, hb, fun i p hp => ?_⟩
    rw [List.getElem?_map, Option.map_eq_some_iff] at hp
    obtain ⟨ns, hns, rfl⟩ := hp
    have h4 := hl ns (List.mem_of_getElem? hns)
    match ns, h4 with
    | [n0, n1, n2, n3], _ => exact ⟨hc i _ hns 0 n0 rfl, hc i _ hns 1 n1 rfl, hc i _ hns 2 n2 rfl, hc i _ hns 3 n3 rfl⟩

set_option maxRecDepth 100000 in
theorem lifted (os : Os) (started : os.Started) (H : Type) (enc : TypeId × Value → H) :
    ReturnsInHanded {} Try.checked os 3 .any (Rows.indexPlaysSpec.pre6 enc Try.prog Try.f3 Rows.indexPlaysRow.domain false) (Rows.indexPlaysSpec.post enc Try.prog Try.f3 false true false false) := by
  refine returnsInHanded_of_change_sized (C := Try.checked) own started (by kernel_rfl) Try.func3
    (ChangeSpec.witness6 (enc := enc) (C := Try.checked) false ⟨#[], #[.slice none 0 0], []⟩ 8 (by kernel_rfl) (by kernel_rfl) (by kernel_rfl) (by kernel_rfl)) ?_
  intro W base args ds gs before hval0 hW hcnd hsz0 _
  have hval : ∀ (j : Nat) t v, Try.f3.params[j]? = some t → args[j]? = some v → Value.okWide Try.prog W .any base t v := hval0
  have hW' := hW
  obtain ⟨p, q, hA0, hV, rfl, hfz, hnd⟩ := hW
  have hA : DataW.TrodAll enc Try.prog W 0 (fun _ => true) true Try.f3.params.toList args.toList ds p := hA0
  rw [Try.params3] at hA hval
  obtain ⟨v0, vs0, d0, ds0, p0, q0, hargs, rfl, rfl, h0, r0⟩ := trodAll_cons hA
  obtain ⟨rfl, rfl, rfl⟩ := trodAll_nil r0
  obtain rfl : args = #[v0] := by cases args; simp_all
  obtain ⟨rfl, rfl⟩ := trodVars_none hV
  have k0 := h0
  have lt0 : ∀ x ∈ p0, x.block < W.heap.size := by obtain ⟨m, hm⟩ := k0; exact DataW.trod_lt m _ _ _ hm
  obtain ⟨A, cap, rows, rfl, hl, hrows⟩ := open_flats flat32 (by omega) Try.underlying22 (hval 0 22 v0 rfl rfl) h0
  have hw := plays_any W A cap (rows.map toAct) (acts_at hl hrows)
  rw [List.length_map] at hw
  refine hw.mono fun e W' ⟨he, hC⟩ => ?_
  have bel : Below W.heap.size W W' := hC.below (Nat.le_refl _) (by simp)
  subst he
  exact ⟨_, rfl, _, _, _, [], _, [], hW', trodAll_mk1 (shut_bool Try.underlying4 _), (trodAll_cons_mk (Below.trod laidOut (by kernel_rfl) (of_decide_eq_true (by kernel_rfl)) k0 bel lt0) trodAll_mk0), rfl, bel.frame _, fun h => by cases h⟩

theorem over : Rows.indexPlaysRow.holds Try.pinned (OpenSpec.ofChange Rows.indexPlaysSpec) :=
  OpenClaim.holds_of_wide 3 Try.f3 rfl rfl rfl rfl rfl rfl rfl ⟨rfl, rfl, rfl, rfl, rfl⟩ rfl rfl rfl rfl rfl (by kernel_rfl) Try.func3 (by kernel_rfl)
    (of_decide_eq_true (by kernel_rfl)) (by unfold Func.isWrapper; first | (rw [if_pos (by decide +kernel)]; kernel_rfl) | (rw [if_neg (by decide +kernel)]; exact ⟨rfl, rfl⟩))
    (fun os started H enc _ => lifted os started H enc)
theorem proved : Rows.IndexPlaysSaid := over
#print axioms proved
end Go.Proofs.Ytdcjfaplgpeonaa.indexPlays
