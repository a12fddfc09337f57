/-
  A symbol's IDs, rising, with their slots, as far as they are asked, behind any acts on an index (the law IndexEach answers true, for every list of acts, every symbol and every bound).
  Conditions: none.
-/
import Derived.Test.YtdcjfaplgpeonaaEe
import Derived.Test.YtdcjfaplgpeonaaG
import Derived.OpenShut
namespace Go.Proofs.Ytdcjfaplgpeonaa.indexEach
open Go.ChangeShapes Go.WideShapes Go.ChangeAt Go.RowKit Go.Dm

theorem own : ownKnob Try.prog.godebug = none := by kernel_rfl
theorem laidOut : laidOutB Try.prog = true := by kernel_rfl

theorem flat32 : FlatInts Try.prog 32 4 :=
  flat_struct [1, 1, 1, 1] Try.underlying32 (by kernel_rfl) rfl rfl (fun j hj => by
    have hjn : j < 4 := hj
    have f2 : FlatInts Try.prog 2 1 := flat_int Try.underlying2 (by kernel_rfl)
    have f3 : FlatInts Try.prog 3 1 := flat_int Try.underlying3 (by kernel_rfl)
    match j, hjn with
    | 0, _ => exact ⟨_, rfl, rfl, f3⟩
    | 1, _ => exact ⟨_, rfl, rfl, f3⟩
    | 2, _ => exact ⟨_, rfl, rfl, f3⟩
    | 3, _ => exact ⟨_, rfl, rfl, f2⟩)
def toAct (ns : List Int) : Act12 := ⟨ns.getD 0 0, ns.getD 1 0, ns.getD 2 0, ns.getD 3 0⟩
theorem acts_at {w : World} {A : Option Addr} {rows : List (List Int)} (hl : ∀ ns ∈ rows, ns.length = 4)
    (h : rows = [] ∨ ∃ b off, A = some ⟨b, off, none⟩ ∧ b < w.heap.size ∧ ∀ (i : Nat) (ns : List Int), rows[i]? = some ns → ∀ (j : Nat) (n : Int), ns[j]? = some n → w.cell? ⟨b, off + i * 4 + j, none⟩ = some (.int .i64 n)) :
    ActsAt w A (rows.map toAct) := by
  rcases h with rfl | ⟨b, off, rfl, hb, hc⟩
  · exact .inl rfl
  · refine .inr ⟨b, off, rfl, hb, fun i p hp => ?_⟩
    rw [List.getElem?_map, Option.map_eq_some_iff] at hp
    obtain ⟨ns, hns, rfl⟩ := hp
    have h4 := hl ns (List.mem_of_getElem? hns)
    match ns, h4 with
    | [n0, n1, n2, n3], _ => exact ⟨hc i _ hns 0 n0 rfl, hc i _ hns 1 n1 rfl, hc i _ hns 2 n2 rfl, hc i _ hns 3 n3 rfl⟩
theorem each_at (w : World) (A : Option Addr) (cap : Nat) (acts : List Act12) (sym stop : Int) (h : ActsAt w A acts) :
    Calls Try.prog 9 #[.slice A acts.length cap, .int .i64 sym, .int .i64 stop] w fun e w' => e = .returned (.bool true) ∧ Chg [] w w' :=
  (eachX_any w A cap acts sym stop h).mono fun _ _ h => ⟨h.1, Chg.of_below h.2 []⟩

set_option maxRecDepth 100000 in
theorem lifted (os : Os) (started : os.Started) (H : Type) (enc : TypeId × Value → H) :
    ReturnsInHanded {} Try.checked os 9 .any (Rows.indexEachSpec.pre6 enc Try.prog Try.f9 Rows.indexEachRow.domain false) (Rows.indexEachSpec.post enc Try.prog Try.f9 false true false false) := by
  refine returnsInHanded_of_change_sized (C := Try.checked) own started (by kernel_rfl) Try.func9
    (ChangeSpec.witness6 (enc := enc) (C := Try.checked) false ⟨#[], #[.slice none 0 0, .int .i64 0, .int .i64 0], []⟩ 8 (by kernel_rfl) (by kernel_rfl) (by kernel_rfl) (by kernel_rfl)) ?_
  intro W base args ds gs before hval0 hW hcnd hsz0 _
  have hval : ∀ (j : Nat) t v, Try.f9.params[j]? = some t → args[j]? = some v → Value.okWide Try.prog W .any base t v := hval0
  have hW' := hW
  obtain ⟨p, q, hA0, hV, rfl, hfz, hnd⟩ := hW
  have hA : DataW.TrodAll enc Try.prog W 0 (fun _ => true) true Try.f9.params.toList args.toList ds p := hA0
  rw [Try.params9] at hA hval
  obtain ⟨v0, vs0, d0, ds0, p0, q0, hargs0, rfl, rfl, h0, t0⟩ := trodAll_cons hA
  obtain ⟨v1, vs1, d1, ds1, p1, q1, hargs1, rfl, rfl, h1, t1⟩ := trodAll_cons t0
  obtain ⟨v2, vs2, d2, ds2, p2, q2, hargs2, rfl, rfl, h2, t2⟩ := trodAll_cons t1
  obtain ⟨rfl, rfl, rfl⟩ := trodAll_nil t2
  obtain rfl : args = #[v0, v1, v2] := by cases args; simp_all
  obtain ⟨rfl, rfl⟩ := trodVars_none hV
  have k0 := h0
  have lt0 : ∀ x ∈ p0, x.block < W.heap.size := by obtain ⟨m, hm⟩ := k0; exact DataW.trod_lt m _ _ _ hm
  have k1 := h1
  have lt1 : ∀ x ∈ p1, x.block < W.heap.size := by obtain ⟨m, hm⟩ := k1; exact DataW.trod_lt m _ _ _ hm
  have k2 := h2
  have lt2 : ∀ x ∈ p2, x.block < W.heap.size := by obtain ⟨m, hm⟩ := k2; exact DataW.trod_lt m _ _ _ hm
  obtain ⟨A0, cap0, rows0, rfl, hl0, hrows0⟩ := open_flats flat32 (by omega) Try.underlying22 (hval 0 22 v0 rfl rfl) h0
  obtain ⟨n1, rfl⟩ := okWide_int Try.underlying3 (hval 1 3 v1 rfl rfl)
  obtain ⟨n2, rfl⟩ := okWide_int Try.underlying3 (hval 2 3 v2 rfl rfl)
  have hw := each_at W A0 cap0 (rows0.map toAct) n1 n2 (acts_at hl0 hrows0)
  try rw [List.length_map] at hw
  refine hw.mono fun e W' ⟨he, hC⟩ => ?_
  have bel : Below W.heap.size W W' := hC.below (Nat.le_refl _) (by simp)
  subst he
  exact ⟨_, rfl, _, _, _, [], _, [], hW', trodAll_mk1 (shut_bool Try.underlying4 _), (trodAll_cons_mk (Below.trod laidOut (by kernel_rfl) (of_decide_eq_true (by kernel_rfl)) k0 bel lt0) (trodAll_cons_mk (Below.trod laidOut (by kernel_rfl) (of_decide_eq_true (by kernel_rfl)) k1 bel lt1) (trodAll_cons_mk (Below.trod laidOut (by kernel_rfl) (of_decide_eq_true (by kernel_rfl)) k2 bel lt2) trodAll_mk0))), rfl, bel.frame _, fun h => by cases h⟩

theorem over : Rows.indexEachRow.holds Try.pinned (OpenSpec.ofChange Rows.indexEachSpec) :=
  OpenClaim.holds_of_wide 9 Try.f9 rfl rfl rfl rfl rfl rfl rfl ⟨rfl, rfl, rfl, rfl, rfl⟩ rfl rfl rfl rfl rfl (by kernel_rfl) Try.func9 (by kernel_rfl)
    (of_decide_eq_true (by kernel_rfl)) (by unfold Func.isWrapper; first | (rw [if_pos (by decide +kernel)]; kernel_rfl) | (rw [if_neg (by decide +kernel)]; exact ⟨rfl, rfl⟩))
    (fun os started H enc _ => lifted os started H enc)
theorem proved : Rows.IndexEachSaid := over
#print axioms proved
end Go.Proofs.Ytdcjfaplgpeonaa.indexEach
