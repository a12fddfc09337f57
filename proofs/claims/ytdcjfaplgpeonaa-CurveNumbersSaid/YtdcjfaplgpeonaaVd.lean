/-
  The sums over a side are sums over the orders; how much a point trades.
-/
import Derived.Test.YtdcjfaplgpeonaaVc
namespace Go.Proofs.Ytdcjfaplgpeonaa
open Go.RowKit Go.Dm
attribute [local go_sem] Oper.semAt_some

theorem range_getD (L : List Ord) : (List.range L.length).map (fun i => L.getD i (fun _ => 0)) = L := by
  refine List.ext_getElem? fun i => ?_
  rw [List.getElem?_map]
  by_cases hi : i < L.length
  · rw [List.getElem?_range hi]; simp [List.getD, hi]
  · rw [List.getElem?_eq_none (by simp; omega), List.getElem?_eq_none (by omega)]; rfl
theorem sideO_map (L : List Ord) (s : List Nat) (h : ∀ i ∈ s, i < L.length) : sideO L s = s.map (fun i => L.getD i (fun _ => 0)) := by
  unfold sideO ordsS
  have := congrArg (List.map (fun i => L.getD i (fun _ => (0 : Int)))) (toS_val L s h)
  rw [List.map_map] at this
  exact this
theorem sideO_perm {sd : Int} {lv : List Lvl} {L : List Ord} (ok : LvOk sd lv L) : (sideO L (lv.flatMap (·.s))).Perm (L.filter (fun o => decide (o 2 = sd))) := by
  have hlt : ∀ i ∈ lv.flatMap (·.s), i < L.length := fun i hi => by
    obtain ⟨x, hx, hi⟩ := List.mem_flatMap.1 hi
    exact ok.lt hx hi
  rw [sideO_map L _ hlt]
  have h1 : (lv.flatMap (·.s)).Perm ((List.range L.length).filter (fun i => decide ((L.getD i (fun _ => 0)) 2 = sd))) := by
    refine (List.perm_ext_iff_of_nodup ok.nodup (List.Nodup.sublist List.filter_sublist List.nodup_range)).2 fun i => ?_
    rw [List.mem_filter, List.mem_range, decide_eq_true_eq]
    constructor
    · intro hi
      obtain ⟨x, hx, hi2⟩ := List.mem_flatMap.1 hi
      obtain ⟨o, ho, h2, _⟩ := ok.slots x hx i hi2
      refine ⟨hlt i hi, ?_⟩
      simp [List.getD, ho, h2]
    · rintro ⟨hi, h2⟩
      have ho : L[i]? = some (L.getD i (fun _ => 0)) := by simp [List.getD, hi]
      obtain ⟨x, hx, hi2⟩ := ok.all i _ ho h2
      exact List.mem_flatMap.2 ⟨x, hx, hi2⟩
  have h2 := h1.map (fun i => L.getD i (fun _ => (0 : Int)))
  refine h2.trans ?_
  have h3 : L.filter (fun o => decide (o 2 = sd)) = ((List.range L.length).map (fun i => L.getD i (fun _ => 0))).filter (fun o => decide (o 2 = sd)) := by rw [range_getD]
  rw [h3, List.filter_map]
  exact List.Perm.refl _
theorem sumO_perm {a b : List Ord} (h : a.Perm b) : sumO a = sumO b := by
  unfold sumO
  induction h with
  | nil => rfl
  | cons x _ ih => simp only [List.map_cons, List.sum_cons, ih]
  | swap x y l => simp only [List.map_cons, List.sum_cons]; omega
  | trans _ _ h1 h2 => exact h1.trans h2
theorem demO_perm {a b : List Ord} (h : a.Perm b) (p : Int) : demO a p = demO b p := sumO_perm (h.filter _)
theorem supO_perm {a b : List Ord} (h : a.Perm b) (p : Int) : supO a p = supO b p := sumO_perm (h.filter _)

theorem vol37 (w : World) (p d s : Int) : Calls Try.prog 37 #[ptV p d s] w fun e w' => e = .returned (.int .i64 (min d s)) ∧ Chg [] w w' := by
  have hA := Chg.alloc [] w (.cells #[.int .i64 p, .int .i64 d, .int .i64 s] 83)
  unfold ptV
  go_enter Try.func37, Try.ntmps37
  go_wp2_with fail
  go_ret
  exact ⟨rfl, hA⟩
theorem odd63 (w : World) (d s : Int) : Calls Try.prog 63 #[.int .i64 d, .int .i64 s] w fun e w' => e = .returned (.int .i64 (wrap64 (max d s - min d s))) ∧ w' = w := by
  go_enter Try.func63, Try.ntmps63
  go_wp2_with fail
  go_ret
  exact ⟨rfl, rfl⟩
theorem odd40 (w : World) (p d s : Int) : Calls Try.prog 40 #[ptV p d s] w fun e w' => e = .returned (.int .i64 (wrap64 (max d s - min d s))) ∧ Chg [] w w' := by
  have hA := Chg.alloc [] w (.cells #[.int .i64 p, .int .i64 d, .int .i64 s] 83)
  unfold ptV
  go_enter Try.func40, Try.ntmps40
  go_wp2_with fail
  refine (odd63 _ _ _).mono ?_
  rintro e w' ⟨rfl, rfl⟩
  go_wp2_with fail
  go_ret
  exact ⟨rfl, hA⟩
theorem rvol39 (w : World) (p d s : Int) : Calls Try.prog 39 #[ptV p d s] w fun e w' => e = .returned (.int .i64 (min d s)) ∧ Chg [] w w' := by
  have hA := Chg.alloc [] w (.cells #[.int .i64 p, .int .i64 d, .int .i64 s] 81)
  unfold ptV
  go_enter Try.func39, Try.ntmps39
  go_wp2_with fail
  go_ret
  exact ⟨rfl, hA⟩
theorem rodd41 (w : World) (p d s : Int) : Calls Try.prog 41 #[ptV p d s] w fun e w' => e = .returned (.int .i64 (wrap64 (max d s - min d s))) ∧ Chg [] w w' := by
  have hA := Chg.alloc [] w (.cells #[.int .i64 p, .int .i64 d, .int .i64 s] 81)
  unfold ptV
  go_enter Try.func41, Try.ntmps41
  go_wp2_with fail
  go_ret
  exact ⟨rfl, hA⟩
theorem own38 (w : World) (p d s : Int) : Calls Try.prog 38 #[ptV p d s] w fun e w' => e = .returned (ptV p d s) ∧ Chg [] w w' := by
  have hA := Chg.alloc [] w (.cells #[.int .i64 p, .int .i64 d, .int .i64 s] 81)
  have hA2 := Chg.alloc [] (w.alloc (.cells #[.int .i64 p, .int .i64 d, .int .i64 s] 81)) (.cells #[.int .i64 p, .int .i64 d, .int .i64 s] 83)
  have b := heap_alloc_new (w.alloc (.cells #[.int .i64 p, .int .i64 d, .int .i64 s] 81)) (.cells #[.int .i64 p, .int .i64 d, .int .i64 s] 83)
  simp only [World.size_alloc] at b
  have hC := hA.trans hA2
  unfold ptV
  go_enter Try.func38, Try.ntmps38
  go_wp2_with fail
  refine bodyPost_ret (results_pt rfl _ _ (w.heap.size + 1) p d s rfl b) rfl ?_
  exact ⟨rfl, hC⟩
end Go.Proofs.Ytdcjfaplgpeonaa
