/-
  A curve's points, one behind the other; its prices.
-/
import Derived.Test.YtdcjfaplgpeonaaQe
namespace Go.Proofs.Ytdcjfaplgpeonaa
open Go.RowKit Go.Dm Go.Shelf
attribute [local go_sem] Oper.semAt_some
attribute [local simp] wide_fn
attribute [local go_sem] wide_fn

def encPt (x : Pt) : Array Value := #[ptV x.p x.d x.s]
theorem points45_nil (w : World) : Calls Try.prog 45 #[.pointer none] w fun e w' => e = .returned (.func (.func 71) #[] #[]) ∧ w' = w := by
  go_enter Try.func45, Try.ntmps45
  go_wp2
  go_ret
  exact ⟨rfl, rfl⟩
theorem values72 (w : World) (A : Option Addr) (n c : Nat) : Calls Try.prog 72 #[.slice A n c] w fun e w' => e = .returned (.func (.func 92) #[] #[.pointer (some ⟨w.heap.size, 0, none⟩)]) ∧ w' = w.alloc (.cells #[.slice A n c] 133) := by
  go_enter Try.func72, Try.ntmps72
  go_wp2
  go_ret
  exact ⟨rfl, rfl⟩
theorem points45 (w : World) (c : Nat) (A : Option Addr) (n k : Nat) (hb : w.heap[c]? = some (.cells #[.slice A n k] 135 (0, 0))) :
    Calls Try.prog 45 #[.pointer (some ⟨c, 0, none⟩)] w fun e w' => e = .returned (.func (.func 92) #[] #[.pointer (some ⟨w.heap.size, 0, none⟩)]) ∧ w' = w.alloc (.cells #[.slice A n k] 133) := by
  have c0 := blk1 hb
  have hl := blk_lt hb
  go_enter Try.func45, Try.ntmps45
  go_wp2_with fail
  refine (values72 w A n k).mono ?_
  rintro e w' ⟨rfl, rfl⟩
  go_wp2_with fail
  go_ret
  exact ⟨rfl, rfl⟩

set_option maxHeartbeats 1000000 in
theorem iter71 (n : Nat) (Kp : World → World → Prop) (w : World) :
    SeqStopsK Fence.wide n Try.prog 71 #[] encPt Kp (fun xs => xs = []) (fun _ => False) 0 w := fun l J Jx W hW hJ hJx hY h0 => by
  refine callsIn_of_wp Try.func71 rfl trivial ?_ rfl
  simp only [Try.ntmps71, List.size_toArray, List.length_cons, List.length_nil, Nat.reduceAdd, Nat.reduceSub, Array.replicate_succ, Array.replicate_zero, List.push_toArray, List.append_toArray, List.nil_append, List.cons_append]
  gi_wp2
  go_end0
  exact ⟨⟨_, rfl⟩, .inl ⟨[], rfl, h0⟩⟩

def PtIt (pts : List Pt) (v : Value) (J : List Pt → World → Prop) (q : Nat) (i : Value) (wr : World) : Prop :=
  ∃ k : Nat, k ≤ pts.length ∧ q = pts.length - k + 1 ∧ i = .int .i64 k ∧ J (pts.take k) wr ∧ SlAt 83 3 ptE wr v pts

set_option maxRecDepth 100000 in
set_option maxHeartbeats 2000000 in
theorem iter92 (m : Nat) (hm : 1 ≤ m) (bx : Nat) (pts : List Pt) (v : Value) (w : World) (hbx : w.heap[bx]? = some (.cells #[v] 133 (0, 0))) (hv : SlAt 83 3 ptE w v pts) (hlen : pts.length ≤ 1000) :
    SeqStopsK Fence.wide m Try.prog 92 #[.pointer (some ⟨bx, 0, none⟩)] encPt (KeepL (ownL v)) (fun xs => xs = pts) (fun pre => pre <+: pts) pts.length w := fun yl J Jx W hW hJ hJx hY hj0 => by
  refine callsIn_of_wp Try.func92 rfl trivial ?_ rfl
  simp only [Try.ntmps92, List.size_toArray, List.length_cons, List.length_nil, Nat.reduceAdd, Nat.reduceSub, Array.replicate_succ, Array.replicate_zero, List.push_toArray, List.append_toArray, List.nil_append, List.cons_append]
  have hC : Chg [] w W := Chg.of_below hW []
  have cb := blk1 (hC.at_ hbx (by simp))
  have hv1 := hv.chg hC (by simp)
  obtain ⟨A, cap, rfl, _, hA0⟩ := hv1.form
  clear hC hbx hv
  gi_wp2
  gi_loopg [7] (pts.length + 1) (fun q i wr => PtIt pts (.slice A pts.length cap) J q i wr)
  case atStart => exact ⟨0, Nat.zero_le _, rfl, rfl, hj0, hv1⟩
  case round =>
    clear hj0 hv1 cb
    obtain ⟨k, hk, hq, rfl, hJ2, hv2⟩ := hrel
    have Hq := Lib.hid hq
    clear hq
    by_cases hlt : k < pts.length
    · obtain ⟨g, rfl⟩ := hA0 (by omega)
      obtain ⟨x, hx⟩ : ∃ x, pts[k]? = some x := ⟨pts[k], by simp [hlt]⟩
      obtain ⟨e0, e1, e2⟩ := pts_at hv2 hx
      have k0 : (0 : Int) ≤ (k : Int) := Int.natCast_nonneg _
      have k1 : (k : Int) < (pts.length : Int) := by omega
      have hg := hv2.lt (g := g) rfl
      have hCA := Chg.alloc [] wr (.cells #[.int .i64 x.p, .int .i64 x.d, .int .i64 x.s] 83)
      have hJ3 := hJ _ _ _ none hJ2 (grown_of_chgT hCA) (fun r e => by cases e)
      have hv3 := hv2.chg hCA (by simp)
      obtain ⟨fn, tmps, assign, body, hy, hR⟩ := hY (pts.take k) x _ hJ3 (by rw [List.length_take]; omega)
      simp only [encPt, ptV] at hy
      have hT := take_snocL hx
      have HT := Lib.hid hT
      clear hT hx hJ2 hv2 hCA
      gi_wp2
      refine hR.mono ?_
      rintro e W3 (⟨rfl, hJ4, hk4⟩ | ⟨rfl, hJx4⟩)
      · have hv4 := hv3.keepL hk4 (fun g hg => by simp [ownL, hg])
        rw [HT.out] at hJ4
        clear e0 e1 e2 hg hJ3 hv3 hR hy hk4
        gi_wp2
        gi_roundg (pts.length - (k + 1) + 1)
        case measure => rw [Hq.out]; omega
        case rel => exact ⟨k + 1, by omega, rfl, by go_num, hJ4, hv4⟩
      · clear e0 e1 e2 hg hJ3 hv3 hR hy
        rw [HT.out] at hJx4
        gi_wp2
        refine bodyPost_ret (results_none rfl _ _ _) rfl ?_
        exact ⟨⟨_, rfl⟩, .inr ⟨_, List.take_prefix _ _, hJx4⟩⟩
    · have hkn : k = pts.length := by omega
      subst hkn
      rw [List.take_of_length_le (by simp)] at hJ2
      gi_wp2
      go_end0
      exact ⟨⟨_, rfl⟩, .inl ⟨_, rfl, hJ2⟩⟩

theorem ownFrom_sl {β α : Type} {e sz : Nat} {renc : α → List Value} {B : Nat} (v : β → Value) (l : β → List α) : OwnFrom B (fun s W => SlAt e sz renc W (v s) (l s)) := fun s W W' row hs hg hr =>
  hs.chg (S := row.toList) (Chg.of_grown hg (fun k hk => .inl (by simp [hk]))) (fun g hv hm => by
    obtain ⟨cur, hcur⟩ := hs.typed hv
    have he : row = some g := by simpa using hm
    obtain ⟨_, o, ho, hc⟩ := hr g he
    rw [hcur] at ho; cases ho; cases hc)
end Go.Proofs.Ytdcjfaplgpeonaa

/-
  The reference's curve: a point at a price.
-/
namespace Go.Proofs.Ytdcjfaplgpeonaa
open Go.RowKit Go.Dm
attribute [local go_sem] Oper.semAt_some

theorem results_rp {fn : Func} {q : Tmp} (h : fn.results = #[.cell q 81]) (tmps : Array Value) (w : World) (g : Nat) (p d s : Int)
    (hp : tmps.getD q undef = .pointer (some ⟨g, 0, none⟩)) (hb : w.heap[g]? = some (.cells #[.int .i64 p, .int .i64 d, .int .i64 s] 81 (0, 0))) :
    (results fn tmps).run Try.prog w = .ok (ptV p d s) w := by
  have hp' : tmps[q]?.getD undef = .pointer (some ⟨g, 0, none⟩) := by simpa using hp
  simp [results, h, hp', asAddr, run_loadVar_row w g 81 81 _ (0, 0) _ hb Try.underlying81 rfl (by kernel_rfl)]
  rfl
theorem demS_app (l : List Ord) (o : Ord) (p : Int) : demO (sdO (l ++ [o]) 0) p = demO (sdO l 0) p + if o 2 = 0 ∧ p ≤ o 3 then o 4 else 0 := by
  unfold demO sdO
  rw [List.filter_append, List.filter_append, sumO_app]
  by_cases h : o 2 = 0 <;> by_cases h2 : p ≤ o 3 <;> simp [h, h2, sumO]
theorem supS_app (l : List Ord) (o : Ord) (p : Int) : supO (sdO (l ++ [o]) 1) p = supO (sdO l 1) p + if o 2 = 1 ∧ o 3 ≤ p then o 4 else 0 := by
  unfold supO sdO
  rw [List.filter_append, List.filter_append, sumO_app]
  by_cases h : o 2 = 1 <;> by_cases h2 : o 3 ≤ p <;> simp [h, h2, sumO]
theorem sdO_sub {l : List Ord} {sd : Int} : ∀ o ∈ sdO l sd, o ∈ l := fun _o ho => (List.mem_filter.1 ho).1
theorem demS_le {l : List Ord} (h : QtyOk l) (hl : l.length ≤ 60) (sd p : Int) : 0 ≤ demO (sdO l sd) p ∧ demO (sdO l sd) p ≤ 257698037760 :=
  ((sumOk (h.sub sdO_sub) (Nat.le_trans (List.length_filter_le _ _) hl)) p).2.1
theorem supS_le {l : List Ord} (h : QtyOk l) (hl : l.length ≤ 60) (sd p : Int) : 0 ≤ supO (sdO l sd) p ∧ supO (sdO l sd) p ≤ 257698037760 :=
  ((sumOk (h.sub sdO_sub) (Nat.le_trans (List.length_filter_le _ _) hl)) p).2.2
theorem book_qty (l : List Ord) : QtyOk (bookL l) := fun o ho => by
  have h := bookL_ok l o ho
  simp only [okO, Bool.and_eq_true, decide_eq_true_eq] at h
  omega

def RAtRel (w : World) (l : List Ord) (p : Int) (m : Nat) (i : Value) (wr : World) : Prop :=
  ∃ k : Nat, k ≤ l.length ∧ m = l.length - k + 1 ∧ i = .int .i64 k ∧ wr.heap[w.heap.size + 1]? = some (.cells #[.int .i64 p, .int .i64 (demO (sdO (l.take k) 0) p), .int .i64 (supO (sdO (l.take k) 1) p)] 81 (0, 0)) ∧
    wr.heap[w.heap.size]? = some (.cells #[.int .i64 0, .int .i64 0, .int .i64 0] 81 (0, 0)) ∧ Chg [] w wr

set_option maxRecDepth 100000 in
set_option maxHeartbeats 4000000 in
theorem rat46 (w : World) (r : Nat) (l : List Ord) (h : BkR w r l) (p : Int) (hq : QtyOk l) (hlen : l.length ≤ 60) :
    Calls Try.prog 46 #[.pointer (some ⟨r, 0, none⟩), .int .i64 p] w fun e w' => e = .returned (ptV p (demO (sdO l 0) p) (supO (sdO l 1) p)) ∧ Chg [] w w' := by
  have hr := h.lt
  obtain ⟨v, hb, hs⟩ := h
  obtain ⟨A, c, rfl, _, hA⟩ := hs.form
  have hA1 := Chg.alloc [] w (.cells #[.int .i64 0, .int .i64 0, .int .i64 0] 81)
  have b4 := heap_alloc_new w (.cells #[.int .i64 0, .int .i64 0, .int .i64 0] 81)
  have hA2 := Chg.alloc [] (w.alloc (.cells #[.int .i64 0, .int .i64 0, .int .i64 0] 81)) (.cells #[.int .i64 p, .int .i64 0, .int .i64 0] 81)
  have b5 := heap_alloc_new (w.alloc (.cells #[.int .i64 0, .int .i64 0, .int .i64 0] 81)) (.cells #[.int .i64 p, .int .i64 0, .int .i64 0] 81)
  rw [World.size_alloc] at b5
  have b4 := hA2.at_ b4 (by simp)
  have hC0 := hA1.trans hA2
  go_enter Try.func46, Try.ntmps46
  go_wp2_with fail
  go_loopg [6] (l.length + 1) (fun m i wr => RAtRel w l p m i wr)
  case atStart => exact ⟨0, Nat.zero_le _, rfl, rfl, by simpa [demO, supO, sdO, sumO] using b5, b4, hC0⟩
  case round =>
    clear b4 b5 hC0 hA1 hA2
    obtain ⟨k, hk, hm, rfl, h5, h4, hC⟩ := hrel
    have Hm := Lib.hid hm
    clear hm
    have hbr := hC.at_ hb (by simp)
    obtain ⟨_, _, c2⟩ := blk3 hbr
    have hrr := blk_lt hbr
    obtain ⟨D, hD⟩ : ∃ D, demO (sdO (l.take k) 0) p = D := ⟨_, rfl⟩
    obtain ⟨S, hS⟩ : ∃ S, supO (sdO (l.take k) 1) p = S := ⟨_, rfl⟩
    rw [hD, hS] at h5
    by_cases hlt : k < l.length
    · obtain ⟨g, rfl⟩ := hA (by omega)
      obtain ⟨o, ho⟩ : ∃ o, l[k]? = some o := ⟨l[k], by simp [hlt]⟩
      obtain ⟨e0, e1, e2, e3, e4, e5, e6⟩ := ords_at (hs.chg hC (by simp)) ho
      have hg := (hs.chg hC (by simp)).lt (g := g) rfl
      have hT : l.take (k + 1) = l.take k ++ [o] := (take_snocL ho).symm
      have k0 : (0 : Int) ≤ (k : Int) := Int.natCast_nonneg _
      have k1 : (k : Int) < (l.length : Int) := by omega
      have hd1 := demS_app (l.take k) o p
      have hs1 := supS_app (l.take k) o p
      rw [← hT, hD] at hd1
      rw [← hT, hS] at hs1
      have hqk : QtyOk (l.take (k + 1)) := hq.sub (fun o ho => List.mem_of_mem_take ho)
      have hlk : (l.take (k + 1)).length ≤ 60 := by rw [List.length_take]; omega
      have bd := demS_le hqk hlk 0 p
      have bs := supS_le hqk hlk 1 p
      rw [hd1] at bd
      rw [hs1] at bs
      have HT := Lib.hid (And.intro hd1 hs1)
      have hA7 := Chg.alloc [] wr (.cells #[.int .i64 (o 0), .int .i64 (o 1), .int .i64 (o 2), .int .i64 (o 3), .int .i64 (o 4), .int .i64 (o 5), .int .i64 (o 6)] 52)
      have h7 := heap_alloc_new wr (.cells #[.int .i64 (o 0), .int .i64 (o 1), .int .i64 (o 2), .int .i64 (o 3), .int .i64 (o 4), .int .i64 (o 5), .int .i64 (o 6)] 52)
      have l5 := blk_lt h5
      have h5' := hA7.at_ h5 (by simp)
      have h4' := hA7.at_ h4 (by simp)
      have hC7 := hC.trans hA7
      obtain ⟨z0, z1, z2⟩ := blk3V h5
      have f5 := blkfreeU h5
      have hzz := hC.size
      clear hT hd1 hs1 hqk ho hA7
      by_cases hsd : o 2 = 0
      · have hn1 : ¬ o 2 = 1 := by omega
        have a0 : (o 2 == 0) = true := by simpa using hsd
        have a1 : (o 2 == 1) = false := by simpa using hn1
        by_cases hp : p ≤ o 3
        · simp only [hsd, hp, and_self, if_true] at bd bs HT
          have t1 : decide (o 3 ≥ p) = true := decide_eq_true hp
          have hw : IntKind.i64.wrap (D + o 4) = D + o 4 := wrapOk (by omega) (by omega)
          have h5b := blk_set h5 1 (.int .i64 (D + o 4))
          simp only [List.setIfInBounds_toArray, List.set_cons_zero, List.set_cons_succ] at h5b
          have hS5 := Chg.setCell (S := [w.heap.size + 1]) wr ⟨w.heap.size + 1, 1, none⟩ (.int .i64 (D + o 4)) (by simp)
          have hA8 := fun w8 : World => Chg.alloc [] w8 (.cells #[.int .i64 (o 0), .int .i64 (o 1), .int .i64 (o 2), .int .i64 (o 3), .int .i64 (o 4), .int .i64 (o 5), .int .i64 (o 6)] 52)
          have HF := Lib.hid (And.intro ((hA8 _).at_ h5b (by simp)) (And.intro ((hA8 _).at_ (hS5.at_ h4 (by simp)) (by simp)) ((hC.putNew (g := w.heap.size + 1) (j := 1) (u := .int .i64 (D + o 4)) (by omega)).trans (hA8 _))))
          clear h5 h4 h5b h4' hC7 hS5 hC h5' hbr hs hsd hp hA8
          go_wp2_with fail
          go_roundg (l.length - (k + 1) + 1)
          case measure => rw [Hm.out]; omega
          case rel => exact ⟨k + 1, by omega, rfl, by go_num, by rw [HT.out.1, HT.out.2]; simpa using HF.out.1, HF.out.2.1, HF.out.2.2⟩
        · simp only [hsd, hp, and_false, if_false] at HT
          have t1 : decide (o 3 ≥ p) = false := decide_eq_false hp
          have HF := Lib.hid (And.intro h5' (And.intro h4' hC7))
          clear h5 h4 h4' hC7 hC h5' hbr hs hsd hp
          go_wp2_with fail
          go_roundg (l.length - (k + 1) + 1)
          case measure => rw [Hm.out]; omega
          case rel => exact ⟨k + 1, by omega, rfl, by go_num, by rw [HT.out.1, HT.out.2]; simpa using HF.out.1, HF.out.2.1, HF.out.2.2⟩
      · have a0 : (o 2 == 0) = false := by simpa using hsd
        by_cases hs1 : o 2 = 1
        · have a1 : (o 2 == 1) = true := by simpa using hs1
          by_cases hp : o 3 ≤ p
          · simp only [hs1, hp, and_self, if_true] at bd bs HT
            have t1 : decide (o 3 ≤ p) = true := decide_eq_true hp
            have hw : IntKind.i64.wrap (S + o 4) = S + o 4 := wrapOk (by omega) (by omega)
            have h5b := blk_set h5 2 (.int .i64 (S + o 4))
            simp only [List.setIfInBounds_toArray, List.set_cons_zero, List.set_cons_succ] at h5b
            have hS5 := Chg.setCell (S := [w.heap.size + 1]) wr ⟨w.heap.size + 1, 2, none⟩ (.int .i64 (S + o 4)) (by simp)
            have hA8 := fun w8 : World => Chg.alloc [] w8 (.cells #[.int .i64 (o 0), .int .i64 (o 1), .int .i64 (o 2), .int .i64 (o 3), .int .i64 (o 4), .int .i64 (o 5), .int .i64 (o 6)] 52)
            have HF := Lib.hid (And.intro ((hA8 _).at_ h5b (by simp)) (And.intro ((hA8 _).at_ (hS5.at_ h4 (by simp)) (by simp)) ((hC.putNew (g := w.heap.size + 1) (j := 2) (u := .int .i64 (S + o 4)) (by omega)).trans (hA8 _))))
            clear h5 h4 h5b h4' hC7 hS5 hC h5' hbr hs hsd hp hA8 hs1
            go_wp2_with fail
            go_roundg (l.length - (k + 1) + 1)
            case measure => rw [Hm.out]; omega
            case rel => exact ⟨k + 1, by omega, rfl, by go_num, by rw [HT.out.1, HT.out.2]; simpa using HF.out.1, HF.out.2.1, HF.out.2.2⟩
          · simp only [hs1, hp, and_false, if_false] at HT
            have t1 : decide (o 3 ≤ p) = false := decide_eq_false hp
            have HF := Lib.hid (And.intro h5' (And.intro h4' hC7))
            clear h5 h4 h4' hC7 hC h5' hbr hs hsd hp hs1
            go_wp2_with fail
            go_roundg (l.length - (k + 1) + 1)
            case measure => rw [Hm.out]; omega
            case rel => exact ⟨k + 1, by omega, rfl, by go_num, by rw [HT.out.1, HT.out.2]; simpa using HF.out.1, HF.out.2.1, HF.out.2.2⟩
        · have a1 : (o 2 == 1) = false := by simpa using hs1
          simp only [hsd, hs1, if_false, false_and] at HT
          have HF := Lib.hid (And.intro h5' (And.intro h4' hC7))
          clear h5 h4 h4' hC7 hC h5' hbr hs hsd
          go_wp2_with fail
          go_roundg (l.length - (k + 1) + 1)
          case measure => rw [Hm.out]; omega
          case rel => exact ⟨k + 1, by omega, rfl, by go_num, by rw [HT.out.1, HT.out.2]; simpa using HF.out.1, HF.out.2.1, HF.out.2.2⟩
    · have hkn : k = l.length := by omega
      subst hkn
      rw [List.take_length] at hD hS
      have hC9 := (((hC.putNew (g := w.heap.size) (j := 0) (u := .int .i64 p) (by omega)).putNew (g := w.heap.size) (j := 1) (u := .int .i64 D) (by omega)).putNew (g := w.heap.size) (j := 2) (u := .int .i64 S) (by omega))
      obtain ⟨z0, z1, z2⟩ := blk3V h5
      obtain ⟨y0, y1, y2⟩ := blk3V h4
      have f4 := blkfreeU h4
      have h4b := blk_set (blk_set (blk_set h4 0 (.int .i64 p)) 1 (.int .i64 D)) 2 (.int .i64 S)
      simp only [List.setIfInBounds_toArray, List.set_cons_zero, List.set_cons_succ] at h4b
      have HF := Lib.hid (And.intro h4b (And.intro hC9 (And.intro hD hS)))
      clear h4b hC9 hD hS h4 h5 hC hbr hs
      go_wp2_with fail
      refine bodyPost_ret (results_rp rfl _ _ w.heap.size p D S rfl HF.out.1) rfl ?_
      exact ⟨by rw [HF.out.2.2.1, HF.out.2.2.2], HF.out.2.1⟩
end Go.Proofs.Ytdcjfaplgpeonaa
