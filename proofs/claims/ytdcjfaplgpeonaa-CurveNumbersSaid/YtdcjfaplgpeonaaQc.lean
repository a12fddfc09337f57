/-
  The library's slices.Sorted at int64s, laid at this program (written by the kit's own tool, the names moved).
-/
import Derived.Shelf.SlIterI.Nil
import Derived.Ground.GgzProg
import Derived.Test.YtdcjfaplgpeonaaRows
import Derived.Test.YtdcjfaplgpeonaaQb
import Derived.Test.YtdcjfaplgpeonaaQ3
import Derived.Test.YtdcjfaplgpeonaaQ1
namespace Go.Proofs.Ytdcjfaplgpeonaa
open Go.Shelf
def sortedL_ren : Go.Shelf.Ren := ⟨fun | 6 => 69 | 8 => 90 | 9 => 76 | 11 => 107 | 13 => 94 | 12 => 93 | 23 => 117 | 24 => 118 | 14 => 108 | 15 => 109 | 16 => 110 | 17 => 111 | 18 => 112 | 19 => 113 | 20 => 114 | 21 => 115 | 22 => 116 | 25 => 125 | 26 => 126 | 27 => 127 | 28 => 128 | 29 => 129 | 30 => 130 | 31 => 132 | n => n, fun | 26 => 2 | 28 => 138 | 24 => 91 | 0 => 0 | 3 => 3 | 37 => 172 | 48 => 210 | 50 => 176 | 4 => 4 | 40 => 203 | 39 => 202 | 45 => 40 | 5 => 5 | 9 => 9 | 51 => 217 | 55 => 221 | 57 => 223 | 58 => 224 | 33 => 171 | n => n, fun | n => n⟩
theorem sortedL : Go.Proofs.SlLaysZI.n6 Try.prog sortedL_ren := {
  mixed := by kernel_rfl
  f6 := ⟨Try.f69.name, by decide, Try.func69.trans (congrArg some (by kernel_rfl))⟩
  f8 := ⟨Try.f90.name, by decide, Try.func90.trans (congrArg some (by kernel_rfl))⟩
  f11 := ⟨Try.f107.name, by decide, Try.func107.trans (congrArg some (by kernel_rfl))⟩
  t0 := Try.underlying0
  a0 := Try.isAgg0
  z0 := Try.sizeOf0
  v0 := Try.zeroValue0
  t24 := Try.underlying91
  a24 := Try.isAgg91
  z24 := Try.sizeOf91
  v24 := Try.zeroValue91
  t26 := Try.underlying2
  a26 := Try.isAgg2
  z26 := Try.sizeOf2
  v26 := Try.zeroValue2
  t28 := Try.underlying138
  a28 := Try.isAgg138
  z28 := Try.sizeOf138
  v28 := Try.zeroValue138
  i26 := by kernel_rfl }
end Go.Proofs.Ytdcjfaplgpeonaa

/-
  The sorted keys of a map from int64s.
-/
namespace Go.Proofs.Ytdcjfaplgpeonaa
open Go.RowKit Go.Dm Go.Shelf Go.Sort
attribute [local go_sem] Oper.semAt_some

abbrev NL := List (Int × (Int × Int))
def qenc (p : Int) : Value := .int .i64 p
def nenc (n : Int × Int) : Value := .agg #[.int .i64 n.1, .int .i64 n.2]
theorem MQ : MKey Try.prog 2 qenc := mkey_int Try.underlying2

theorem keepsWalks_chg {S : List Nat} {W W' : World} (hC : Chg S W W') (hS : ∀ k ∈ S, ∀ o, W.heap[k]? = some o → o.isWalk = false) : KeepsWalks W W' :=
  ⟨hC.size, fun k o hk ho => hC.at_ hk (fun hm => by rw [hS k hm o hk] at ho; cases ho)⟩
theorem _root_.Go.Dm.IterAt.walks {κ ν : Type} {enc : κ → Value} {venc : ν → Value} {w w' : World} {it m : Nat} {l todo : List (κ × ν)} (h : IterAt enc venc w it m l todo) (hK : KeepsWalks w w') : IterAt enc venc w' it m l todo := by
  obtain ⟨es, c, seen, h1, h2, h3, h4, h5⟩ := h
  exact ⟨es, c, seen, hK.same _ _ h1 rfl, h2, h3, hK.same _ _ h4 rfl, h5⟩
theorem _root_.Go.Dm.IterAt.row {κ ν : Type} {enc : κ → Value} {venc : ν → Value} {w : World} {it m : Nat} {l todo : List (κ × ν)} (h : IterAt enc venc w it m l todo) : ∃ o : Obj, w.heap[it]? = some o ∧ o.isWalk = true := by
  obtain ⟨es, c, seen, h1, h2, h3, h4, h5⟩ := h
  exact ⟨_, h4, rfl⟩

theorem keys70 (w : World) (mb : Option Nat) :
    Calls Try.prog 70 #[.map mb] w fun e w' => e = .returned (.func (.func 91) #[] #[.pointer (some ⟨w.heap.size, 0, none⟩)]) ∧ w' = w.alloc (.cells #[.map mb] 128) := by
  go_enter Try.func70, Try.ntmps70
  go_wp2
  go_ret
  exact ⟨rfl, rfl⟩

def KRel (W : World) (m : Nat) (l : NL) (J : List Int → World → Prop) (q : Nat) (wr : World) : Prop :=
  ∃ todo ss, IterAt qenc nenc wr W.heap.size m l todo ∧ (ss ++ keysL todo).Perm (keysL l) ∧ J ss wr ∧ q = todo.length + 1

set_option maxRecDepth 100000 in
set_option maxHeartbeats 2000000 in
theorem keys91 (n : Nat) (hn : 1 ≤ n) (bx m : Nat) (l : NL) (w : World) (hbx : w.heap[bx]? = some (.cells #[.map (some m)] 128 (0, 0))) (hm : MapAt qenc nenc w m l) :
    SeqGives Fence.wide n Try.prog 91 #[.pointer (some ⟨bx, 0, none⟩)] encZ (fun ss => ss.Perm (keysL l)) l.length w := fun yl J W hW hJ hY hj0 => by
  refine callsIn_of_wp Try.func91 rfl trivial ?_ rfl
  simp only [Try.ntmps91, List.size_toArray, List.length_cons, List.length_nil, Nat.reduceAdd, Nat.reduceSub, Array.replicate_succ, Array.replicate_zero, List.push_toArray, List.append_toArray, List.nil_append, List.cons_append]
  have hC : Chg [] w W := Chg.of_below hW []
  have cb := blk1 (hC.at_ hbx (by simp))
  have hm1 := hm.chg hC (by simp)
  obtain ⟨ob, hrg, hI⟩ := IterAt.start hm1 Try.underlying128
  have hCa : Chg [] W (W.alloc ob) := Chg.alloc _ _ _
  have hJ1 := hJ _ _ _ none hj0 (grown_of_chgT hCa) (fun r e => by cases e)
  gi_wp2
  clear hrg
  gi_loopg [3] (l.length + 1) (fun q u wr => KRel W m l J q wr)
  case atStart => exact ⟨l, [], hI, by simp, hJ1, rfl⟩
  case round =>
    clear hI hCa cb hJ1 hm1 hbx hm hC hj0
    obtain ⟨todo, ss, hI', hP, hJ2, hq⟩ := hrel
    have Hq := Lib.hid (And.intro hq hP)
    clear hq hP
    rcases hI'.next (P := Try.prog) 0 with ⟨rfl, hnx⟩ | ⟨pre, k, v, post, W2, he, hnx, hI2, hCn, hsz, hen⟩
    · gi_wp2
      go_end0
      have hP2 := Hq.out.2
      simp only [keysL, List.map_nil, List.append_nil] at hP2
      exact ⟨⟨_, rfl⟩, ss, hP2, hJ2⟩
    · simp only [qenc, nenc] at hnx hen
      have hJ3 := hJ ss _ _ (some W.heap.size) hJ2 ⟨hCn.os, hCn.tape, hCn.output, hCn.size, fun k hk hne => hCn.block k hk (by simpa using fun e => hne (by rw [e]))⟩ (fun r e => by cases e; exact ⟨Nat.le_refl _, hI'.row⟩)
      have hlen : ss.length < l.length := by
        have := Hq.out.2.length_eq
        simp [he, keysL] at this
        omega
      obtain ⟨fn, tmps, assign, body, hy, hR⟩ := hY ss k W2 hJ3 hlen
      simp only [encZ] at hy
      have B := Lib.hid (And.intro he hlen)
      clear he hlen hI' hCn hJ2 hJ3 hsz
      gi_wp2
      refine hR.mono ?_
      rintro e W3 ⟨rfl, hJ4, hk4⟩
      have hI3 := hI2.walks hk4
      clear hR hy hI2 hk4 hen hnx
      gi_wp2
      gi_roundg ((pre ++ post).length + 1)
      case measure => rw [Hq.out.1, B.out.1]; simp
      case rel =>
        refine ⟨pre ++ post, ss ++ [k], hI3, ?_, hJ4, rfl⟩
        have h1 := Hq.out.2
        rw [B.out.1] at h1
        refine List.Perm.trans ?_ h1
        simp only [keysL, List.map_append, List.map_cons, List.append_assoc, List.singleton_append]
        exact (List.perm_middle.symm).append_left ss

theorem sorts_in (m : Nat) : Go.Proofs.AnyZI.SortsIn Try.prog sortedL_ren Fence.wide m :=
  ⟨fun blk off cap ss W hH hblk hsz => callsIn_wide.2 (AnyM.slices_Sort_int sortL blk off cap ss W hH hblk hsz),
   fun p cap W => callsIn_wide.2 (AnyM.slices_Sort_int_none sortL p cap W)⟩

theorem sorted69 (w : World) (bx m : Nat) (l : NL) (hbx : w.heap[bx]? = some (.cells #[.map (some m)] 128 (0, 0))) (hm : MapAt qenc nenc w m l) (hlen : l.length ≤ 1000) :
    Calls Try.prog 69 #[.func (.func 91) #[] #[.pointer (some ⟨bx, 0, none⟩)]] w fun e w' => ∃ (v : Value) (out : List Int), e = .returned v ∧ SlAt 2 1 idE w' v (srt out) ∧ out.Perm (keysL l) ∧ Chg [] w w' ∧ Fresh w.heap.size v := by
  refine (callsIn_wide (n := 6)).1 ?_
  have cS := Go.Proofs.AnyZI.sorted_in sortedL Fence.wide 6 trivial trivial trivial trivial rfl (by omega) (sorts_in _) (enters_of Try.func76 (by kernel_rfl) rfl) 91 #[.pointer (some ⟨bx, 0, none⟩)] trivial (enters_of Try.func91 (by kernel_rfl) rfl) _ l.length (by unfold maxLen; omega) (by omega) w (keys91 3 (by omega) bx m l w hbx hm)
  change CallsIn _ _ Try.prog 69 _ _ _ at cS
  refine cS.mono ?_
  rintro e w' ⟨v, ss, rfl, hS, hrow, hnil, hb⟩
  refine ⟨v, ss, rfl, ?_, hS, Chg.of_below hb [], ?_⟩
  · unfold SlAt
    rw [srt_len, flat_ids]
    exact ownsRow_base_a hrow (by simp)
  · intro g hg
    rcases hrow.2 with ⟨rfl, _⟩ | ⟨g', cap, cur, rfl, hb0, _⟩
    · simp [Value.ownBlock] at hg
    · simp [Value.ownBlock] at hg; omega
end Go.Proofs.Ytdcjfaplgpeonaa

/-
  What each price has of some orders: plain laws.
-/
namespace Go.Proofs.Ytdcjfaplgpeonaa
open Go.RowKit Go.Dm

def sumO (l : List Ord) : Int := (l.map (fun o => o 4)).sum
def atP (l : List Ord) (p : Int) : List Ord := l.filter (fun o => decide (o 3 = p))
def sumP (l : List Ord) (p : Int) : Int := sumO (atP l p)
def hasP (l : List Ord) (p : Int) : Bool := l.any (fun o => decide (o 3 = p))
def semA (l0 l1 : List Ord) (p : Int) : Option (Int × Int) := if hasP l0 p || hasP l1 p then some (sumP l0 p, sumP l1 p) else none

theorem sumO_app (a b : List Ord) : sumO (a ++ b) = sumO a + sumO b := by simp [sumO]
theorem sumP_none {l : List Ord} {p : Int} (h : hasP l p = false) : sumP l p = 0 := by
  have : atP l p = [] := by
    unfold atP
    rw [List.filter_eq_nil_iff]
    intro o ho hd
    have : hasP l p = true := by unfold hasP; rw [List.any_eq_true]; exact ⟨o, ho, hd⟩
    rw [h] at this; cases this
  unfold sumP; rw [this]; rfl
theorem sumP_app (l : List Ord) (o : Ord) (p : Int) : sumP (l ++ [o]) p = sumP l p + if o 3 = p then o 4 else 0 := by
  unfold sumP atP
  rw [List.filter_append, sumO_app]
  by_cases h : o 3 = p <;> simp [h, sumO]
theorem hasP_app (l : List Ord) (o : Ord) (p : Int) : hasP (l ++ [o]) p = (hasP l p || decide (o 3 = p)) := by simp [hasP]
theorem semA_found (l0 l1 : List Ord) (p : Int) : found nenc (nenc (0, 0)) (semA l0 l1 p) = nenc (sumP l0 p, sumP l1 p) := by
  unfold semA
  cases h0 : hasP l0 p <;> cases h1 : hasP l1 p <;> simp [found, sumP_none, h0, h1]
theorem semA_put0 {il : NL} {l0 l1 : List Ord} (h : ∀ q, mLook il q = semA l0 l1 q) (o : Ord) : ∀ q, mLook (putL il (o 3) (sumP l0 (o 3) + o 4, sumP l1 (o 3))) q = semA (l0 ++ [o]) l1 q := fun q => by
  rw [mLook_put, h]
  unfold semA
  rw [hasP_app, sumP_app]
  by_cases e : o 3 = q
  · subst e; simp
  · simp [e]
theorem semA_put1 {il : NL} {l0 l1 : List Ord} (h : ∀ q, mLook il q = semA l0 l1 q) (o : Ord) : ∀ q, mLook (putL il (o 3) (sumP l0 (o 3), sumP l1 (o 3) + o 4)) q = semA l0 (l1 ++ [o]) q := fun q => by
  rw [mLook_put, h]
  unfold semA
  rw [hasP_app, sumP_app]
  by_cases e : o 3 = q
  · subst e; simp
  · simp [e]

def ordsS {L : List Ord} (pre : List (SlotL L)) : List Ord := pre.map (fun i => L.getD i.1 (fun _ => 0))
theorem ordsS_app {L : List Ord} (a : List (SlotL L)) (x : SlotL L) : ordsS (a ++ [x]) = ordsS a ++ [L.getD x.1 (fun _ => 0)] := by simp [ordsS]
/-- The orders of a side. -/
def sideO (L : List Ord) (s : List Nat) : List Ord := ordsS (toS L s)
def stA (L : List Ord) (X : Nat → List Nat) (k : Nat) (pre : List (SlotL L)) : Int → Option (Int × Int) := if k = 0 then semA (ordsS pre) [] else semA (sideO L (X 0)) (ordsS pre)
def endA (L : List Ord) (X : Nat → List Nat) (k : Nat) : Int → Option (Int × Int) := semA (if k = 0 then [] else sideO L (X 0)) (if k ≤ 1 then [] else sideO L (X 1))
theorem stA_start {L : List Ord} {X : Nat → List Nat} {k : Nat} (hk : k < 2) : stA L X k [] = endA L X k := by
  have : k = 0 ∨ k = 1 := by omega
  rcases this with rfl | rfl <;> simp [stA, endA, ordsS]
theorem stA_end {L : List Ord} {X : Nat → List Nat} {k : Nat} (hk : k < 2) : stA L X k (toS L (X k)) = endA L X (k + 1) := by
  have : k = 0 ∨ k = 1 := by omega
  rcases this with rfl | rfl <;> simp [stA, endA, sideO]

/-- The quantities are small. -/
def QtyOk (l : List Ord) : Prop := ∀ o ∈ l, 0 ≤ o 4 ∧ o 4 ≤ 4294967296
theorem QtyOk.sub {l l' : List Ord} (h : QtyOk l) (hs : ∀ o ∈ l', o ∈ l) : QtyOk l' := fun o ho => h o (hs o ho)
theorem sumO_le : ∀ {l : List Ord}, QtyOk l → 0 ≤ sumO l ∧ sumO l ≤ l.length * 4294967296
  | [], _ => by simp [sumO]
  | o :: l, h => by
    have h1 := sumO_le (l := l) (fun x hx => h x (List.mem_cons_of_mem _ hx))
    have h2 := h o (by simp)
    simp only [sumO, List.map_cons, List.sum_cons, List.length_cons] at *
    omega
theorem sumP_le {l : List Ord} (h : QtyOk l) (p : Int) : 0 ≤ sumP l p ∧ sumP l p ≤ l.length * 4294967296 := by
  have h1 := sumO_le (l := atP l p) (h.sub (fun o ho => (List.mem_filter.1 ho).1))
  have h2 : (atP l p).length ≤ l.length := List.length_filter_le _ _
  unfold sumP
  omega
theorem ordsS_pre {L : List Ord} {a b : List (SlotL L)} (h : a <+: b) : ∀ o ∈ ordsS a, o ∈ ordsS b := by
  obtain ⟨t, rfl⟩ := h
  intro o ho
  simp only [ordsS, List.map_append, List.mem_append] at *
  exact .inl ho
theorem ordsS_mem {L : List Ord} (pre : List (SlotL L)) : ∀ o ∈ ordsS pre, o ∈ L := by
  intro o ho
  obtain ⟨i, _, rfl⟩ := List.mem_map.1 ho
  have := i.2
  simp [List.getD, i.2]
end Go.Proofs.Ytdcjfaplgpeonaa

/-
  A curve's points in memory.
-/
namespace Go.Dm
open Go Go.RowKit
section
variable {α : Type} {e sz : Nat} {renc : α → List Value} {w : World}
/-- One cell of one record. -/
theorem SlAt.setOne {g n c : Nat} {l : List α} (h : SlAt e sz renc w (.slice (some ⟨g, 0, none⟩) n c) l) (R : REnc sz renc) {i j : Nat} {x y : α} {u : Value} (hx : l[i]? = some x) (hj : j < sz) (hy : renc y = (renc x).set j u) :
    SlAt e sz renc (w.setCell ⟨g, i * sz + j, none⟩ u) (.slice (some ⟨g, 0, none⟩) n c) (l.set i y) := by
  obtain ⟨cur, hg, hn, hc, hm, hs, ht⟩ := h.row
  have hi : i < l.length := (List.getElem?_eq_some_iff.1 hx).1
  refine SlAt.mk R (blk_set hg _ _) (by simpa using hn) (by simpa using hc) hm (by simpa using hs) ?_
  apply List.ext_getElem?
  intro k
  have hF := flat_len R (l.set i y)
  rw [List.length_set] at hF
  have hsz : 0 < sz := by omega
  by_cases hk : k < l.length * sz
  · rw [List.getElem?_take, List.length_set, if_pos hk]
    have hkm : (k / sz) * sz + k % sz = k := Nat.div_add_mod' k sz
    have hk4 : k % sz < sz := Nat.mod_lt _ hsz
    have hkd : k / sz < l.length := (Nat.div_lt_iff_lt_mul hsz).2 hk
    have hcur : cur.toList[k]? = (l.flatMap renc)[k]? := by rw [← ht, List.getElem?_take, if_pos hk]
    have hks : k < cur.size := by rw [hs]; exact Nat.lt_of_lt_of_le hk (Nat.mul_le_mul_right _ hc)
    simp only [Array.toList_setIfInBounds]
    rw [List.getElem?_set]
    by_cases he : k / sz = i
    · have hset : (l.set i y)[k / sz]? = some y := by rw [he]; simp [hi]
      have h1 := flat_get R (l.set i y) (k / sz) (k % sz) y hset hk4
      have h2 := flat_get R l (k / sz) (k % sz) x (by rw [he]; exact hx) hk4
      rw [hkm] at h1 h2
      rw [h1, hy, List.getElem?_set]
      have hlen : (renc x).length = sz := R.len x
      by_cases hjk : j = k % sz
      · have h5 : i * sz + j = k := by rw [← he, hjk]; exact hkm
        rw [if_pos h5, if_pos hjk, if_pos (by simpa [h5] using hks), if_pos (by omega)]
      · have h5 : i * sz + j ≠ k := fun h5 => hjk (by
          have : (i * sz + j) % sz = j := by rw [Nat.mul_comm, Nat.mul_add_mod]; exact Nat.mod_eq_of_lt hj
          rw [← h5, this])
        rw [if_neg h5, if_neg hjk, hcur, h2]
    · obtain ⟨z, hz⟩ : ∃ z, l[k / sz]? = some z := ⟨l[k / sz], by simp [hkd]⟩
      have h1 := flat_get R (l.set i y) (k / sz) (k % sz) z (by rw [List.getElem?_set_ne (fun h => he h.symm)]; exact hz) hk4
      have h2 := flat_get R l (k / sz) (k % sz) z hz hk4
      rw [hkm] at h1 h2
      have h5 : i * sz + j ≠ k := fun h5 => he (by
        have : (i * sz + j) / sz = i := by rw [Nat.mul_comm, Nat.mul_add_div hsz, Nat.div_eq_of_lt hj, Nat.add_zero]
        rw [← h5, this])
      rw [h1, ← h2, ← hcur, if_neg h5]
  · rw [List.getElem?_eq_none (by simp; omega), List.getElem?_eq_none (by rw [hF]; omega)]
end
end Go.Dm
namespace Go.Proofs.Ytdcjfaplgpeonaa
open Go.RowKit Go.Dm

/-- A point. -/
structure Pt where
  p : Int
  d : Int
  s : Int
def ptE (x : Pt) : List Value := [.int .i64 x.p, .int .i64 x.d, .int .i64 x.s]
theorem ptR : REnc 3 ptE := ⟨fun _ => rfl, fun a u hu => by simp [ptE] at hu; rcases hu with rfl | rfl | rfl <;> rfl⟩
theorem elem133 : ElemIs Try.prog 133 83 3 24 := ⟨Try.underlying133, by
  obtain ⟨i, hi, hz, h1, h2⟩ := info_parts (show (Try.prog.info? 83).map (fun i => (i.zero, i.size, i.bytes)) = some (some (.agg #[.int .i64 0, .int .i64 0, .int .i64 0]), 3, 24) by kernel_rfl)
  exact ⟨i, _, hi, hz, h1, h2, rfl⟩, by decide⟩
theorem pts_at {w : World} {g n c : Nat} {l : List Pt} (h : SlAt 83 3 ptE w (.slice (some ⟨g, 0, none⟩) n c) l) {k : Nat} {x : Pt} (hp : l[k]? = some x) :
    w.cell? ⟨g, k * 3, none⟩ = some (.int .i64 x.p) ∧ w.cell? ⟨g, k * 3 + 1, none⟩ = some (.int .i64 x.d) ∧ w.cell? ⟨g, k * 3 + 2, none⟩ = some (.int .i64 x.s) :=
  ⟨h.at_ ptR hp (j := 0) (by omega), h.at_ ptR hp (j := 1) (by omega), h.at_ ptR hp (j := 2) (by omega)⟩
/-- A curve: block c holds a slice of its own with these points. -/
def CvAt (w : World) (B c : Nat) (l : List Pt) : Prop := ∃ v, w.heap[c]? = some (.cells #[v] 135 (0, 0)) ∧ SlAt 83 3 ptE w v l ∧ Fresh B v ∧ B ≤ c
theorem CvAt.chg {w w' : World} {B c : Nat} {l : List Pt} {S : List Nat} (h : CvAt w B c l) (hC : Chg S w w') (hS : ∀ k ∈ S, k < B) : CvAt w' B c l := by
  obtain ⟨v, h1, h2, h3, h4⟩ := h
  exact ⟨v, hC.at_ h1 (fun hm => by have := hS c hm; omega), h2.chg hC (h3.not_in hS), h3, h4⟩
/-- What stands in memory while a curve is made: nothing of it turns by what is done to the curve's own two blocks. -/
structure CSt (w : World) (il : NL) (v : Value) (ss : List Int) (Ds : List Nat) (W : World) : Prop where
  map : MapAt qenc nenc W w.heap.size il
  box : W.heap[w.heap.size + 1]? = some (.cells #[.map (some w.heap.size)] 128 (0, 0))
  ids : SlAt 2 1 idE W v ss
  dfs : Ds.Nodup ∧ ∀ D ∈ Ds, W.heap[D]? = some (.deferred (some []))
theorem CSt.chg {w W W' : World} {il : NL} {v : Value} {ss : List Int} {Ds : List Nat} {T : List Nat} (h : CSt w il v ss Ds W) (hC : Chg T W W') (hT : ∀ k ∈ T, ∃ cs t, W.heap[k]? = some (.cells cs t (0, 0)) ∧ (t = 135 ∨ t = 83)) : CSt w il v ss Ds W' := by
  have nm : w.heap.size ∉ T := fun hm => by
    obtain ⟨cs, t, h1, _⟩ := hT _ hm
    obtain ⟨_, _, h2, _⟩ := h.map
    rw [h1] at h2; cases h2
  have nb : w.heap.size + 1 ∉ T := fun hm => by
    obtain ⟨cs, t, h1, h2⟩ := hT _ hm
    rw [h.box] at h1
    simp only [Option.some.injEq, Obj.cells.injEq] at h1
    obtain ⟨_, rfl, _⟩ := h1
    rcases h2 with h2 | h2 <;> cases h2
  refine ⟨h.map.chg hC nm, hC.at_ h.box nb, h.ids.chg hC (fun g hg hm => ?_), h.dfs.1, fun D hD => hC.at_ (h.dfs.2 D hD) (fun hm => ?_)⟩
  · obtain ⟨cs, t, h1, h2⟩ := hT _ hm
    obtain ⟨cur, h3⟩ := h.ids.typed hg
    rw [h1] at h3
    simp only [Option.some.injEq, Obj.cells.injEq] at h3
    obtain ⟨_, rfl, _⟩ := h3
    rcases h2 with h2 | h2 <;> cases h2
  · obtain ⟨cs, t, h1, h2⟩ := hT _ hm
    rw [h.dfs.2 D hD] at h1; cases h1

def demO (l : List Ord) (p : Int) : Int := sumO (l.filter (fun o => decide (p ≤ o 3)))
def supO (l : List Ord) (p : Int) : Int := sumO (l.filter (fun o => decide (o 3 ≤ p)))
def ptOf (l0 l1 : List Ord) (q : Int) : Pt := ⟨q, sumP l0 q, sumP l1 q⟩
/-- The first k supplies have been summed up. -/
def ptsS (ss : List Int) (l0 l1 : List Ord) (k : Nat) : List Pt := ss.mapIdx (fun i q => ⟨q, sumP l0 q, if i < k then supO l1 q else sumP l1 q⟩)
/-- The demands from k - 1 on have been summed up, too. -/
def ptsD (ss : List Int) (l0 l1 : List Ord) (k : Nat) : List Pt := ss.mapIdx (fun i q => ⟨q, if k ≤ i + 1 then demO l0 q else sumP l0 q, supO l1 q⟩)
theorem ptsS_len (ss : List Int) (l0 l1 : List Ord) (k : Nat) : (ptsS ss l0 l1 k).length = ss.length := by simp [ptsS]
theorem ptsD_len (ss : List Int) (l0 l1 : List Ord) (k : Nat) : (ptsD ss l0 l1 k).length = ss.length := by simp [ptsD]
theorem ptsS_zero (ss : List Int) (l0 l1 : List Ord) : ptsS ss l0 l1 0 = ss.map (ptOf l0 l1) := by
  refine List.ext_getElem? fun i => ?_
  simp only [ptsS, List.getElem?_mapIdx, List.getElem?_map, Nat.not_lt_zero, if_false]
  rfl
/-- Of a rising list of prices: all that some orders have. -/
structure Prices (ss : List Int) (l0 l1 : List Ord) : Prop where
  rise : ss.Pairwise (· < ·)
  all : ∀ q, q ∈ ss ↔ (hasP l0 q || hasP l1 q) = true
theorem sumO_split (l : List Ord) (f g h : Ord → Bool) (hx : ∀ o ∈ l, f o = (g o || h o)) (hd : ∀ o ∈ l, ¬ (g o = true ∧ h o = true)) : sumO (l.filter f) = sumO (l.filter g) + sumO (l.filter h) := by
  induction l with
  | nil => simp [sumO]
  | cons o l ih =>
    have h1 := ih (fun x hx' => hx x (List.mem_cons_of_mem _ hx')) (fun x hx' => hd x (List.mem_cons_of_mem _ hx'))
    have h2 := hx o (by simp)
    have h3 := hd o (by simp)
    simp only [List.filter_cons, h2]
    cases hg : g o <;> cases hh : h o
    · simpa using h1
    · simp only [Bool.or_true, if_true, Bool.false_eq_true, if_false, sumO, List.map_cons, List.sum_cons] at *; omega
    · simp only [Bool.true_or, if_true, Bool.false_eq_true, if_false, sumO, List.map_cons, List.sum_cons] at *; omega
    · exact absurd ⟨hg, hh⟩ h3
theorem hasP_mem {l : List Ord} {o : Ord} (h : o ∈ l) : hasP l (o 3) = true := by unfold hasP; rw [List.any_eq_true]; exact ⟨o, h, by simp⟩
theorem Prices.idx {ss : List Int} {l0 l1 : List Ord} (_h : Prices ss l0 l1) {q : Int} (hq : q ∈ ss) : ∃ i : Nat, ss[i]? = some q := List.mem_iff_getElem?.1 hq
theorem rise_le {ss : List Int} (h : ss.Pairwise (· < ·)) {i j : Nat} {a b : Int} (ha : ss[i]? = some a) (hb : ss[j]? = some b) (hij : i < j) : a < b := by
  obtain ⟨hi, rfl⟩ := List.getElem?_eq_some_iff.1 ha
  obtain ⟨hj, rfl⟩ := List.getElem?_eq_some_iff.1 hb
  exact List.pairwise_iff_getElem.1 h i j hi hj hij
/-- Each step of the sums. -/
theorem sup_first {ss : List Int} {l0 l1 : List Ord} (h : Prices ss l0 l1) {x : Int} (hx : ss[0]? = some x) : supO l1 x = sumP l1 x := by
  unfold supO sumP atP
  congr 1
  refine List.filter_congr fun o ho => ?_
  have : o 3 ∈ ss := (h.all _).2 (by rw [hasP_mem ho, Bool.or_true])
  obtain ⟨i, hi⟩ := h.idx this
  have hle : x ≤ o 3 := by
    rcases Nat.eq_zero_or_pos i with rfl | hp
    · rw [hi] at hx; cases hx; exact Int.le_refl _
    · exact Int.le_of_lt (rise_le h.rise hx hi hp)
  simp only [decide_eq_decide]
  omega
theorem sup_next {ss : List Int} {l0 l1 : List Ord} (h : Prices ss l0 l1) {k : Nat} {x y : Int} (hx : ss[k]? = some x) (hy : ss[k + 1]? = some y) : supO l1 y = sumP l1 y + supO l1 x := by
  unfold supO sumP atP
  refine sumO_split _ _ _ _ (fun o ho => ?_) (fun o ho => ?_)
  · have : o 3 ∈ ss := (h.all _).2 (by rw [hasP_mem ho, Bool.or_true])
    obtain ⟨i, hi⟩ := h.idx this
    have hxy := rise_le h.rise hx hy (Nat.lt_succ_self k)
    have h3 : o 3 < y → o 3 ≤ x := fun hlt => by
      by_cases hik : i ≤ k
      · rcases Nat.lt_or_eq_of_le hik with hik | rfl
        · exact Int.le_of_lt (rise_le h.rise hi hx hik)
        · rw [hi] at hx; cases hx; exact Int.le_refl _
      · rcases Nat.lt_or_eq_of_le (show k + 1 ≤ i by omega) with h4 | rfl
        · have := rise_le h.rise hy hi h4; omega
        · rw [hi] at hy; cases hy; omega
    rw [Bool.eq_iff_iff]
    simp only [decide_eq_true_eq, Bool.or_eq_true]
    constructor
    · intro hle
      rcases Int.lt_or_eq_of_le hle with h5 | h5
      · exact .inr (h3 h5)
      · exact .inl h5
    · rintro (h5 | h5) <;> omega
  · have hxy := rise_le h.rise hx hy (Nat.lt_succ_self k)
    simp only [decide_eq_true_eq]
    omega
theorem dem_last {ss : List Int} {l0 l1 : List Ord} (h : Prices ss l0 l1) {k : Nat} {x : Int} (hx : ss[k]? = some x) (hk : k + 1 = ss.length) : demO l0 x = sumP l0 x := by
  unfold demO sumP atP
  congr 1
  refine List.filter_congr fun o ho => ?_
  have : o 3 ∈ ss := (h.all _).2 (by rw [hasP_mem ho, Bool.true_or])
  obtain ⟨i, hi⟩ := h.idx this
  have hil := (List.getElem?_eq_some_iff.1 hi).1
  have hle : o 3 ≤ x := by
    rcases Nat.lt_or_eq_of_le (show i ≤ k by omega) with hp | rfl
    · exact Int.le_of_lt (rise_le h.rise hi hx hp)
    · rw [hi] at hx; cases hx; exact Int.le_refl _
  simp only [decide_eq_decide]
  omega
theorem dem_next {ss : List Int} {l0 l1 : List Ord} (h : Prices ss l0 l1) {k : Nat} {x y : Int} (hx : ss[k]? = some x) (hy : ss[k + 1]? = some y) : demO l0 x = sumP l0 x + demO l0 y := by
  unfold demO sumP atP
  refine sumO_split _ _ _ _ (fun o ho => ?_) (fun o ho => ?_)
  · have : o 3 ∈ ss := (h.all _).2 (by rw [hasP_mem ho, Bool.true_or])
    obtain ⟨i, hi⟩ := h.idx this
    have hxy := rise_le h.rise hx hy (Nat.lt_succ_self k)
    have h3 : x < o 3 → y ≤ o 3 := fun hlt => by
      by_cases hik : k + 1 ≤ i
      · rcases Nat.lt_or_eq_of_le hik with hik | rfl
        · exact Int.le_of_lt (rise_le h.rise hy hi hik)
        · rw [hi] at hy; cases hy; exact Int.le_refl _
      · rcases Nat.lt_or_eq_of_le (show i ≤ k by omega) with h4 | rfl
        · have := rise_le h.rise hi hx h4; omega
        · rw [hi] at hx; cases hx; omega
    rw [Bool.eq_iff_iff]
    simp only [decide_eq_true_eq, Bool.or_eq_true]
    constructor
    · intro hle
      rcases Int.lt_or_eq_of_le hle with h5 | h5
      · exact .inr (h3 h5)
      · exact .inl h5.symm
    · rintro (h5 | h5) <;> omega
  · have hxy := rise_le h.rise hx hy (Nat.lt_succ_self k)
    simp only [decide_eq_true_eq]
    omega
theorem ptsS_one {ss : List Int} {l0 l1 : List Ord} (h : Prices ss l0 l1) : ptsS ss l0 l1 0 = ptsS ss l0 l1 (0 + 1) := by
  refine List.ext_getElem? fun i => ?_
  simp only [ptsS, List.getElem?_mapIdx, Nat.not_lt_zero, if_false]
  by_cases hi : i < 0 + 1
  · obtain rfl : i = 0 := by omega
    cases hx : ss[0]? with
    | none => rfl
    | some x => simp [sup_first h hx]
  · simp [hi]
theorem ptsS_set {ss : List Int} {l0 l1 : List Ord} {k : Nat} {y : Int} (hy : ss[k]? = some y) : (ptsS ss l0 l1 k).set k ⟨y, sumP l0 y, supO l1 y⟩ = ptsS ss l0 l1 (k + 1) := by
  refine List.ext_getElem? fun i => ?_
  have hk := (List.getElem?_eq_some_iff.1 hy).1
  rw [List.getElem?_set]
  by_cases e : k = i
  · subst e
    have he := (List.getElem?_eq_some_iff.1 hy).2
    simp [ptsS, hk, he]
  · simp only [ptsS, e, if_false, List.getElem?_mapIdx]
    by_cases hi : i < k
    · simp [hi, Nat.lt_succ_of_lt hi]
    · simp [hi, show ¬ i < k + 1 by omega]
theorem ptsS_D {ss : List Int} {l0 l1 : List Ord} (h : Prices ss l0 l1) : ptsS ss l0 l1 ss.length = ptsD ss l0 l1 ss.length := by
  refine List.ext_getElem? fun i => ?_
  simp only [ptsS, ptsD, List.getElem?_mapIdx]
  cases hx : ss[i]? with
  | none => rfl
  | some x =>
    have hi := (List.getElem?_eq_some_iff.1 hx).1
    simp only [hi, if_true, Option.map_some]
    by_cases e : ss.length ≤ i + 1
    · simp [e, dem_last h hx (by omega)]
    · simp [e]
theorem ptsD_set {ss : List Int} {l0 l1 : List Ord} {k : Nat} {y : Int} (hy : ss[k]? = some y) : (ptsD ss l0 l1 (k + 2)).set k ⟨y, demO l0 y, supO l1 y⟩ = ptsD ss l0 l1 (k + 1) := by
  refine List.ext_getElem? fun i => ?_
  have hk := (List.getElem?_eq_some_iff.1 hy).1
  rw [List.getElem?_set]
  by_cases e : k = i
  · subst e
    have he := (List.getElem?_eq_some_iff.1 hy).2
    simp [ptsD, hk, he]
  · simp only [ptsD, e, if_false, List.getElem?_mapIdx]
    by_cases hi : k + 2 ≤ i + 1
    · simp [hi, show k + 1 ≤ i + 1 by omega]
    · simp [hi, show ¬ k + 1 ≤ i + 1 by omega]
/-- The points of a curve. -/
def ptsC (ss : List Int) (l0 l1 : List Ord) : List Pt := ss.map (fun q => ⟨q, demO l0 q, supO l1 q⟩)
theorem ptsD_C (ss : List Int) (l0 l1 : List Ord) (k : Nat) (hk : k ≤ 1) : ptsD ss l0 l1 k = ptsC ss l0 l1 := by
  refine List.ext_getElem? fun i => ?_
  simp only [ptsD, ptsC, List.getElem?_mapIdx, List.getElem?_map, show k ≤ i + 1 by omega, if_true]
def SumOk (l : List Ord) : Prop := ∀ x, (0 ≤ sumP l x ∧ sumP l x ≤ 257698037760) ∧ (0 ≤ demO l x ∧ demO l x ≤ 257698037760) ∧ (0 ≤ supO l x ∧ supO l x ≤ 257698037760)
theorem sumOk {l : List Ord} (h : QtyOk l) (hl : l.length ≤ 60) : SumOk l := fun x => by
  have h1 : ∀ f : Ord → Bool, 0 ≤ sumO (l.filter f) ∧ sumO (l.filter f) ≤ 257698037760 := fun f => by
    have h1 := sumO_le (l := l.filter f) (h.sub (fun o ho => (List.mem_filter.1 ho).1))
    have h2 : (l.filter f).length ≤ l.length := List.length_filter_le _ _
    omega
  exact ⟨h1 _, h1 _, h1 _⟩
theorem keys_len {il : NL} {l0 l1 : List Ord} (hn : (keysL il).Nodup) (h : ∀ q, mLook il q = semA l0 l1 q) : il.length ≤ l0.length + l1.length := by
  have hs : keysL il ⊆ (l0 ++ l1).map (fun o => o 3) := fun q hq => by
    have h1 : mLook il q ≠ none := fun e => mLook_none.1 e hq
    rw [h] at h1
    unfold semA at h1
    rw [List.mem_map]
    by_cases hc : (hasP l0 q || hasP l1 q) = true
    · rw [Bool.or_eq_true] at hc
      unfold hasP at hc
      rw [List.any_eq_true, List.any_eq_true] at hc
      rcases hc with ⟨o, ho, h2⟩ | ⟨o, ho, h2⟩
      · exact ⟨o, List.mem_append_left _ ho, by simpa using h2⟩
      · exact ⟨o, List.mem_append_right _ ho, by simpa using h2⟩
    · simp [hc] at h1
  have := List.Nodup.length_le_of_subset hn hs
  simpa [keysL] using this
theorem prices_of {il : NL} {l0 l1 : List Ord} (hn : (keysL il).Nodup) (h : ∀ q, mLook il q = semA l0 l1 q) {out : List Int} (hp : out.Perm (keysL il)) : Prices (srt out) l0 l1 := by
  have hp2 : (srt out).Perm (keysL il) := (List.mergeSort_perm _ _).trans hp
  refine ⟨?_, fun q => ?_⟩
  · have h1 : (srt out).Pairwise (fun a b => decide (a ≤ b) = true) := List.pairwise_mergeSort (fun a b c h1 h2 => by simp only [decide_eq_true_eq] at *; omega) (fun a b => by simp only [Bool.or_eq_true, decide_eq_true_eq]; omega) _
    have h2 : (srt out).Pairwise (· ≠ ·) := hp2.nodup_iff.2 hn
    refine (h1.and h2).imp ?_
    rintro a b ⟨h3, h4⟩
    simp only [decide_eq_true_eq] at h3
    omega
  · rw [hp2.mem_iff]
    have h1 : q ∈ keysL il ↔ mLook il q ≠ none := by rw [Ne, mLook_none, Decidable.not_not]
    rw [h1, h]
    unfold semA
    by_cases hc : (hasP l0 q || hasP l1 q) = true <;> simp [hc]
end Go.Proofs.Ytdcjfaplgpeonaa
