/-
  The sorted keys of a map from int64s.
-/
import Derived.Test.YtdcjfaplgpeonaaTb
import Derived.Test.YtdcjfaplgpeonaaEb
import Derived.Test.YtdcjfaplgpeonaaSz
namespace Go.Proofs.Ytdcjfaplgpeonaa
open Go.RowKit Go.Dm Go.Shelf Go.Sort
attribute [local go_sem] Oper.semAt_some

abbrev NL := List (Int × (Int × Int))
def qenc (p : Int) : Value := .int .i64 p
def nenc (n : Int × Int) : Value := .agg #[.int .i64 n.1, .int .i64 n.2]
theorem MQ : MKey Try.prog 2 qenc := mkey_int Try.underlying2

theorem keepsWalks_chg {S : List Nat} {W W' : World} (hC : Chg S W W') (hS : ∀ k ∈ S, ∀ o, W.heap[k]? = some o → o.isWalk = false) : KeepsWalks W W' :=
  ⟨hC.size, fun k o hk ho => hC.at_ hk (fun hm => by rw [hS k hm o hk] at ho; cases ho)⟩
theorem _root_.Go.Dm.IterAt.walks {κ ν : Type} {enc : κ → Value} {venc : ν → Value} {w w' : World} {it m : Nat} {l todo : List (κ × ν)} (h : IterAt enc venc w it m l todo) (hK : KeepsWalks w w') : IterAt enc venc w' it m l todo := by
  obtain ⟨es, c, seen, h1, h2, h3, h4, h5⟩ := h
  exact ⟨es, c, seen, hK.same _ _ h1 rfl, h2, h3, hK.same _ _ h4 rfl, h5⟩
theorem _root_.Go.Dm.IterAt.row {κ ν : Type} {enc : κ → Value} {venc : ν → Value} {w : World} {it m : Nat} {l todo : List (κ × ν)} (h : IterAt enc venc w it m l todo) : ∃ o : Obj, w.heap[it]? = some o ∧ o.isWalk = true := by
  obtain ⟨es, c, seen, h1, h2, h3, h4, h5⟩ := h
  exact ⟨_, h4, rfl⟩

theorem keys70 (w : World) (mb : Option Nat) :
    Calls Try.prog 70 #[.map mb] w fun e w' => e = .returned (.func (.func 91) #[] #[.pointer (some ⟨w.heap.size, 0, none⟩)]) ∧ w' = w.alloc (.cells #[.map mb] 128) := by
  go_enter Try.func70, Try.ntmps70
  go_wp2
  go_ret
  exact ⟨rfl, rfl⟩

def KRel (W : World) (m : Nat) (l : NL) (J : List Int → World → Prop) (q : Nat) (wr : World) : Prop :=
  ∃ todo ss, IterAt qenc nenc wr W.heap.size m l todo ∧ (ss ++ keysL todo).Perm (keysL l) ∧ J ss wr ∧ q = todo.length + 1

set_option maxRecDepth 100000 in
set_option maxHeartbeats 2000000 in
theorem keys91 (n : Nat) (hn : 1 ≤ n) (bx m : Nat) (l : NL) (w : World) (hbx : w.heap[bx]? = some (.cells #[.map (some m)] 128 (0, 0))) (hm : MapAt qenc nenc w m l) :
    SeqGives Fence.wide n Try.prog 91 #[.pointer (some ⟨bx, 0, none⟩)] encZ (fun ss => ss.Perm (keysL l)) l.length w := fun yl J W hW hJ hY hj0 => by
  refine callsIn_of_wp Try.func91 rfl trivial ?_ rfl
  simp only [Try.ntmps91, List.size_toArray, List.length_cons, List.length_nil, Nat.reduceAdd, Nat.reduceSub, Array.replicate_succ, Array.replicate_zero, List.push_toArray, List.append_toArray, List.nil_append, List.cons_append]
  have hC : Chg [] w W := Chg.of_below hW []
  have cb := blk1 (hC.at_ hbx (by simp))
  have hm1 := hm.chg hC (by simp)
  obtain ⟨ob, hrg, hI⟩ := IterAt.start hm1 Try.underlying128
  have hCa : Chg [] W (W.alloc ob) := Chg.alloc _ _ _
  have hJ1 := hJ _ _ _ none hj0 (grown_of_chgT hCa) (fun r e => by cases e)
  gi_wp2
  clear hrg
  gi_loopg [3] (l.length + 1) (fun q u wr => KRel W m l J q wr)
  case atStart => exact ⟨l, [], hI, by simp, hJ1, rfl⟩
  case round =>
    clear hI hCa cb hJ1 hm1 hbx hm hC hj0
    obtain ⟨todo, ss, hI', hP, hJ2, hq⟩ := hrel
    have Hq := Lib.hid (And.intro hq hP)
    clear hq hP
    rcases hI'.next (P := Try.prog) 0 with ⟨rfl, hnx⟩ | ⟨pre, k, v, post, W2, he, hnx, hI2, hCn, hsz, hen⟩
    · gi_wp2
      go_end0
      have hP2 := Hq.out.2
      simp only [keysL, List.map_nil, List.append_nil] at hP2
      exact ⟨⟨_, rfl⟩, ss, hP2, hJ2⟩
    · simp only [qenc, nenc] at hnx hen
      have hJ3 := hJ ss _ _ (some W.heap.size) hJ2 ⟨hCn.os, hCn.tape, hCn.output, hCn.size, fun k hk hne => hCn.block k hk (by simpa using fun e => hne (by rw [e]))⟩ (fun r e => by cases e; exact ⟨Nat.le_refl _, hI'.row⟩)
      have hlen : ss.length < l.length := by
        have := Hq.out.2.length_eq
        simp [he, keysL] at this
        omega
      obtain ⟨fn, tmps, assign, body, hy, hR⟩ := hY ss k W2 hJ3 hlen
      simp only [encZ] at hy
      have B := Lib.hid (And.intro he hlen)
      clear he hlen hI' hCn hJ2 hJ3 hsz
      gi_wp2
      refine hR.mono ?_
      rintro e W3 ⟨rfl, hJ4, hk4⟩
      have hI3 := hI2.walks hk4
      clear hR hy hI2 hk4 hen hnx
      gi_wp2
      gi_roundg ((pre ++ post).length + 1)
      case measure => rw [Hq.out.1, B.out.1]; simp
      case rel =>
        refine ⟨pre ++ post, ss ++ [k], hI3, ?_, hJ4, rfl⟩
        have h1 := Hq.out.2
        rw [B.out.1] at h1
        refine List.Perm.trans ?_ h1
        simp only [keysL, List.map_append, List.map_cons, List.append_assoc, List.singleton_append]
        exact (List.perm_middle.symm).append_left ss

theorem sorts_in (m : Nat) : Go.Proofs.AnyZI.SortsIn Try.prog sortedL_ren Fence.wide m :=
  ⟨fun blk off cap ss W hH hblk hsz => callsIn_wide.2 (AnyM.slices_Sort_int sortL blk off cap ss W hH hblk hsz),
   fun p cap W => callsIn_wide.2 (AnyM.slices_Sort_int_none sortL p cap W)⟩

theorem sorted69 (w : World) (bx m : Nat) (l : NL) (hbx : w.heap[bx]? = some (.cells #[.map (some m)] 128 (0, 0))) (hm : MapAt qenc nenc w m l) (hlen : l.length ≤ 1000) :
    Calls Try.prog 69 #[.func (.func 91) #[] #[.pointer (some ⟨bx, 0, none⟩)]] w fun e w' => ∃ (v : Value) (out : List Int), e = .returned v ∧ SlAt 2 1 idE w' v (srt out) ∧ out.Perm (keysL l) ∧ Chg [] w w' ∧ Fresh w.heap.size v := by
  refine (callsIn_wide (n := 6)).1 ?_
  have cS := Go.Proofs.AnyZI.sorted_in sortedL Fence.wide 6 trivial trivial trivial trivial rfl (by omega) (sorts_in _) (enters_of Try.func76 (by kernel_rfl) rfl) 91 #[.pointer (some ⟨bx, 0, none⟩)] trivial (enters_of Try.func91 (by kernel_rfl) rfl) _ l.length (by unfold maxLen; omega) (by omega) w (keys91 3 (by omega) bx m l w hbx hm)
  change CallsIn _ _ Try.prog 69 _ _ _ at cS
  refine cS.mono ?_
  rintro e w' ⟨v, ss, rfl, hS, hrow, hnil, hb⟩
  refine ⟨v, ss, rfl, ?_, hS, Chg.of_below hb [], ?_⟩
  · unfold SlAt
    rw [srt_len, flat_ids]
    exact ownsRow_base_a hrow (by simp)
  · intro g hg
    rcases hrow.2 with ⟨rfl, _⟩ | ⟨g', cap, cur, rfl, hb0, _⟩
    · simp [Value.ownBlock] at hg
    · simp [Value.ownBlock] at hg; omega
end Go.Proofs.Ytdcjfaplgpeonaa
