/-
  The program's index: all keys of a symbol are struck (maps.DeleteFunc with a closure).
-/
import Derived.Test.YtdcjfaplgpeonaaIx
namespace Go.Proofs.Ytdcjfaplgpeonaa
open Go.RowKit Go.Dm

set_option maxHeartbeats 400000 in
theorem clear1_any (w : World) (bx : Nat) (s k1 k2 v : Int) (hb : w.heap[bx]? = some (.cells #[.int .i64 s] 3 (0, 0))) :
    Calls Try.prog 53 #[.agg #[.int .i64 k1, .int .i64 k2], .int .i64 v, .pointer (some ⟨bx, 0, none⟩)] w fun e w' => e = .returned (.bool (k1 == s)) ∧ Chg [] w w' := by
  have c0 := blk1 hb
  have hx := blk_lt hb
  go_enter Try.func53, Try.ntmps53
  go_wp2
  go_ret
  exact ⟨rfl, Chg.alloc _ _ _⟩

def symOut (l : IL) (s : Int) : IL := l.filter fun p => decide (p.1.1 ≠ s)

def ClearRel (l : IL) (s : Int) (it m1 bx : Nat) (w : World) (n : Nat) (wr : World) : Prop :=
  ∃ l' todo : IL, IterAt kenc ienc wr it m1 l' todo ∧ todo.length < n ∧ symOut l' s = symOut l s ∧ (∀ p ∈ l', p.1.1 = s → p ∈ todo) ∧ wr.heap[bx]? = some (.cells #[.int .i64 s] 3 (0, 0)) ∧ Chg [m1] w wr ∧ w.heap.size ≤ it

theorem clearRel_keep {l' : IL} {s : Int} {k : Int × Int} {v : Int} {pre post : IL} (hall : ∀ p ∈ l', p.1.1 = s → p ∈ pre ++ (k, v) :: post) (hk : k.1 ≠ s) : ∀ p ∈ l', p.1.1 = s → p ∈ pre ++ post := by
  intro p hp e
  rcases List.mem_append.1 (hall p hp e) with h | h
  · exact List.mem_append_left _ h
  · rcases List.mem_cons.1 h with h | h
    · subst h; exact absurd e hk
    · exact List.mem_append_right _ h
theorem clearRel_strike {l' : IL} {s : Int} {k : Int × Int} {v : Int} {pre post : IL} (hall : ∀ p ∈ l', p.1.1 = s → p ∈ pre ++ (k, v) :: post) : ∀ p ∈ delL l' k, p.1.1 = s → p ∈ delL (pre ++ post) k := by
  intro p hp e
  have h1 := List.mem_filter.1 hp
  have hne : p.1 ≠ k := by simpa using h1.2
  refine List.mem_filter.2 ⟨?_, by simpa using hne⟩
  rcases List.mem_append.1 (hall p h1.1 e) with h | h
  · exact List.mem_append_left _ h
  · rcases List.mem_cons.1 h with h | h
    · subst h; exact absurd rfl hne
    · exact List.mem_append_right _ h
theorem symOut_del {l' : IL} {s : Int} {k : Int × Int} (hk : k.1 = s) : symOut (delL l' k) s = symOut l' s := by
  unfold symOut delL
  rw [List.filter_filter]
  refine List.filter_congr fun p _ => ?_
  by_cases e : p.1 = k
  · simp [e, hk]
  · simp [e]
theorem symOut_all {l' : IL} {s : Int} (h : ∀ p ∈ l', p.1.1 = s → p ∈ ([] : IL)) : symOut l' s = l' :=
  List.filter_eq_self.2 fun p hp => by
    have : p.1.1 ≠ s := fun e => by have := h p hp e; simp at this
    simp [this]

set_option maxRecDepth 100000 in
set_option maxHeartbeats 1000000 in
theorem delFunc_any (w : World) (bx m1 : Nat) (s : Int) (l : IL) (h : MapAt kenc ienc w m1 l) (hb : w.heap[bx]? = some (.cells #[.int .i64 s] 3 (0, 0))) :
    Calls Try.prog 54 #[.map (some m1), .func (.func 53) #[] #[.pointer (some ⟨bx, 0, none⟩)]] w fun e w' => e = .returned (.tuple #[]) ∧ MapAt kenc ienc w' m1 (symOut l s) ∧ Chg [m1] w w' := by
  have hm1 := h.lt
  have hbx := blk_lt hb
  obtain ⟨ob, hrg, hI⟩ := IterAt.start h Try.underlying103
  have hCa : Chg [m1] w (w.alloc ob) := Chg.alloc _ _ _
  have hb1 := hCa.at_ hb (by intro e; simp at e; subst e; obtain ⟨_, _, hh, _⟩ := h; rw [hb] at hh; cases hh)
  go_enter Try.func54, Try.ntmps54
  go_wp2
  clear hrg
  go_loopg [8] (l.length + 1) (fun k u8 wr => ClearRel l s w.heap.size m1 bx w k wr)
  case atStart => exact ⟨l, l, hI, by omega, rfl, fun p hp _ => hp, hb1, hCa, Nat.le_refl _⟩
  case round =>
    clear hI hCa hb1 hbx hm1 hb h
    obtain ⟨l', todo, hI', hlen, ho, hall, hb2, hC, hit⟩ := hrel
    have A := Lib.hid (And.intro hlen (And.intro ho hall))
    clear hlen ho hall
    rcases hI'.next (P := Try.prog) 0 with ⟨rfl, hnx⟩ | ⟨pre, k, v, post, W, he, hnx, hI2, hCn, hsz, hen⟩
    · go_wp2
      go_end0
      obtain ⟨hlen, ho, hall⟩ := A.out
      rw [symOut_all hall] at ho
      refine ⟨rfl, ?_, hC⟩
      rw [← ho]
      exact hI'.map
    · obtain ⟨k1, k2⟩ := k
      simp only [kenc, ienc] at hnx hen
      have hb3 := hCn.at_ hb2 (by simp; intro e; subst e; obtain ⟨_, _, _, _, _, _, hh, _⟩ := hI'; rw [hb2] at hh; cases hh)
      have hC3 : Chg [m1] w W := hC.trans' hCn (by simp) (by simp)
      have B := Lib.hid he
      clear he hI' hb2 hC hCn
      go_wp2_with fail
      refine (clear1_any _ bx s k1 k2 v ((Chg.alloc [] W _).at_ hb3 (by simp))).mono ?_
      rintro e W2 ⟨rfl, hCc⟩
      have hCd : Chg [] W W2 := (Chg.alloc [] W _).trans hCc
      have bk := hCc.at_ (o := .cells #[.int .i64 k1, .int .i64 k2] 37) (b := W.heap.size) (by exact heap_alloc_new W _) (by simp)
      rw [hsz] at bk
      have hI3 := hI2.chg hCd (by simp) (by simp)
      have hb4 := hCd.at_ hb3 (by simp)
      have hC4 : Chg [m1] w W2 := hC3.trans (hCd.mono (by simp))
      clear hCc hCd hI2 hb3 hC3 hnx hen hsz
      obtain ⟨d0, d1⟩ := blk2 bk
      by_cases hks : k1 = s
      · obtain ⟨W3, hrun, hI4, hCe, _⟩ := hI3.delete MK Try.underlying103 (k1, k2) 37 0
        simp only [kenc] at hrun
        have hb5 := hCe.at_ hb4 (by simp; intro e; subst e; obtain ⟨_, _, hh, _⟩ := hI3.map; rw [hb4] at hh; cases hh)
        have hC5 : Chg [m1] w W3 := hC4.trans hCe
        have hcond : (k1 == s) = true := by rw [beq_iff_eq]; exact hks
        have C := Lib.hid hks
        clear hks hI3 hb4 hC4 hCe
        go_wp2
        obtain ⟨hlen, ho, hall⟩ := A.out
        rw [B.out] at hall hlen
        simp only [List.length_append, List.length_cons] at hlen
        have h1 : (delL (pre ++ post) (k1, k2)).length ≤ (pre ++ post).length := List.length_filter_le _ _
        simp only [List.length_append] at h1
        go_roundg ((delL (pre ++ post) (k1, k2)).length + 1)
        case measure => omega
        case rel => exact ⟨_, _, hI4, by omega, by rw [symOut_del C.out]; exact ho, clearRel_strike hall, hb5, hC5, hit⟩
      · have hcond : (k1 == s) = false := by rw [beq_eq_false_iff_ne]; exact hks
        go_wp2
        obtain ⟨hlen, ho, hall⟩ := A.out
        rw [B.out] at hall hlen
        simp only [List.length_append, List.length_cons] at hlen
        go_roundg ((pre ++ post).length + 1)
        case measure => simp; omega
        case rel => exact ⟨_, _, hI3, by omega, ho, clearRel_keep hall hks, hb4, hC4, hit⟩

theorem icnt_out (l : IL) (s t : Int) : icnt (symOut l s) t = if s = t then 0 else icnt l t := by
  unfold icnt symOut
  rw [List.filter_filter]
  by_cases e : s = t
  · subst e
    rw [if_pos rfl, List.length_eq_zero_iff, List.filter_eq_nil_iff]
    intro p _
    simp
  · rw [if_neg e]
    congr 1
    refine List.filter_congr fun p _ => ?_
    by_cases h : p.1.1 = t
    · have : t ≠ s := fun h => e h.symm
      simp [h, this]
    · simp [h]

set_option maxRecDepth 100000 in
set_option maxHeartbeats 1000000 in
theorem clear_any (w : World) (x m1 m2 : Nat) (l : IL) (h : XAt w x m1 m2 l) (s : Int) :
    Calls Try.prog 20 #[.pointer (some ⟨x, 0, none⟩), .int .i64 s] w fun e w' =>
      e = .returned (.int .i64 (icnt l s)) ∧ XAt w' x m1 m2 (symOut l s) ∧ Chg [m1, m2] w w' := by
  have hne := h.ne
  have hne2 := h.ne2
  have hne1 := h.ne1
  have hA : Chg [] w (w.alloc (.cells #[.int .i64 s] 3)) := Chg.alloc _ _ _
  have hX := h.chg hA (by simp) (by simp) (by simp)
  have bs : (w.alloc (.cells #[.int .i64 s] 3)).heap[w.heap.size]? = some (.cells #[.int .i64 s] 3 (0, 0)) := heap_alloc_new w _
  have ds := blk1 bs
  have hlen := len_any _ x m1 m2 l hX s
  by_cases hz : icnt l s = 0
  · have hz' : ¬ (icnt l s : Int) > 0 := by omega
    have hz0 := Lib.hid hz
    clear hz
    go_enter Try.func20, Try.ntmps20
    go_wp2_with fail
    refine hlen.mono ?_
    rintro e w' ⟨rfl, rfl⟩
    go_wp2
    go_ret
    have hso : symOut l s = l := List.filter_eq_self.2 fun p hp => by
      have : p.1.1 ≠ s := fun e => by
        have hm : p ∈ l.filter fun p => decide (p.1.1 = s) := List.mem_filter.2 ⟨hp, by simp [e]⟩
        have := List.length_pos_of_mem hm
        have := hz0.out
        unfold icnt at this
        omega
      simp [this]
    refine ⟨rfl, ?_, hA.mono (by simp)⟩
    rw [hso]; exact hX
  · have hz' : (icnt l s : Int) > 0 := by omega
    clear hz
    go_enter Try.func20, Try.ntmps20
    go_wp2_with fail
    refine hlen.mono ?_
    rintro e w' ⟨rfl, rfl⟩
    have c0 := hX.c0
    have hxl := hX.lt
    clear hlen
    go_wp2_with fail
    refine (delFunc_any _ w.heap.size m1 s l hX.ents bs).mono ?_
    rintro e W ⟨rfl, he, hC⟩
    have hneb1 : m1 ≠ w.heap.size := fun e => by have := h.ents.lt; omega
    have hneb2 : m2 ≠ w.heap.size := fun e => by obtain ⟨m, hm, _⟩ := h.many; have := hm.lt; omega
    have blk := hC.at_ hX.blk (by simp; exact hne1)
    have bs2 := hC.at_ bs (by simp; omega)
    obtain ⟨m, hm, hma⟩ := hX.many
    have hm2 := hm.chg hC (by simp; exact hne.symm)
    have hCa : Chg [m1] w W := (hA.mono (by simp)).trans hC
    clear hA hX bs ds c0 hxl hm hC h
    go_wp2
    refine wp_tail 5 (by kernel_rfl) (by kernel_rfl) ?_
    intro W4 hW4
    have hC4 : Chg [m1] w W4 := hCa.trans (hW4.mono (by simp))
    have e4 := he.chg hW4 (by simp)
    have m4 := hm2.chg hW4 (by simp)
    have blk4 := hW4.at_ blk (by simp)
    have b4 := hW4.at_ bs2 (by simp)
    clear hCa hW4 he hm2 blk bs2
    have c1 := (blk2 blk4).2
    have d0 := blk1 b4
    simp only [List.take_succ_cons, List.take_zero, List.drop_succ_cons, List.drop_zero]
    repeat still_step
    refine wpStill_nil ?_
    refine wpL_delete rfl _ _ 104 3 rfl MI Try.underlying104 m4 s rfl rfl ?_
    intro W5 m5 hCb _
    have hX : XAt W5 x m1 m2 (symOut l s) := ⟨hCb.at_ blk4 (by simp; exact hne2), e4.chg hCb (by simp; exact hne), ⟨_, m5, fun t => by rw [manyOf_del, icnt_out]; by_cases e : s = t <;> simp [e, hma]⟩, hne⟩
    have hC5 : Chg [m1, m2] w W5 := (hC4.mono (by simp)).trans (hCb.mono (by simp))
    clear hC4 e4 m4 blk4 b4 c1 d0 m5 hCb hma
    go_wp2
    go_ret
    exact ⟨rfl, hX, hC5⟩

set_option maxHeartbeats 400000 in
theorem clear_nil (w : World) (s : Int) : Calls Try.prog 20 #[.pointer none, .int .i64 s] w fun e w' => e = .returned (.int .i64 0) ∧ Chg [] w w' := by
  have ds := blk1 (heap_alloc_new w (.cells #[.int .i64 s] 3))
  go_enter Try.func20, Try.ntmps20
  go_wp2_with fail
  refine (len_nil _ _).mono ?_
  rintro e w' ⟨rfl, rfl⟩
  go_wp2
  go_ret
  exact ⟨rfl, Chg.alloc _ _ _⟩
end Go.Proofs.Ytdcjfaplgpeonaa
