/-
  The program's index (package index): its maps as one list of keys with their slots; what each of its functions does to it.
-/
import Derived.Deep.LoopGhost
import Derived.Deep.RegionLaw
import Derived.Deep.DeepMust
import Derived.Deep.CutBlock
import Derived.Deep.DeepCutAuto
import Derived.Test.YtdcjfaplgpeonaaGreatRows
import Derived.Test.YtdcjfaplgpeonaaGreatQ1
namespace Go.Proofs.YtdcjfaplgpeonaaGreat
open Go.RowKit Go.Dm

def kenc (k : Int × Int) : Value := .agg #[.int .i64 k.1, .int .i64 k.2]

theorem key_eq (w : World) (a b : Int × Int) : (Op.equal 103 (kenc a) (kenc b)).run Tryz.prog w = .ok (decide (a = b)) w := by
  obtain ⟨a1, a2⟩ := a
  obtain ⟨b1, b2⟩ := b
  unfold Op.equal Op.maxDepth kenc
  have h3 := Tryz.underlying3
  have h2 := Tryz.underlying2
  rw [run_equalIn_agg _ 9999 103 _ _ (by kernel_rfl) (by kernel_rfl)]
  go_simp
  by_cases h : a1 = b1 <;> by_cases h' : a2 = b2 <;> simp [h, h']
theorem key_check (w : World) (em : Bool) (k : Int × Int) : (Instr.checkKey em 10000 103 (kenc k)).run Tryz.prog w = .ok () w := by
  obtain ⟨a1, a2⟩ := k
  unfold kenc
  kernel_rfl
theorem key_stays (w : World) (k : Int × Int) : (Instr.keyThatStays (kenc k) (kenc k)).run Tryz.prog w = .ok (kenc k) w := by
  obtain ⟨a1, a2⟩ := k
  simp [Instr.keyThatStays, Instr.sameBits, kenc]
theorem MK : MKey Tryz.prog 103 kenc := mkey_asking Tryz.underlying103 (fun _ _ => rfl) key_eq key_check key_stays
def ienc (n : Int) : Value := .int .i64 n
theorem MI : MKey Tryz.prog 3 ienc := mkey_int Tryz.underlying3
theorem z3 (w : World) : (zeroValue 3).run Tryz.prog w = .ok (.int .i64 0) w := by kernel_rfl

abbrev IL := List ((Int × Int) × Int)
def icnt (l : IL) (s : Int) : Nat := (l.filter fun p => decide (p.1.1 = s)).length

def manyOf (m : List (Int × Int)) (s : Int) : Int := (mLook m s).getD 0

structure XAt (w : World) (x m1 m2 : Nat) (l : IL) : Prop where
  blk : w.heap[x]? = some (.cells #[.map (some m1), .map (some m2)] 139 (0, 0))
  ents : MapAt kenc ienc w m1 l
  many : ∃ m : List (Int × Int), MapAt ienc ienc w m2 m ∧ ∀ s, manyOf m s = icnt l s
  ne : m1 ≠ m2

theorem XAt.ne1 {w : World} {x m1 m2 : Nat} {l : IL} (h : XAt w x m1 m2 l) : x ≠ m1 := by
  obtain ⟨es, c, hb, _⟩ := h.ents
  intro e; subst e; rw [h.blk] at hb; cases hb
theorem XAt.ne2 {w : World} {x m1 m2 : Nat} {l : IL} (h : XAt w x m1 m2 l) : x ≠ m2 := by
  obtain ⟨m, ⟨es, c, hb, _⟩, _⟩ := h.many
  intro e; subst e; rw [h.blk] at hb; cases hb
theorem XAt.chg {w w' : World} {x m1 m2 : Nat} {l : IL} {S : List Nat} (h : XAt w x m1 m2 l) (hc : Chg S w w') (h0 : x ∉ S) (h1 : m1 ∉ S) (h2 : m2 ∉ S) : XAt w' x m1 m2 l :=
  ⟨hc.at_ h.blk h0, h.ents.chg hc h1, by obtain ⟨m, hm, e⟩ := h.many; exact ⟨m, hm.chg hc h2, e⟩, h.ne⟩
theorem XAt.lt {w : World} {x m1 m2 : Nat} {l : IL} (h : XAt w x m1 m2 l) : x < w.heap.size := (Array.getElem?_eq_some_iff.1 h.blk).1
theorem XAt.c0 {w : World} {x m1 m2 : Nat} {l : IL} (h : XAt w x m1 m2 l) : w.cell? ⟨x, 0, none⟩ = some (.map (some m1)) := by simp [World.cell?, h.blk]
theorem XAt.c1 {w : World} {x m1 m2 : Nat} {l : IL} (h : XAt w x m1 m2 l) : w.cell? ⟨x, 1, none⟩ = some (.map (some m2)) := by simp [World.cell?, h.blk]

theorem found_i (o : Option Int) : found ienc (.int .i64 0) o = .int .i64 (o.getD 0) := by cases o <;> rfl

set_option maxHeartbeats 400000 in
theorem get_any (w : World) (x m1 m2 : Nat) (l : IL) (h : XAt w x m1 m2 l) (k1 k2 : Int) :
    Calls Tryz.prog 49 #[.pointer (some ⟨x, 0, none⟩), .agg #[.int .i64 k1, .int .i64 k2]] w fun e w' =>
      e = .returned (.tuple #[.int .i64 ((mLook l (k1, k2)).getD 0), .bool (mLook l (k1, k2)).isSome]) ∧ Chg [] w w' := by
  have c0 := h.c0
  have hx := h.lt
  have hl := fun n => (h.ents.chg ((Chg.alloc [] w (.cells #[.int .i64 k1, .int .i64 k2] 103)).trans (Chg.drewN _ _ n)) (by simp)).lookup MK Tryz.underlying136 z3 (k1, k2) true
  simp only [kenc, found_i, if_true] at hl
  go_enter Tryz.func49, Tryz.ntmps49
  go_wp2
  go_quiet (fail)
  go_wp2
  go_ret2
  exact ⟨rfl, (Chg.alloc _ _ _).trans (Chg.drewN _ _ _)⟩

theorem icnt_app (l : IL) (k1 k2 v s : Int) : icnt (l ++ [((k1, k2), v)]) s = icnt l s + if k1 = s then 1 else 0 := by
  simp only [icnt, List.filter_append, List.length_append]
  by_cases e : k1 = s <;> simp [e]
theorem icnt_le (l : IL) (s : Int) : icnt l s ≤ l.length := List.length_filter_le _ _

theorem manyOf_put (m : List (Int × Int)) (s c t : Int) : manyOf (putL m s c) t = if s = t then c else manyOf m t := by
  unfold manyOf
  rw [mLook_put]
  by_cases e : s = t <;> simp [e]
theorem manyOf_del (m : List (Int × Int)) (s t : Int) : manyOf (delL m s) t = if s = t then 0 else manyOf m t := by
  unfold manyOf
  rw [mLook_del]
  by_cases e : s = t <;> simp [e]
theorem many_put {m : List (Int × Int)} {l : IL} {k1 k2 v : Int} (he : ∀ s, manyOf m s = icnt l s) : ∀ s, manyOf (putL m k1 ((icnt l k1 : Int) + 1)) s = icnt (l ++ [((k1, k2), v)]) s := by
  intro s
  rw [manyOf_put, icnt_app]
  by_cases e : k1 = s
  · subst e; simp
  · simp [e, he]

set_option maxRecDepth 100000 in
set_option maxHeartbeats 400000 in
theorem put_new (w : World) (x m1 m2 : Nat) (l : IL) (h : XAt w x m1 m2 l) (k1 k2 v : Int) (hk : mLook l (k1, k2) = none) (hlen : l.length ≤ 1000) :
    Calls Tryz.prog 55 #[.pointer (some ⟨x, 0, none⟩), .agg #[.int .i64 k1, .int .i64 k2], .int .i64 v] w fun e w' =>
      e = .returned (.bool true) ∧ XAt w' x m1 m2 (l ++ [((k1, k2), v)]) ∧ Chg [m1, m2] w w' := by
  have c0 := h.c0
  have hx := h.lt
  have hl := fun n => (h.ents.chg ((Chg.alloc [] w (.cells #[.int .i64 k1, .int .i64 k2] 103)).trans (Chg.drewN _ _ n)) (by simp)).lookup MK Tryz.underlying136 z3 (k1, k2) true
  simp only [kenc, found_i, if_true, hk, Option.getD_none, Option.isSome_none] at hl
  have hput : putL l (k1, k2) v = l ++ [((k1, k2), v)] := by simp [putL, hk]
  have Hput := Lib.hid hput
  clear hput
  go_enter Tryz.func55, Tryz.ntmps55
  go_wp2
  go_quiet (fail)
  go_wp2
  clear hl c0
  refine wp_tail 6 (by kernel_rfl) (by kernel_rfl) ?_
  intro W hW
  have hC : Chg [] w W := ((Chg.alloc [] w _).trans (Chg.drewN _ _ _)).trans hW
  have h2 : XAt W x m1 m2 l := h.chg hC (by simp) (by simp) (by simp)
  have b2 := hW.at_ (o := .cells #[.int .i64 k1, .int .i64 k2] 103) (b := w.heap.size) (by exact heap_alloc_new w _) (by simp)
  clear hW
  have c0 := h2.c0
  obtain ⟨d0, d1⟩ := blk2 b2
  simp only [List.take_succ_cons, List.take_zero, List.drop_succ_cons, List.drop_zero]
  repeat still_step
  refine wpStill_nil ?_
  refine wpL_update rfl _ _ _ 136 rfl MK Tryz.underlying136 h2.ents (k1, k2) v rfl rfl rfl ?_
  intro W2 e2 hC2 _
  rw [Hput.out] at e2
  have hC3 : Chg [m1] w W2 := (hC.mono (by simp)).trans hC2
  have hne : m1 ≠ w.heap.size := fun e => by have := h.ents.lt; omega
  have b3 := hC2.at_ b2 (by simp; omega)
  have blk3 := hC2.at_ h2.blk (by simp; exact h2.ne1)
  obtain ⟨m, hm, he⟩ := h2.many
  have hm3 := hm.chg hC2 (by simp; exact h2.ne.symm)
  have hle := icnt_le l k1
  have hne2 := h.ne
  have hne3 := h.ne2
  have hne1 := h.ne1
  clear hC hC2 h2 b2 c0 d0 d1 hm h
  go_wp2
  refine wp_tail 8 (by kernel_rfl) (by kernel_rfl) ?_
  intro W4 hW4
  have hC4 : Chg [m1] w W4 := hC3.trans (hW4.mono (by simp))
  have e4 := e2.chg hW4 (by simp)
  have hm4 := hm3.chg hW4 (by simp)
  have b4 := hW4.at_ b3 (by simp)
  have blk4 := hW4.at_ blk3 (by simp)
  clear hC3 hW4 e2 hm3 b3 blk3
  have c1 := (blk2 blk4).2
  obtain ⟨d0, d1⟩ := blk2 b4
  have hl := hm4.lookup MI Tryz.underlying137 z3 k1 false
  have he1 := he k1
  unfold manyOf at he1
  simp only [ienc, found_i, he1, Bool.false_eq_true, if_false] at hl
  clear he1
  simp only [List.take_succ_cons, List.take_zero, List.drop_succ_cons, List.drop_zero]
  repeat still_step
  refine wpStill_nil ?_
  refine wpL_update rfl _ _ _ 137 rfl MI Tryz.underlying137 hm4 k1 ((icnt l k1 : Int) + 1) rfl rfl (wrapV rfl (by omega) (by omega)) ?_
  intro W5 m5 hC5 _
  have hX : XAt W5 x m1 m2 (l ++ [((k1, k2), v)]) := ⟨hC5.at_ blk4 (by simp; exact hne3), e4.chg hC5 (by simp; exact hne2), ⟨_, m5, many_put he⟩, hne2⟩
  have hCf : Chg [m1, m2] w W5 := (hC4.mono (by simp)).trans (hC5.mono (by simp))
  clear hC5 m5 hC4 e4 hm4 b4 blk4 c1 d0 d1 hl he
  go_wp2
  go_ret
  exact ⟨rfl, hX, hCf⟩

set_option maxHeartbeats 400000 in
theorem put_old (w : World) (x m1 m2 : Nat) (l : IL) (h : XAt w x m1 m2 l) (k1 k2 v : Int) (hk : (mLook l (k1, k2)).isSome = true) :
    Calls Tryz.prog 55 #[.pointer (some ⟨x, 0, none⟩), .agg #[.int .i64 k1, .int .i64 k2], .int .i64 v] w fun e w' =>
      e = .returned (.bool false) ∧ Chg [] w w' := by
  have c0 := h.c0
  have hx := h.lt
  have hl := fun n => (h.ents.chg ((Chg.alloc [] w (.cells #[.int .i64 k1, .int .i64 k2] 103)).trans (Chg.drewN _ _ n)) (by simp)).lookup MK Tryz.underlying136 z3 (k1, k2) true
  simp only [kenc, found_i, if_true, hk] at hl
  go_enter Tryz.func55, Tryz.ntmps55
  go_wp2
  go_quiet (fail)
  go_wp2
  go_ret
  exact ⟨rfl, (Chg.alloc _ _ _).trans (Chg.drewN _ _ _)⟩

set_option maxHeartbeats 400000 in
theorem put_nil (w : World) (k1 k2 v : Int) :
    Calls Tryz.prog 55 #[.pointer none, .agg #[.int .i64 k1, .int .i64 k2], .int .i64 v] w fun e w' => e = .returned (.bool false) ∧ Chg [] w w' := by
  go_enter Tryz.func55, Tryz.ntmps55
  go_wp2
  go_ret
  exact ⟨rfl, Chg.alloc _ _ _⟩

set_option maxHeartbeats 400000 in
theorem get_nil (w : World) (k1 k2 : Int) :
    Calls Tryz.prog 49 #[.pointer none, .agg #[.int .i64 k1, .int .i64 k2]] w fun e w' => e = .returned (.tuple #[.int .i64 0, .bool false]) ∧ Chg [] w w' := by
  go_enter Tryz.func49, Tryz.ntmps49
  go_wp2
  go_ret2
  exact ⟨rfl, Chg.alloc _ _ _⟩

set_option maxHeartbeats 400000 in
/-- A new index. -/
theorem new_any (w : World) :
    Calls Tryz.prog 45 #[] w fun e w' => ∃ x m1 m2, e = .returned (.pointer (some ⟨x, 0, none⟩)) ∧ XAt w' x m1 m2 [] ∧ Chg [] w w' ∧ w.heap.size ≤ x ∧ w.heap.size ≤ m1 ∧ w.heap.size ≤ m2 := by
  have hmm := @run_makeMap Tryz.prog
  go_enter Tryz.func45, Tryz.ntmps45
  go_wp2
  go_ret
  have hA : Chg [] w ((w.alloc (Obj.map #[] 0)).alloc (Obj.map #[] 0)) := (Chg.alloc _ _ _).trans (Chg.alloc _ _ _)
  have hs : (w.alloc (Obj.map #[] 0)).heap.size = w.heap.size + 1 := by simp
  have hs2 : ((w.alloc (Obj.map #[] 0)).alloc (Obj.map #[] 0)).heap.size = w.heap.size + 1 + 1 := by simp
  have e1 : MapAt kenc ienc (w.alloc (Obj.map #[] 0)) w.heap.size ([] : IL) := MapAt.new w
  have e2 : MapAt ienc ienc ((w.alloc (Obj.map #[] 0)).alloc (Obj.map #[] 0)) (w.heap.size + 1) ([] : List (Int × Int)) := by
    have := MapAt.new (enc := ienc) (venc := ienc) (w.alloc (Obj.map #[] 0)); rw [hs] at this; exact this
  refine ⟨w.heap.size + 1 + 1, w.heap.size, w.heap.size + 1, rfl, ⟨?_, ?_, ⟨[], e2.chg (Chg.alloc [] _ _) (by simp), ?_⟩, by omega⟩, hA.trans (Chg.alloc _ _ _), by omega, by omega, by omega⟩
  · have := heap_alloc_new ((w.alloc (Obj.map #[] 0)).alloc (Obj.map #[] 0)) (Obj.cells #[Value.map (some w.heap.size), Value.map (some (w.heap.size + 1))] 139)
    rw [hs2] at this; exact this
  · exact (e1.chg (Chg.alloc [] _ _) (by simp)).chg (Chg.alloc [] _ _) (by simp)
  · intro s; simp [manyOf, mLook, icnt]

theorem icnt_del {l : IL} {k1 k2 s : Int} (hn : (keysL l).Nodup) {v : Int} (h : mLook l (k1, k2) = some v) : (icnt (delL l (k1, k2)) s : Int) = icnt l s - if k1 = s then 1 else 0 := by
  induction l with
  | nil => simp [mLook] at h
  | cons p l ih =>
    simp only [keysL, List.map_cons, List.nodup_cons] at hn
    simp only [mLook] at h
    by_cases hp : p.1 = (k1, k2)
    · have hnot : mLook l (k1, k2) = none := mLook_none.2 (by rw [← hp]; exact hn.1)
      have hd : delL (p :: l) (k1, k2) = l := by
        have : delL (p :: l) (k1, k2) = delL l (k1, k2) := by simp [delL, hp]
        rw [this, del_none hnot]
      rw [hd]
      have h1 : p.1.1 = k1 := by rw [hp]
      by_cases e : k1 = s
      · simp [icnt, h1, e]
      · simp [icnt, h1, e]
    · simp only [hp, if_false] at h
      have := ih hn.2 h
      have hd : delL (p :: l) (k1, k2) = p :: delL l (k1, k2) := by simp [delL, hp]
      rw [hd]
      by_cases e : p.1.1 = s
      · simp only [icnt, List.filter_cons, e, decide_true, if_true, List.length_cons] at this ⊢
        omega
      · simp only [icnt, List.filter_cons, e, decide_false, Bool.false_eq_true, if_false] at this ⊢
        omega
theorem delL_le (l : IL) (k : Int × Int) : (delL l k).length ≤ l.length := List.length_filter_le _ _
theorem icnt_pos {l : IL} {k1 k2 v : Int} (h : mLook l (k1, k2) = some v) : 1 ≤ icnt l k1 := by
  have hm := mLook_mem h
  have : ((k1, k2), v) ∈ l.filter fun p => decide (p.1.1 = k1) := List.mem_filter.2 ⟨hm, by simp⟩
  exact List.length_pos_of_mem this

theorem many_del {m : List (Int × Int)} {l : IL} {k1 k2 v : Int} (hn : (keysL l).Nodup) (h : mLook l (k1, k2) = some v) (he : ∀ s, manyOf m s = icnt l s) : ∀ s, manyOf (putL m k1 ((icnt l k1 : Int) - 1)) s = icnt (delL l (k1, k2)) s := by
  intro s
  rw [manyOf_put, icnt_del hn h]
  by_cases e : k1 = s
  · subst e; simp
  · simp [e, he]
theorem many_del0 {m : List (Int × Int)} {l : IL} {k1 : Int} (h0 : icnt l k1 = 0) (he : ∀ s, manyOf m s = icnt l s) : ∀ s, manyOf (delL m k1) s = icnt l s := by
  intro s
  rw [manyOf_del]
  by_cases e : k1 = s
  · subst e; simp [h0]
  · simp [e, he]

end Go.Proofs.YtdcjfaplgpeonaaGreat

/-
  The program's index: all keys of a symbol are struck (maps.DeleteFunc with a closure).
-/
namespace Go.Proofs.YtdcjfaplgpeonaaGreat
open Go.RowKit Go.Dm

def symOut (l : IL) (s : Int) : IL := l.filter fun p => decide (p.1.1 ≠ s)

def ClearRel (l : IL) (s : Int) (it m1 bx : Nat) (w : World) (n : Nat) (wr : World) : Prop :=
  ∃ l' todo : IL, IterAt kenc ienc wr it m1 l' todo ∧ todo.length < n ∧ symOut l' s = symOut l s ∧ (∀ p ∈ l', p.1.1 = s → p ∈ todo) ∧ wr.heap[bx]? = some (.cells #[.int .i64 s] 3 (0, 0)) ∧ Chg [m1] w wr ∧ w.heap.size ≤ it

theorem clearRel_keep {l' : IL} {s : Int} {k : Int × Int} {v : Int} {pre post : IL} (hall : ∀ p ∈ l', p.1.1 = s → p ∈ pre ++ (k, v) :: post) (hk : k.1 ≠ s) : ∀ p ∈ l', p.1.1 = s → p ∈ pre ++ post := by
  intro p hp e
  rcases List.mem_append.1 (hall p hp e) with h | h
  · exact List.mem_append_left _ h
  · rcases List.mem_cons.1 h with h | h
    · subst h; exact absurd e hk
    · exact List.mem_append_right _ h
theorem clearRel_strike {l' : IL} {s : Int} {k : Int × Int} {v : Int} {pre post : IL} (hall : ∀ p ∈ l', p.1.1 = s → p ∈ pre ++ (k, v) :: post) : ∀ p ∈ delL l' k, p.1.1 = s → p ∈ delL (pre ++ post) k := by
  intro p hp e
  have h1 := List.mem_filter.1 hp
  have hne : p.1 ≠ k := by simpa using h1.2
  refine List.mem_filter.2 ⟨?_, by simpa using hne⟩
  rcases List.mem_append.1 (hall p h1.1 e) with h | h
  · exact List.mem_append_left _ h
  · rcases List.mem_cons.1 h with h | h
    · subst h; exact absurd rfl hne
    · exact List.mem_append_right _ h
theorem symOut_del {l' : IL} {s : Int} {k : Int × Int} (hk : k.1 = s) : symOut (delL l' k) s = symOut l' s := by
  unfold symOut delL
  rw [List.filter_filter]
  refine List.filter_congr fun p _ => ?_
  by_cases e : p.1 = k
  · simp [e, hk]
  · simp [e]
theorem symOut_all {l' : IL} {s : Int} (h : ∀ p ∈ l', p.1.1 = s → p ∈ ([] : IL)) : symOut l' s = l' :=
  List.filter_eq_self.2 fun p hp => by
    have : p.1.1 ≠ s := fun e => by have := h p hp e; simp at this
    simp [this]

theorem icnt_out (l : IL) (s t : Int) : icnt (symOut l s) t = if s = t then 0 else icnt l t := by
  unfold icnt symOut
  rw [List.filter_filter]
  by_cases e : s = t
  · subst e
    rw [if_pos rfl, List.length_eq_zero_iff, List.filter_eq_nil_iff]
    intro p _
    simp
  · rw [if_neg e]
    congr 1
    refine List.filter_congr fun p _ => ?_
    by_cases h : p.1.1 = t
    · have : t ≠ s := fun h => e h.symm
      simp [h, this]
    · simp [h]

end Go.Proofs.YtdcjfaplgpeonaaGreat

/-
  The reference's index (a list of rows): what each of its functions does.
-/
namespace Go.Proofs.YtdcjfaplgpeonaaGreat
open Go.RowKit Go.Dm

def rowE (p : (Int × Int) × Int) : List Value := [.int .i64 p.1.1, .int .i64 p.1.2, .int .i64 p.2]
theorem rowR : REnc 3 rowE := ⟨fun _ => rfl, fun a u hu => by simp [rowE] at hu; rcases hu with rfl | rfl | rfl <;> rfl⟩
theorem rows_at {w : World} {g n c : Nat} {l : IL} (h : SlAt 78 3 rowE w (.slice (some ⟨g, 0, none⟩) n c) l) {k : Nat} {p : (Int × Int) × Int} (hp : l[k]? = some p) :
    w.cell? ⟨g, k * 3, none⟩ = some (.int .i64 p.1.1) ∧ w.cell? ⟨g, k * 3 + 1, none⟩ = some (.int .i64 p.1.2) ∧ w.cell? ⟨g, k * 3 + 2, none⟩ = some (.int .i64 p.2) :=
  ⟨h.at_ rowR hp (j := 0) (by omega), h.at_ rowR hp (j := 1) (by omega), h.at_ rowR hp (j := 2) (by omega)⟩
/-- The reference's index in block r: its rows. -/
def RAt (w : World) (r : Nat) (l : IL) : Prop := ∃ v, w.heap[r]? = some (.cells #[v] 29 (0, 0)) ∧ SlAt 78 3 rowE w v l

theorem RAt.lt {w : World} {r : Nat} {l : IL} (h : RAt w r l) : r < w.heap.size := by obtain ⟨v, h, _⟩ := h; exact blk_lt h
theorem RAt.chg {w w' : World} {r : Nat} {l : IL} {S : List Nat} (h : RAt w r l) (hc : Chg S w w') (h0 : r ∉ S) (h1 : ∀ k ∈ S, w.heap.size ≤ k ∨ ∃ o, w.heap[k]? = some o ∧ ∀ cs, o ≠ .cells cs 78 (0, 0)) : RAt w' r l := by
  obtain ⟨v, h, hs⟩ := h
  refine ⟨v, hc.at_ h h0, hs.chg hc fun g hg hm => ?_⟩
  obtain ⟨cur, hcur⟩ := hs.typed hg
  rcases h1 g hm with h | ⟨o, ho, hne⟩
  · have := hs.lt hg; omega
  · rw [hcur] at ho; cases ho; exact hne _ rfl

def idxOf (l : IL) (k : Int × Int) : Option Nat := l.findIdx? (fun p => decide (p.1 = k))
def idxI (l : IL) (k : Int × Int) : Int := match idxOf l k with | some i => i | none => -1

theorem idxI_at {l : IL} {k : Nat} {q : Int × Int} {sl : Int} (h : l[k]? = some (q, sl)) (hno : ∀ j, j < k → ∀ p, l[j]? = some p → p.1 ≠ q) : idxI l q = k := by
  have : idxOf l q = some k := by
    unfold idxOf
    rw [List.findIdx?_eq_some_iff_getElem]
    obtain ⟨hlt, he⟩ := List.getElem?_eq_some_iff.1 h
    refine ⟨hlt, by simp [he], fun j hj => ?_⟩
    have := hno j hj (l[j]) (by simp)
    simpa using this
  simp [idxI, this]
theorem idxI_none {l : IL} {q : Int × Int} (hno : ∀ (j : Nat) (p : (Int × Int) × Int), l[j]? = some p → p.1 ≠ q) : idxI l q = -1 := by
  have : idxOf l q = none := by
    unfold idxOf
    rw [List.findIdx?_eq_none_iff]
    intro p hp
    obtain ⟨j, hj⟩ := List.mem_iff_getElem?.1 hp
    simpa using hno j p hj
  simp [idxI, this]
theorem not_more {l : IL} {k : Nat} {q : Int × Int} {p0 : (Int × Int) × Int} (hno : ∀ j, j < k → ∀ p, l[j]? = some p → p.1 ≠ q) (h : l[k]? = some p0) (hne : p0.1 ≠ q) : ∀ j, j < k + 1 → ∀ p, l[j]? = some p → p.1 ≠ q := by
  intro j hj p hp
  by_cases e : j = k
  · subst e; rw [h] at hp; cases hp; exact hne
  · exact hno j (by omega) p hp

theorem idx_look (l : IL) (q : Int × Int) (hn : (keysL l).Nodup) : (mLook l q = none ∧ idxI l q = -1) ∨ ∃ (k : Nat) (sl : Int), mLook l q = some sl ∧ idxI l q = k ∧ l[k]? = some (q, sl) ∧ k < l.length := by
  cases h : idxOf l q with
  | none =>
    refine .inl ⟨mLook_none.2 fun hm => ?_, by simp [idxI, h]⟩
    obtain ⟨p, hp, rfl⟩ := List.mem_map.1 hm
    have := List.findIdx?_eq_none_iff.1 h p hp
    simp at this
  | some k =>
    obtain ⟨hlt, he, _⟩ := List.findIdx?_eq_some_iff_getElem.1 h
    have he' : l[k].1 = q := by simpa using he
    have hk : l[k]? = some (q, l[k].2) := by rw [← he']; exact List.getElem?_eq_getElem hlt
    exact .inr ⟨k, l[k].2, mLook_at hn hk, by simp [idxI, h], hk, hlt⟩

theorem delL_cut {l : IL} {q : Int × Int} {k : Nat} {sl : Int} (hn : (keysL l).Nodup) (h : l[k]? = some (q, sl)) : [] ++ l.take k ++ l.drop (k + 1) = delL l q := by
  rw [← eraseIdx_del hn h, List.nil_append, List.eraseIdx_eq_take_drop_succ]

end Go.Proofs.YtdcjfaplgpeonaaGreat

/-
  The reference's index: Drop of a key that is there.
-/
namespace Go.Proofs.YtdcjfaplgpeonaaGreat
open Go.RowKit Go.Dm

end Go.Proofs.YtdcjfaplgpeonaaGreat

/-
  The reference's index: Clear.
-/
namespace Go.Proofs.YtdcjfaplgpeonaaGreat
open Go.RowKit Go.Dm

theorem take_succ' {α : Type} {l : List α} {k : Nat} {p : α} (h : l[k]? = some p) : l.take (k + 1) = l.take k ++ [p] := by
  rw [List.take_add_one, h]; rfl
theorem symOut_snoc (l : IL) (p : (Int × Int) × Int) (s : Int) : symOut (l ++ [p]) s = if p.1.1 = s then symOut l s else symOut l s ++ [p] := by
  unfold symOut
  rw [List.filter_append]
  by_cases e : p.1.1 = s <;> simp [e]
theorem icnt_snoc (l : IL) (p : (Int × Int) × Int) (s : Int) : icnt (l ++ [p]) s = icnt l s + if p.1.1 = s then 1 else 0 := by
  obtain ⟨⟨a, b⟩, c⟩ := p
  exact icnt_app l a b c s

def RClearRel (l : IL) (s : Int) (w : World) (n : Nat) (rest cnt i : Value) (wr : World) : Prop :=
  ∃ k : Nat, k ≤ l.length ∧ n = l.length - k + 1 ∧ i = .int .i64 k ∧ cnt = .int .i64 (icnt (l.take k) s) ∧ SlAt 78 3 rowE wr rest (symOut (l.take k) s) ∧ Fresh w.heap.size rest ∧ Chg [] w wr

end Go.Proofs.YtdcjfaplgpeonaaGreat

/-
  The reference's index: Of (a symbol's rows, by IDs).
-/
namespace Go.Proofs.YtdcjfaplgpeonaaGreat
open Go.RowKit Go.Dm

abbrev IP := (Int × Int) × Int
def lower (d : Int) (q : IP) : Bool := decide (q.1.2 < d)
def insRow (out : IL) (p : IP) : IL := out.takeWhile (lower p.1.2) ++ p :: out.dropWhile (lower p.1.2)
def ofL (l : IL) (s : Int) : IL := l.foldl (fun out p => if p.1.1 = s then insRow out p else out) []

theorem ofL_snoc (l : IL) (p : IP) (s : Int) : ofL (l ++ [p]) s = if p.1.1 = s then insRow (ofL l s) p else ofL l s := by
  unfold ofL; rw [List.foldl_append]; rfl
theorem insRow_length (out : IL) (p : IP) : (insRow out p).length = out.length + 1 := by
  have := congrArg List.length (List.takeWhile_append_dropWhile (p := lower p.1.2) (l := out))
  simp only [insRow, List.length_append, List.length_cons] at this ⊢
  omega
theorem ofL_length (l : IL) (s : Int) : (ofL l s).length = icnt l s := by
  have : ∀ (l acc : IL), (l.foldl (fun out p => if p.1.1 = s then insRow out p else out) acc).length = acc.length + icnt l s := by
    intro l
    induction l with
    | nil => intro acc; simp [icnt]
    | cons p l ih =>
      intro acc
      rw [List.foldl_cons, ih]
      by_cases e : p.1.1 = s
      · rw [if_pos e, insRow_length]; simp [icnt, e]; omega
      · rw [if_neg e]; simp [icnt, e]
  have h := this l []
  rw [List.length_nil, Nat.zero_add] at h
  exact h
theorem cut_at {out : IL} {d : Int} {k : Nat} (hk : k ≤ out.length) (h1 : ∀ j, j < k → ∀ q, out[j]? = some q → lower d q = true) (h2 : ∀ q, out[k]? = some q → lower d q = false) :
    out.take k = out.takeWhile (lower d) ∧ out.drop k = out.dropWhile (lower d) := by
  induction out generalizing k with
  | nil => have : k = 0 := by simpa using hk
           subst this; simp
  | cons q out ih =>
    cases k with
    | zero =>
      have := h2 q (by simp)
      simp [this]
    | succ k =>
      have h0 := h1 0 (by omega) q (by simp)
      obtain ⟨i1, i2⟩ := ih (k := k) (by simpa using hk) (fun j hj q' hq' => h1 (j + 1) (by omega) q' (by simpa using hq')) (fun q' hq' => h2 q' (by simpa using hq'))
      simp [h0, i1, i2]

theorem low_more {O : IL} {d : Int} {j : Nat} {q0 : IP} (h : ∀ x, x < j → ∀ q, O[x]? = some q → lower d q = true) (h0 : O[j]? = some q0) (hl : lower d q0 = true) : ∀ x, x < j + 1 → ∀ q, O[x]? = some q → lower d q = true := by
  intro x hx q hq
  by_cases e : x = j
  · subst e; rw [h0] at hq; cases hq; exact hl
  · exact h x (by omega) q hq
def OfRel (l : IL) (s : Int) (w : World) (n : Nat) (out i : Value) (wr : World) : Prop :=
  ∃ k : Nat, k ≤ l.length ∧ n = l.length - k + 1 ∧ i = .int .i64 k ∧ SlAt 78 3 rowE wr out (ofL (l.take k) s) ∧ Fresh w.heap.size out ∧ Chg [] w wr

end Go.Proofs.YtdcjfaplgpeonaaGreat

/-
  The law's own functions over the index: the chapter's example; one act on both.
-/
namespace Go.Proofs.YtdcjfaplgpeonaaGreat
open Go.RowKit Go.Dm

end Go.Proofs.YtdcjfaplgpeonaaGreat

/-
  The law's act: one act on the program's index and on the reference's.
-/
namespace Go.Proofs.YtdcjfaplgpeonaaGreat
open Go.RowKit Go.Dm

/-- Both hold the same list. -/
structure Both (w : World) (x m1 m2 r : Nat) (l : IL) : Prop where
  ix : XAt w x m1 m2 l
  rf : RAt w r l
theorem Both.chg {w w' : World} {x m1 m2 r : Nat} {l : IL} (h : Both w x m1 m2 r l) (hC : Chg [] w w') : Both w' x m1 m2 r l :=
  ⟨h.ix.chg hC (by simp) (by simp) (by simp), h.rf.chg hC (by simp) (by simp)⟩
theorem isMap {w : World} {m : Nat} {κ ν : Type} {enc : κ → Value} {venc : ν → Value} {l : List (κ × ν)} (h : MapAt enc venc w m l) {b : Nat} {cs : Array Value} {t : Nat} {fr : Nat × Nat} (hb : w.heap[b]? = some (.cells cs t fr)) : b ≠ m := by
  intro e; subst e; obtain ⟨_, _, h, _⟩ := h; rw [hb] at h; cases h
theorem XAt.not_in {w : World} {x m1 m2 : Nat} {l : IL} (h : XAt w x m1 m2 l) {b : Nat} {cs : Array Value} {t : Nat} {fr : Nat × Nat} (hb : w.heap[b]? = some (.cells cs t fr)) : b ∉ [m1, m2] := by
  obtain ⟨m, hm, _⟩ := h.many
  have h1 := isMap h.ents hb
  have h2 := isMap hm hb
  simp [h1, h2]
/-- The reference is left alone by what turns the index's two maps. -/
theorem RAt.chgX {w w' : World} {x m1 m2 r : Nat} {l l' : IL} (h : RAt w r l') (hx : XAt w x m1 m2 l) (hC : Chg [m1, m2] w w') : RAt w' r l' := by
  obtain ⟨v, hb, hs⟩ := h
  have hn := hx.not_in hb
  refine ⟨v, hC.at_ hb hn, hs.chg hC fun g hg => ?_⟩
  obtain ⟨cur, hcur⟩ := hs.typed hg
  exact hx.not_in hcur
theorem XAt.chgR {w w' : World} {x m1 m2 r : Nat} {l l' : IL} (h : XAt w x m1 m2 l) (hr : RAt w r l') (hC : Chg [r] w w') : XAt w' x m1 m2 l := by
  obtain ⟨v, hb, hs⟩ := hr
  have hn := h.not_in hb
  have hx : x ≠ r := fun e => by have := h.blk; rw [e, hb] at this; cases this
  simp only [List.mem_cons, List.not_mem_nil, or_false, not_or] at hn
  exact h.chg hC (by simpa using hx) (by simpa using fun e => hn.1 e.symm) (by simpa using fun e => hn.2 e.symm)

def stepL (l : IL) (kind s sl d : Int) : IL :=
  if kind = 0 then (if (mLook l (s, d)).isSome then l else l ++ [((s, d), sl)])
  else if kind = 1 then l
  else if kind = 2 then delL l (s, d)
  else symOut l s

theorem blk4 {w : World} {b : Nat} {u0 u1 u2 u3 : Value} {t : TypeId} {fr : Nat × Nat} (h : w.heap[b]? = some (.cells #[u0, u1, u2, u3] t fr)) :
    w.cell? ⟨b, 0, none⟩ = some u0 ∧ w.cell? ⟨b, 1, none⟩ = some u1 ∧ w.cell? ⟨b, 2, none⟩ = some u2 ∧ w.cell? ⟨b, 3, none⟩ = some u3 := by
  simp [World.cell?, h]
/-- Behind the boxes of the act and of the key. -/
structure Boxed2 (w : World) (b5 b7 : Nat) (kd s sl d : Int) : Prop where
  a5 : w.heap[b5]? = some (.cells #[.int .i64 kd, .int .i64 s, .int .i64 sl, .int .i64 d] 32 (0, 0))
  a7 : w.heap[b7]? = some (.cells #[.int .i64 s, .int .i64 d] 37 (0, 0))
theorem Boxed2.new (w : World) (kd s sl d : Int) : Boxed2 ((w.alloc (.cells #[.int .i64 kd, .int .i64 s, .int .i64 sl, .int .i64 d] 32)).alloc (.cells #[.int .i64 s, .int .i64 d] 37)) w.heap.size (w.heap.size + 1) kd s sl d :=
  ⟨(Chg.alloc [] _ _).at_ (heap_alloc_new w _) (by simp), by
    have := heap_alloc_new (w.alloc (.cells #[.int .i64 kd, .int .i64 s, .int .i64 sl, .int .i64 d] 32)) (.cells #[.int .i64 s, .int .i64 d] 37)
    simpa using this⟩
theorem Boxed2.chg {w w' : World} {b5 b7 : Nat} {kd s sl d : Int} {S : List Nat} (h : Boxed2 w b5 b7 kd s sl d) (hC : Chg S w w') (h5 : b5 ∉ S) (h7 : b7 ∉ S) : Boxed2 w' b5 b7 kd s sl d := ⟨hC.at_ h.a5 h5, hC.at_ h.a7 h7⟩
theorem Boxed2.chgX {w w' : World} {b5 b7 x m1 m2 : Nat} {kd s sl d : Int} {l : IL} (h : Boxed2 w b5 b7 kd s sl d) (hx : XAt w x m1 m2 l) (hC : Chg [m1, m2] w w') : Boxed2 w' b5 b7 kd s sl d :=
  h.chg hC (hx.not_in h.a5) (hx.not_in h.a7)
theorem Boxed2.chgR {w w' : World} {b5 b7 r : Nat} {kd s sl d : Int} {l : IL} (h : Boxed2 w b5 b7 kd s sl d) (hr : RAt w r l) (hC : Chg [r] w w') : Boxed2 w' b5 b7 kd s sl d := by
  obtain ⟨v, hb, _⟩ := hr
  have n5 : b5 ≠ r := fun e => by have := h.a5; rw [e, hb] at this; cases this
  have n7 : b7 ≠ r := fun e => by have := h.a7; rw [e, hb] at this; cases this
  exact h.chg hC (by simpa using n5) (by simpa using n7)
def Cells2 (w : World) (b5 b7 : Nat) (kd s sl d : Int) : Prop :=
  w.cell? ⟨b5, 0, none⟩ = some (.int .i64 kd) ∧ w.cell? ⟨b5, 1, none⟩ = some (.int .i64 s) ∧ w.cell? ⟨b5, 2, none⟩ = some (.int .i64 sl) ∧ w.cell? ⟨b5, 3, none⟩ = some (.int .i64 d) ∧
    w.cell? ⟨b7, 0, none⟩ = some (.int .i64 s) ∧ w.cell? ⟨b7, 1, none⟩ = some (.int .i64 d)
theorem Boxed2.cells {w : World} {b5 b7 : Nat} {kd s sl d : Int} (h : Boxed2 w b5 b7 kd s sl d) : Cells2 w b5 b7 kd s sl d :=
  ⟨(blk4 h.a5).1, (blk4 h.a5).2.1, (blk4 h.a5).2.2.1, (blk4 h.a5).2.2.2, (blk2 h.a7).1, (blk2 h.a7).2⟩

end Go.Proofs.YtdcjfaplgpeonaaGreat

/-
  The law's act, kind by kind. (Printed by gen_act.py.)
-/
namespace Go.Proofs.YtdcjfaplgpeonaaGreat
open Go.RowKit Go.Dm

theorem put_old' (w : World) (x m1 m2 : Nat) (l : IL) (h : XAt w x m1 m2 l) (k1 k2 v : Int) (hk : (mLook l (k1, k2)).isSome = true) :
    Calls Tryz.prog 55 #[.pointer (some ⟨x, 0, none⟩), .agg #[.int .i64 k1, .int .i64 k2], .int .i64 v] w fun e w' => e = .returned (.bool false) ∧ XAt w' x m1 m2 l ∧ Chg [m1, m2] w w' :=
  (put_old w x m1 m2 l h k1 k2 v hk).mono fun _ _ ⟨h1, h2⟩ => ⟨h1, h.chg h2 (by simp) (by simp) (by simp), h2.nil⟩
end Go.Proofs.YtdcjfaplgpeonaaGreat

/-
  The law IndexPlays, walked.
-/
namespace Go.Proofs.YtdcjfaplgpeonaaGreat
open Go.RowKit Go.Dm

structure Act12 where
  kd : Int
  s : Int
  sl : Int
  d : Int

/-- The acts that came in lie in memory. -/
def ActsAt (w : World) (A : Option Addr) (acts : List Act12) : Prop :=
  acts = [] ∨ ∃ b off, A = some ⟨b, off, none⟩ ∧ b < w.heap.size ∧ ∀ i p, acts[i]? = some p →
    w.cell? ⟨b, off + i * 4, none⟩ = some (.int .i64 p.kd) ∧ w.cell? ⟨b, off + i * 4 + 1, none⟩ = some (.int .i64 p.s) ∧ w.cell? ⟨b, off + i * 4 + 2, none⟩ = some (.int .i64 p.sl) ∧ w.cell? ⟨b, off + i * 4 + 3, none⟩ = some (.int .i64 p.d)

theorem stepL_len (l : IL) (kd s sl d : Int) : (stepL l kd s sl d).length ≤ l.length + 1 := by
  unfold stepL
  have h1 := delL_le l (s, d)
  have h2 : (symOut l s).length ≤ l.length := List.length_filter_le _ _
  split
  · split <;> simp
  · split
    · omega
    · split <;> omega

def PlaysRel (acts : List Act12) (w : World) (x m1 m2 r : Nat) (n : Nat) (i : Value) (wr : World) : Prop :=
  ∃ (k : Nat) (l : IL), k ≤ acts.length ∧ n = acts.length - k + 1 ∧ i = .int .i64 k ∧ l.length ≤ k ∧ Both wr x m1 m2 r l ∧ Chg [] w wr

end Go.Proofs.YtdcjfaplgpeonaaGreat
