/-
  The program's index (package index): its maps as one list of keys with their slots; what each of its functions does to it.
-/
import Derived.Deep.LoopGhost
import Derived.Deep.RegionLaw
import Derived.Deep.DeepMust
import Derived.Deep.CutBlock
import Derived.Deep.DeepCutAuto
import Derived.Test.YtdcjfaplgpeonaaRows
import Derived.Test.YtdcjfaplgpeonaaQ1
namespace Go.Proofs.Ytdcjfaplgpeonaa
open Go.RowKit Go.Dm

def kenc (k : Int × Int) : Value := .agg #[.int .i64 k.1, .int .i64 k.2]

theorem key_eq (w : World) (a b : Int × Int) : (Op.equal 37 (kenc a) (kenc b)).run Try.prog w = .ok (decide (a = b)) w := by
  obtain ⟨a1, a2⟩ := a
  obtain ⟨b1, b2⟩ := b
  unfold Op.equal Op.maxDepth kenc
  have h3 := Try.underlying3
  have h2 := Try.underlying2
  rw [run_equalIn_agg _ 9999 37 _ _ (by kernel_rfl) (by kernel_rfl)]
  go_simp
  by_cases h : a1 = b1 <;> by_cases h' : a2 = b2 <;> simp [h, h']
theorem key_check (w : World) (em : Bool) (k : Int × Int) : (Instr.checkKey em 10000 37 (kenc k)).run Try.prog w = .ok () w := by
  obtain ⟨a1, a2⟩ := k
  unfold kenc
  kernel_rfl
theorem key_stays (w : World) (k : Int × Int) : (Instr.keyThatStays (kenc k) (kenc k)).run Try.prog w = .ok (kenc k) w := by
  obtain ⟨a1, a2⟩ := k
  simp [Instr.keyThatStays, Instr.sameBits, kenc]
theorem MK : MKey Try.prog 37 kenc := mkey_asking Try.underlying37 (fun _ _ => rfl) key_eq key_check key_stays
def ienc (n : Int) : Value := .int .i64 n
theorem MI : MKey Try.prog 3 ienc := mkey_int Try.underlying3
theorem z3 (w : World) : (zeroValue 3).run Try.prog w = .ok (.int .i64 0) w := by kernel_rfl

abbrev IL := List ((Int × Int) × Int)
def icnt (l : IL) (s : Int) : Nat := (l.filter fun p => decide (p.1.1 = s)).length

def manyOf (m : List (Int × Int)) (s : Int) : Int := (mLook m s).getD 0

structure XAt (w : World) (x m1 m2 : Nat) (l : IL) : Prop where
  blk : w.heap[x]? = some (.cells #[.map (some m1), .map (some m2)] 106 (0, 0))
  ents : MapAt kenc ienc w m1 l
  many : ∃ m : List (Int × Int), MapAt ienc ienc w m2 m ∧ ∀ s, manyOf m s = icnt l s
  ne : m1 ≠ m2

theorem XAt.ne1 {w : World} {x m1 m2 : Nat} {l : IL} (h : XAt w x m1 m2 l) : x ≠ m1 := by
  obtain ⟨es, c, hb, _⟩ := h.ents
  intro e; subst e; rw [h.blk] at hb; cases hb
theorem XAt.ne2 {w : World} {x m1 m2 : Nat} {l : IL} (h : XAt w x m1 m2 l) : x ≠ m2 := by
  obtain ⟨m, ⟨es, c, hb, _⟩, _⟩ := h.many
  intro e; subst e; rw [h.blk] at hb; cases hb
theorem XAt.chg {w w' : World} {x m1 m2 : Nat} {l : IL} {S : List Nat} (h : XAt w x m1 m2 l) (hc : Chg S w w') (h0 : x ∉ S) (h1 : m1 ∉ S) (h2 : m2 ∉ S) : XAt w' x m1 m2 l :=
  ⟨hc.at_ h.blk h0, h.ents.chg hc h1, by obtain ⟨m, hm, e⟩ := h.many; exact ⟨m, hm.chg hc h2, e⟩, h.ne⟩
theorem XAt.lt {w : World} {x m1 m2 : Nat} {l : IL} (h : XAt w x m1 m2 l) : x < w.heap.size := (Array.getElem?_eq_some_iff.1 h.blk).1
theorem XAt.c0 {w : World} {x m1 m2 : Nat} {l : IL} (h : XAt w x m1 m2 l) : w.cell? ⟨x, 0, none⟩ = some (.map (some m1)) := by simp [World.cell?, h.blk]
theorem XAt.c1 {w : World} {x m1 m2 : Nat} {l : IL} (h : XAt w x m1 m2 l) : w.cell? ⟨x, 1, none⟩ = some (.map (some m2)) := by simp [World.cell?, h.blk]

theorem found_i (o : Option Int) : found ienc (.int .i64 0) o = .int .i64 (o.getD 0) := by cases o <;> rfl

set_option maxHeartbeats 400000 in
theorem get_any (w : World) (x m1 m2 : Nat) (l : IL) (h : XAt w x m1 m2 l) (k1 k2 : Int) :
    Calls Try.prog 21 #[.pointer (some ⟨x, 0, none⟩), .agg #[.int .i64 k1, .int .i64 k2]] w fun e w' =>
      e = .returned (.tuple #[.int .i64 ((mLook l (k1, k2)).getD 0), .bool (mLook l (k1, k2)).isSome]) ∧ Chg [] w w' := by
  have c0 := h.c0
  have hx := h.lt
  have hl := fun n => (h.ents.chg ((Chg.alloc [] w (.cells #[.int .i64 k1, .int .i64 k2] 37)).trans (Chg.drewN _ _ n)) (by simp)).lookup MK Try.underlying103 z3 (k1, k2) true
  simp only [kenc, found_i, if_true] at hl
  go_enter Try.func21, Try.ntmps21
  go_wp2
  go_quiet (fail)
  go_wp2
  go_ret2
  exact ⟨rfl, (Chg.alloc _ _ _).trans (Chg.drewN _ _ _)⟩

set_option maxHeartbeats 400000 in
theorem len_any (w : World) (x m1 m2 : Nat) (l : IL) (h : XAt w x m1 m2 l) (s : Int) :
    Calls Try.prog 16 #[.pointer (some ⟨x, 0, none⟩), .int .i64 s] w fun e w' => e = .returned (.int .i64 (icnt l s)) ∧ w = w' := by
  have c1 := h.c1
  obtain ⟨m, hm, he⟩ := h.many
  have hl := hm.lookup MI Try.underlying104 z3 s false
  have he := he s
  unfold manyOf at he
  simp only [ienc, found_i, he, Bool.false_eq_true, if_false] at hl
  clear he
  go_enter Try.func16, Try.ntmps16
  go_wp2
  go_ret
  exact ⟨rfl, rfl⟩


theorem icnt_app (l : IL) (k1 k2 v s : Int) : icnt (l ++ [((k1, k2), v)]) s = icnt l s + if k1 = s then 1 else 0 := by
  simp only [icnt, List.filter_append, List.length_append]
  by_cases e : k1 = s <;> simp [e]
theorem icnt_le (l : IL) (s : Int) : icnt l s ≤ l.length := List.length_filter_le _ _

theorem manyOf_put (m : List (Int × Int)) (s c t : Int) : manyOf (putL m s c) t = if s = t then c else manyOf m t := by
  unfold manyOf
  rw [mLook_put]
  by_cases e : s = t <;> simp [e]
theorem manyOf_del (m : List (Int × Int)) (s t : Int) : manyOf (delL m s) t = if s = t then 0 else manyOf m t := by
  unfold manyOf
  rw [mLook_del]
  by_cases e : s = t <;> simp [e]
theorem many_put {m : List (Int × Int)} {l : IL} {k1 k2 v : Int} (he : ∀ s, manyOf m s = icnt l s) : ∀ s, manyOf (putL m k1 ((icnt l k1 : Int) + 1)) s = icnt (l ++ [((k1, k2), v)]) s := by
  intro s
  rw [manyOf_put, icnt_app]
  by_cases e : k1 = s
  · subst e; simp
  · simp [e, he]

set_option maxRecDepth 100000 in
set_option maxHeartbeats 400000 in
theorem put_new (w : World) (x m1 m2 : Nat) (l : IL) (h : XAt w x m1 m2 l) (k1 k2 v : Int) (hk : mLook l (k1, k2) = none) (hlen : l.length ≤ 1000) :
    Calls Try.prog 18 #[.pointer (some ⟨x, 0, none⟩), .agg #[.int .i64 k1, .int .i64 k2], .int .i64 v] w fun e w' =>
      e = .returned (.bool true) ∧ XAt w' x m1 m2 (l ++ [((k1, k2), v)]) ∧ Chg [m1, m2] w w' := by
  have c0 := h.c0
  have hx := h.lt
  have hl := fun n => (h.ents.chg ((Chg.alloc [] w (.cells #[.int .i64 k1, .int .i64 k2] 37)).trans (Chg.drewN _ _ n)) (by simp)).lookup MK Try.underlying103 z3 (k1, k2) true
  simp only [kenc, found_i, if_true, hk, Option.getD_none, Option.isSome_none] at hl
  have hput : putL l (k1, k2) v = l ++ [((k1, k2), v)] := by simp [putL, hk]
  have Hput := Lib.hid hput
  clear hput
  go_enter Try.func18, Try.ntmps18
  go_wp2
  go_quiet (fail)
  go_wp2
  clear hl c0
  refine wp_tail 6 (by kernel_rfl) (by kernel_rfl) ?_
  intro W hW
  have hC : Chg [] w W := ((Chg.alloc [] w _).trans (Chg.drewN _ _ _)).trans hW
  have h2 : XAt W x m1 m2 l := h.chg hC (by simp) (by simp) (by simp)
  have b2 := hW.at_ (o := .cells #[.int .i64 k1, .int .i64 k2] 37) (b := w.heap.size) (by exact heap_alloc_new w _) (by simp)
  clear hW
  have c0 := h2.c0
  obtain ⟨d0, d1⟩ := blk2 b2
  simp only [List.take_succ_cons, List.take_zero, List.drop_succ_cons, List.drop_zero]
  repeat still_step
  refine wpStill_nil ?_
  refine wpL_update rfl _ _ _ 103 rfl MK Try.underlying103 h2.ents (k1, k2) v rfl rfl rfl ?_
  intro W2 e2 hC2 _
  rw [Hput.out] at e2
  have hC3 : Chg [m1] w W2 := (hC.mono (by simp)).trans hC2
  have hne : m1 ≠ w.heap.size := fun e => by have := h.ents.lt; omega
  have b3 := hC2.at_ b2 (by simp; omega)
  have blk3 := hC2.at_ h2.blk (by simp; exact h2.ne1)
  obtain ⟨m, hm, he⟩ := h2.many
  have hm3 := hm.chg hC2 (by simp; exact h2.ne.symm)
  have hle := icnt_le l k1
  have hne2 := h.ne
  have hne3 := h.ne2
  have hne1 := h.ne1
  clear hC hC2 h2 b2 c0 d0 d1 hm h
  go_wp2
  refine wp_tail 8 (by kernel_rfl) (by kernel_rfl) ?_
  intro W4 hW4
  have hC4 : Chg [m1] w W4 := hC3.trans (hW4.mono (by simp))
  have e4 := e2.chg hW4 (by simp)
  have hm4 := hm3.chg hW4 (by simp)
  have b4 := hW4.at_ b3 (by simp)
  have blk4 := hW4.at_ blk3 (by simp)
  clear hC3 hW4 e2 hm3 b3 blk3
  have c1 := (blk2 blk4).2
  obtain ⟨d0, d1⟩ := blk2 b4
  have hl := hm4.lookup MI Try.underlying104 z3 k1 false
  have he1 := he k1
  unfold manyOf at he1
  simp only [ienc, found_i, he1, Bool.false_eq_true, if_false] at hl
  clear he1
  simp only [List.take_succ_cons, List.take_zero, List.drop_succ_cons, List.drop_zero]
  repeat still_step
  refine wpStill_nil ?_
  refine wpL_update rfl _ _ _ 104 rfl MI Try.underlying104 hm4 k1 ((icnt l k1 : Int) + 1) rfl rfl (wrapV rfl (by omega) (by omega)) ?_
  intro W5 m5 hC5 _
  have hX : XAt W5 x m1 m2 (l ++ [((k1, k2), v)]) := ⟨hC5.at_ blk4 (by simp; exact hne3), e4.chg hC5 (by simp; exact hne2), ⟨_, m5, many_put he⟩, hne2⟩
  have hCf : Chg [m1, m2] w W5 := (hC4.mono (by simp)).trans (hC5.mono (by simp))
  clear hC5 m5 hC4 e4 hm4 b4 blk4 c1 d0 d1 hl he
  go_wp2
  go_ret
  exact ⟨rfl, hX, hCf⟩

set_option maxHeartbeats 400000 in
theorem put_old (w : World) (x m1 m2 : Nat) (l : IL) (h : XAt w x m1 m2 l) (k1 k2 v : Int) (hk : (mLook l (k1, k2)).isSome = true) :
    Calls Try.prog 18 #[.pointer (some ⟨x, 0, none⟩), .agg #[.int .i64 k1, .int .i64 k2], .int .i64 v] w fun e w' =>
      e = .returned (.bool false) ∧ Chg [] w w' := by
  have c0 := h.c0
  have hx := h.lt
  have hl := fun n => (h.ents.chg ((Chg.alloc [] w (.cells #[.int .i64 k1, .int .i64 k2] 37)).trans (Chg.drewN _ _ n)) (by simp)).lookup MK Try.underlying103 z3 (k1, k2) true
  simp only [kenc, found_i, if_true, hk] at hl
  go_enter Try.func18, Try.ntmps18
  go_wp2
  go_quiet (fail)
  go_wp2
  go_ret
  exact ⟨rfl, (Chg.alloc _ _ _).trans (Chg.drewN _ _ _)⟩

set_option maxHeartbeats 400000 in
theorem put_nil (w : World) (k1 k2 v : Int) :
    Calls Try.prog 18 #[.pointer none, .agg #[.int .i64 k1, .int .i64 k2], .int .i64 v] w fun e w' => e = .returned (.bool false) ∧ Chg [] w w' := by
  go_enter Try.func18, Try.ntmps18
  go_wp2
  go_ret
  exact ⟨rfl, Chg.alloc _ _ _⟩

set_option maxHeartbeats 400000 in
theorem get_nil (w : World) (k1 k2 : Int) :
    Calls Try.prog 21 #[.pointer none, .agg #[.int .i64 k1, .int .i64 k2]] w fun e w' => e = .returned (.tuple #[.int .i64 0, .bool false]) ∧ Chg [] w w' := by
  go_enter Try.func21, Try.ntmps21
  go_wp2
  go_ret2
  exact ⟨rfl, Chg.alloc _ _ _⟩

set_option maxHeartbeats 400000 in
theorem len_nil (w : World) (s : Int) :
    Calls Try.prog 16 #[.pointer none, .int .i64 s] w fun e w' => e = .returned (.int .i64 0) ∧ w = w' := by
  go_enter Try.func16, Try.ntmps16
  go_wp2
  go_ret
  exact ⟨rfl, rfl⟩

set_option maxHeartbeats 400000 in
theorem drop_nil (w : World) (k1 k2 : Int) :
    Calls Try.prog 19 #[.pointer none, .agg #[.int .i64 k1, .int .i64 k2]] w fun e w' => e = .returned (.bool false) ∧ Chg [] w w' := by
  go_enter Try.func19, Try.ntmps19
  go_wp2_with fail
  refine (get_nil _ _ _).mono ?_
  rintro e w' ⟨rfl, hC⟩
  have hC2 : Chg [] w w' := (Chg.alloc _ _ _).trans hC
  clear hC
  go_wp2
  go_ret
  exact ⟨rfl, hC2⟩

set_option maxHeartbeats 400000 in
theorem drop_no (w : World) (x m1 m2 : Nat) (l : IL) (h : XAt w x m1 m2 l) (k1 k2 : Int) (hk : mLook l (k1, k2) = none) :
    Calls Try.prog 19 #[.pointer (some ⟨x, 0, none⟩), .agg #[.int .i64 k1, .int .i64 k2]] w fun e w' =>
      e = .returned (.bool false) ∧ Chg [] w w' := by
  have hg := get_any _ x m1 m2 l (h.chg (Chg.alloc [] w (.cells #[.int .i64 k1, .int .i64 k2] 37)) (by simp) (by simp) (by simp)) k1 k2
  rw [hk] at hg
  go_enter Try.func19, Try.ntmps19
  go_wp2_with fail
  refine hg.mono ?_
  rintro e w' ⟨rfl, hC⟩
  have hC2 : Chg [] w w' := (Chg.alloc _ _ _).trans hC
  clear hC hg
  go_wp2
  go_ret
  exact ⟨rfl, hC2⟩

set_option maxHeartbeats 400000 in
/-- A new index. -/
theorem new_any (w : World) :
    Calls Try.prog 14 #[] w fun e w' => ∃ x m1 m2, e = .returned (.pointer (some ⟨x, 0, none⟩)) ∧ XAt w' x m1 m2 [] ∧ Chg [] w w' ∧ w.heap.size ≤ x ∧ w.heap.size ≤ m1 ∧ w.heap.size ≤ m2 := by
  have hmm := @run_makeMap Try.prog
  go_enter Try.func14, Try.ntmps14
  go_wp2
  go_ret
  have hA : Chg [] w ((w.alloc (Obj.map #[] 0)).alloc (Obj.map #[] 0)) := (Chg.alloc _ _ _).trans (Chg.alloc _ _ _)
  have hs : (w.alloc (Obj.map #[] 0)).heap.size = w.heap.size + 1 := by simp
  have hs2 : ((w.alloc (Obj.map #[] 0)).alloc (Obj.map #[] 0)).heap.size = w.heap.size + 1 + 1 := by simp
  have e1 : MapAt kenc ienc (w.alloc (Obj.map #[] 0)) w.heap.size ([] : IL) := MapAt.new w
  have e2 : MapAt ienc ienc ((w.alloc (Obj.map #[] 0)).alloc (Obj.map #[] 0)) (w.heap.size + 1) ([] : List (Int × Int)) := by
    have := MapAt.new (enc := ienc) (venc := ienc) (w.alloc (Obj.map #[] 0)); rw [hs] at this; exact this
  refine ⟨w.heap.size + 1 + 1, w.heap.size, w.heap.size + 1, rfl, ⟨?_, ?_, ⟨[], e2.chg (Chg.alloc [] _ _) (by simp), ?_⟩, by omega⟩, hA.trans (Chg.alloc _ _ _), by omega, by omega, by omega⟩
  · have := heap_alloc_new ((w.alloc (Obj.map #[] 0)).alloc (Obj.map #[] 0)) (Obj.cells #[Value.map (some w.heap.size), Value.map (some (w.heap.size + 1))] 106)
    rw [hs2] at this; exact this
  · exact (e1.chg (Chg.alloc [] _ _) (by simp)).chg (Chg.alloc [] _ _) (by simp)
  · intro s; simp [manyOf, mLook, icnt]

theorem icnt_del {l : IL} {k1 k2 s : Int} (hn : (keysL l).Nodup) {v : Int} (h : mLook l (k1, k2) = some v) : (icnt (delL l (k1, k2)) s : Int) = icnt l s - if k1 = s then 1 else 0 := by
  induction l with
  | nil => simp [mLook] at h
  | cons p l ih =>
    simp only [keysL, List.map_cons, List.nodup_cons] at hn
    simp only [mLook] at h
    by_cases hp : p.1 = (k1, k2)
    · have hnot : mLook l (k1, k2) = none := mLook_none.2 (by rw [← hp]; exact hn.1)
      have hd : delL (p :: l) (k1, k2) = l := by
        have : delL (p :: l) (k1, k2) = delL l (k1, k2) := by simp [delL, hp]
        rw [this, del_none hnot]
      rw [hd]
      have h1 : p.1.1 = k1 := by rw [hp]
      by_cases e : k1 = s
      · simp [icnt, h1, e]
      · simp [icnt, h1, e]
    · simp only [hp, if_false] at h
      have := ih hn.2 h
      have hd : delL (p :: l) (k1, k2) = p :: delL l (k1, k2) := by simp [delL, hp]
      rw [hd]
      by_cases e : p.1.1 = s
      · simp only [icnt, List.filter_cons, e, decide_true, if_true, List.length_cons] at this ⊢
        omega
      · simp only [icnt, List.filter_cons, e, decide_false, Bool.false_eq_true, if_false] at this ⊢
        omega
theorem delL_le (l : IL) (k : Int × Int) : (delL l k).length ≤ l.length := List.length_filter_le _ _
theorem icnt_pos {l : IL} {k1 k2 v : Int} (h : mLook l (k1, k2) = some v) : 1 ≤ icnt l k1 := by
  have hm := mLook_mem h
  have : ((k1, k2), v) ∈ l.filter fun p => decide (p.1.1 = k1) := List.mem_filter.2 ⟨hm, by simp⟩
  exact List.length_pos_of_mem this

theorem many_del {m : List (Int × Int)} {l : IL} {k1 k2 v : Int} (hn : (keysL l).Nodup) (h : mLook l (k1, k2) = some v) (he : ∀ s, manyOf m s = icnt l s) : ∀ s, manyOf (putL m k1 ((icnt l k1 : Int) - 1)) s = icnt (delL l (k1, k2)) s := by
  intro s
  rw [manyOf_put, icnt_del hn h]
  by_cases e : k1 = s
  · subst e; simp
  · simp [e, he]
theorem many_del0 {m : List (Int × Int)} {l : IL} {k1 : Int} (h0 : icnt l k1 = 0) (he : ∀ s, manyOf m s = icnt l s) : ∀ s, manyOf (delL m k1) s = icnt l s := by
  intro s
  rw [manyOf_del]
  by_cases e : k1 = s
  · subst e; simp [h0]
  · simp [e, he]

set_option maxRecDepth 100000 in
set_option maxHeartbeats 1000000 in
theorem drop_yes (w : World) (x m1 m2 : Nat) (l : IL) (h : XAt w x m1 m2 l) (k1 k2 v : Int) (hk : mLook l (k1, k2) = some v) (hlen : l.length ≤ 1000) :
    Calls Try.prog 19 #[.pointer (some ⟨x, 0, none⟩), .agg #[.int .i64 k1, .int .i64 k2]] w fun e w' =>
      e = .returned (.bool true) ∧ XAt w' x m1 m2 (delL l (k1, k2)) ∧ Chg [m1, m2] w w' := by
  have hg := get_any _ x m1 m2 l (h.chg (Chg.alloc [] w (.cells #[.int .i64 k1, .int .i64 k2] 37)) (by simp) (by simp) (by simp)) k1 k2
  rw [hk] at hg
  simp only [Option.getD_some, Option.isSome_some] at hg
  have hpos := icnt_pos hk
  have hle := icnt_le l k1
  have hn := h.ents.nodup
  have hdel : (icnt (delL l (k1, k2)) k1 : Int) = (icnt l k1 : Int) - 1 := by rw [icnt_del hn hk]; simp
  have Hdel := Lib.hid hdel
  have Hk := Lib.hid hk
  clear hdel hk
  have hne := h.ne
  have hne2 := h.ne2
  have hne1 := h.ne1
  go_enter Try.func19, Try.ntmps19
  go_wp2_with fail
  refine hg.mono ?_
  rintro e W0 ⟨rfl, hC⟩
  have hC2 : Chg [] w W0 := (Chg.alloc _ _ _).trans hC
  have b0 := hC.at_ (o := .cells #[.int .i64 k1, .int .i64 k2] 37) (b := w.heap.size) (by exact heap_alloc_new w _) (by simp)
  clear hC hg
  go_wp2
  refine wp_tail 5 (by kernel_rfl) (by kernel_rfl) ?_
  intro W hW
  have hC3 := hC2.trans hW
  have h2 : XAt W x m1 m2 l := h.chg hC3 (by simp) (by simp) (by simp)
  have b2 := hW.at_ b0 (by simp)
  have hneb1 : m1 ≠ w.heap.size := fun e => by have := h.ents.lt; omega
  have hneb2 : m2 ≠ w.heap.size := fun e => by obtain ⟨m, hm, _⟩ := h.many; have := hm.lt; omega
  clear hW hC2 h b0
  have c0 := h2.c0
  obtain ⟨d0, d1⟩ := blk2 b2
  simp only [List.take_succ_cons, List.take_zero, List.drop_succ_cons, List.drop_zero]
  repeat still_step
  refine wpStill_nil ?_
  refine wpL_delete rfl _ _ 103 37 rfl MK Try.underlying103 h2.ents (k1, k2) rfl rfl ?_
  intro W2 e2 hCa _
  have hC4 : Chg [m1] w W2 := (hC3.mono (by simp)).trans hCa
  have b3 := hCa.at_ b2 (by simp; omega)
  have blk3 := hCa.at_ h2.blk (by simp; exact hne1)
  obtain ⟨m, hm, he⟩ := h2.many
  have hm3 := hm.chg hCa (by simp; exact hne.symm)
  clear hC3 hCa h2 b2 c0 d0 d1 hm
  go_wp2
  refine wp_tail 8 (by kernel_rfl) (by kernel_rfl) ?_
  intro W4 hW4
  have hC5 : Chg [m1] w W4 := hC4.trans (hW4.mono (by simp))
  have e4 := e2.chg hW4 (by simp)
  have hm4 := hm3.chg hW4 (by simp)
  have b4 := hW4.at_ b3 (by simp)
  have blk4 := hW4.at_ blk3 (by simp)
  clear hC4 hW4 e2 hm3 b3 blk3
  have c1 := (blk2 blk4).2
  obtain ⟨d0, d1⟩ := blk2 b4
  have hl := hm4.lookup MI Try.underlying104 z3 k1 false
  have he1 := he k1
  unfold manyOf at he1
  simp only [ienc, found_i, he1, Bool.false_eq_true, if_false] at hl
  clear he1
  simp only [List.take_succ_cons, List.take_zero, List.drop_succ_cons, List.drop_zero]
  repeat still_step
  refine wpStill_nil ?_
  refine wpL_update rfl _ _ _ 104 rfl MI Try.underlying104 hm4 k1 ((icnt l k1 : Int) - 1) rfl rfl (wrapV rfl (by omega) (by omega)) ?_
  intro W5 m5 hCb _
  have he5 := many_del hn Hk.out he
  have hC6 : Chg [m1, m2] w W5 := (hC5.mono (by simp)).trans (hCb.mono (by simp))
  have e5 := e4.chg hCb (by simp; exact hne)
  have b5 := hCb.at_ b4 (by simp; omega)
  have blk5 := hCb.at_ blk4 (by simp; exact hne2)
  clear hl hCb hC5 e4 hm4 b4 blk4 c1 d0 d1 he
  have c1 := (blk2 blk5).2
  have hlt5 := blk_lt blk5
  obtain ⟨d0, d1⟩ := blk2 b5
  have hl : ∀ n, _ := fun n => (m5.chg (Chg.drewN [] W5 n) (by simp)).lookup MI Try.underlying104 z3 k1 false
  have he1 := he5 k1
  unfold manyOf at he1
  rw [Hdel.out] at he1
  simp only [ienc, found_i, he1, Bool.false_eq_true, if_false] at hl
  clear he1
  by_cases hz : icnt l k1 = 1
  · have hz' : (((icnt l k1 : Int) - 1) == 0) = true := by rw [beq_iff_eq]; omega
    go_wp2
    go_quiet (fail)
    go_wp2
    clear hl
    refine wp_tail 6 (by kernel_rfl) (by kernel_rfl) ?_
    intro W7 hW7
    have hC7 : Chg [m1, m2] w W7 := hC6.trans ((Chg.drewN _ _ _).trans (hW7.mono (by simp)))
    have hCd := (Chg.drewN [] W5 nq).trans hW7
    have e7 := e5.chg hCd (by simp)
    have m7 := m5.chg hCd (by simp)
    have b7 := hCd.at_ b5 (by simp)
    have blk7 := hCd.at_ blk5 (by simp)
    clear hW7 hCd hC6 e5 m5 b5 blk5 c1 d0 d1
    have c1 := (blk2 blk7).2
    obtain ⟨d0, d1⟩ := blk2 b7
    simp only [List.take_succ_cons, List.take_zero, List.drop_succ_cons, List.drop_zero]
    repeat still_step
    refine wpStill_nil ?_
    refine wpL_delete rfl _ _ 104 3 rfl MI Try.underlying104 m7 k1 rfl rfl ?_
    intro W8 m8 hCc _
    have h0 : icnt (delL l (k1, k2)) k1 = 0 := by have := Hdel.out; omega
    have hX : XAt W8 x m1 m2 (delL l (k1, k2)) := ⟨hCc.at_ blk7 (by simp; exact hne2), e7.chg hCc (by simp; exact hne), ⟨_, m8, many_del0 h0 he5⟩, hne⟩
    have hC8 : Chg [m1, m2] w W8 := hC7.trans (hCc.mono (by simp))
    clear hC7 hCc e7 m7 b7 blk7 c1 d0 d1 m8 he5 h0
    go_wp2
    go_ret
    exact ⟨rfl, hX, hC8⟩
  · have hz' : (((icnt l k1 : Int) - 1) == 0) = false := by rw [beq_eq_false_iff_ne]; omega
    go_wp2
    go_quiet (fail)
    go_wp2
    go_ret
    have hCd := Chg.drewN [] W5 nq
    exact ⟨rfl, ⟨hCd.at_ blk5 (by simp), e5.chg hCd (by simp), ⟨_, m5.chg hCd (by simp), he5⟩, hne⟩, hC6.trans (Chg.drewN _ _ _)⟩
end Go.Proofs.Ytdcjfaplgpeonaa

/-
  The program's index: all keys of a symbol are struck (maps.DeleteFunc with a closure).
-/
namespace Go.Proofs.Ytdcjfaplgpeonaa
open Go.RowKit Go.Dm

set_option maxHeartbeats 400000 in
theorem clear1_any (w : World) (bx : Nat) (s k1 k2 v : Int) (hb : w.heap[bx]? = some (.cells #[.int .i64 s] 3 (0, 0))) :
    Calls Try.prog 53 #[.agg #[.int .i64 k1, .int .i64 k2], .int .i64 v, .pointer (some ⟨bx, 0, none⟩)] w fun e w' => e = .returned (.bool (k1 == s)) ∧ Chg [] w w' := by
  have c0 := blk1 hb
  have hx := blk_lt hb
  go_enter Try.func53, Try.ntmps53
  go_wp2
  go_ret
  exact ⟨rfl, Chg.alloc _ _ _⟩

def symOut (l : IL) (s : Int) : IL := l.filter fun p => decide (p.1.1 ≠ s)

def ClearRel (l : IL) (s : Int) (it m1 bx : Nat) (w : World) (n : Nat) (wr : World) : Prop :=
  ∃ l' todo : IL, IterAt kenc ienc wr it m1 l' todo ∧ todo.length < n ∧ symOut l' s = symOut l s ∧ (∀ p ∈ l', p.1.1 = s → p ∈ todo) ∧ wr.heap[bx]? = some (.cells #[.int .i64 s] 3 (0, 0)) ∧ Chg [m1] w wr ∧ w.heap.size ≤ it

theorem clearRel_keep {l' : IL} {s : Int} {k : Int × Int} {v : Int} {pre post : IL} (hall : ∀ p ∈ l', p.1.1 = s → p ∈ pre ++ (k, v) :: post) (hk : k.1 ≠ s) : ∀ p ∈ l', p.1.1 = s → p ∈ pre ++ post := by
  intro p hp e
  rcases List.mem_append.1 (hall p hp e) with h | h
  · exact List.mem_append_left _ h
  · rcases List.mem_cons.1 h with h | h
    · subst h; exact absurd e hk
    · exact List.mem_append_right _ h
theorem clearRel_strike {l' : IL} {s : Int} {k : Int × Int} {v : Int} {pre post : IL} (hall : ∀ p ∈ l', p.1.1 = s → p ∈ pre ++ (k, v) :: post) : ∀ p ∈ delL l' k, p.1.1 = s → p ∈ delL (pre ++ post) k := by
  intro p hp e
  have h1 := List.mem_filter.1 hp
  have hne : p.1 ≠ k := by simpa using h1.2
  refine List.mem_filter.2 ⟨?_, by simpa using hne⟩
  rcases List.mem_append.1 (hall p h1.1 e) with h | h
  · exact List.mem_append_left _ h
  · rcases List.mem_cons.1 h with h | h
    · subst h; exact absurd rfl hne
    · exact List.mem_append_right _ h
theorem symOut_del {l' : IL} {s : Int} {k : Int × Int} (hk : k.1 = s) : symOut (delL l' k) s = symOut l' s := by
  unfold symOut delL
  rw [List.filter_filter]
  refine List.filter_congr fun p _ => ?_
  by_cases e : p.1 = k
  · simp [e, hk]
  · simp [e]
theorem symOut_all {l' : IL} {s : Int} (h : ∀ p ∈ l', p.1.1 = s → p ∈ ([] : IL)) : symOut l' s = l' :=
  List.filter_eq_self.2 fun p hp => by
    have : p.1.1 ≠ s := fun e => by have := h p hp e; simp at this
    simp [this]

set_option maxRecDepth 100000 in
set_option maxHeartbeats 1000000 in
theorem delFunc_any (w : World) (bx m1 : Nat) (s : Int) (l : IL) (h : MapAt kenc ienc w m1 l) (hb : w.heap[bx]? = some (.cells #[.int .i64 s] 3 (0, 0))) :
    Calls Try.prog 54 #[.map (some m1), .func (.func 53) #[] #[.pointer (some ⟨bx, 0, none⟩)]] w fun e w' => e = .returned (.tuple #[]) ∧ MapAt kenc ienc w' m1 (symOut l s) ∧ Chg [m1] w w' := by
  have hm1 := h.lt
  have hbx := blk_lt hb
  obtain ⟨ob, hrg, hI⟩ := IterAt.start h Try.underlying103
  have hCa : Chg [m1] w (w.alloc ob) := Chg.alloc _ _ _
  have hb1 := hCa.at_ hb (by intro e; simp at e; subst e; obtain ⟨_, _, hh, _⟩ := h; rw [hb] at hh; cases hh)
  go_enter Try.func54, Try.ntmps54
  go_wp2
  clear hrg
  go_loopg [8] (l.length + 1) (fun k u8 wr => ClearRel l s w.heap.size m1 bx w k wr)
  case atStart => exact ⟨l, l, hI, by omega, rfl, fun p hp _ => hp, hb1, hCa, Nat.le_refl _⟩
  case round =>
    clear hI hCa hb1 hbx hm1 hb h
    obtain ⟨l', todo, hI', hlen, ho, hall, hb2, hC, hit⟩ := hrel
    have A := Lib.hid (And.intro hlen (And.intro ho hall))
    clear hlen ho hall
    rcases hI'.next (P := Try.prog) 0 with ⟨rfl, hnx⟩ | ⟨pre, k, v, post, W, he, hnx, hI2, hCn, hsz, hen⟩
    · go_wp2
      go_end0
      obtain ⟨hlen, ho, hall⟩ := A.out
      rw [symOut_all hall] at ho
      refine ⟨rfl, ?_, hC⟩
      rw [← ho]
      exact hI'.map
    · obtain ⟨k1, k2⟩ := k
      simp only [kenc, ienc] at hnx hen
      have hb3 := hCn.at_ hb2 (by simp; intro e; subst e; obtain ⟨_, _, _, _, _, _, hh, _⟩ := hI'; rw [hb2] at hh; cases hh)
      have hC3 : Chg [m1] w W := hC.trans' hCn (by simp) (by simp)
      have B := Lib.hid he
      clear he hI' hb2 hC hCn
      go_wp2_with fail
      refine (clear1_any _ bx s k1 k2 v ((Chg.alloc [] W _).at_ hb3 (by simp))).mono ?_
      rintro e W2 ⟨rfl, hCc⟩
      have hCd : Chg [] W W2 := (Chg.alloc [] W _).trans hCc
      have bk := hCc.at_ (o := .cells #[.int .i64 k1, .int .i64 k2] 37) (b := W.heap.size) (by exact heap_alloc_new W _) (by simp)
      rw [hsz] at bk
      have hI3 := hI2.chg hCd (by simp) (by simp)
      have hb4 := hCd.at_ hb3 (by simp)
      have hC4 : Chg [m1] w W2 := hC3.trans (hCd.mono (by simp))
      clear hCc hCd hI2 hb3 hC3 hnx hen hsz
      obtain ⟨d0, d1⟩ := blk2 bk
      by_cases hks : k1 = s
      · obtain ⟨W3, hrun, hI4, hCe, _⟩ := hI3.delete MK Try.underlying103 (k1, k2) 37 0
        simp only [kenc] at hrun
        have hb5 := hCe.at_ hb4 (by simp; intro e; subst e; obtain ⟨_, _, hh, _⟩ := hI3.map; rw [hb4] at hh; cases hh)
        have hC5 : Chg [m1] w W3 := hC4.trans hCe
        have hcond : (k1 == s) = true := by rw [beq_iff_eq]; exact hks
        have C := Lib.hid hks
        clear hks hI3 hb4 hC4 hCe
        go_wp2
        obtain ⟨hlen, ho, hall⟩ := A.out
        rw [B.out] at hall hlen
        simp only [List.length_append, List.length_cons] at hlen
        have h1 : (delL (pre ++ post) (k1, k2)).length ≤ (pre ++ post).length := List.length_filter_le _ _
        simp only [List.length_append] at h1
        go_roundg ((delL (pre ++ post) (k1, k2)).length + 1)
        case measure => omega
        case rel => exact ⟨_, _, hI4, by omega, by rw [symOut_del C.out]; exact ho, clearRel_strike hall, hb5, hC5, hit⟩
      · have hcond : (k1 == s) = false := by rw [beq_eq_false_iff_ne]; exact hks
        go_wp2
        obtain ⟨hlen, ho, hall⟩ := A.out
        rw [B.out] at hall hlen
        simp only [List.length_append, List.length_cons] at hlen
        go_roundg ((pre ++ post).length + 1)
        case measure => simp; omega
        case rel => exact ⟨_, _, hI3, by omega, ho, clearRel_keep hall hks, hb4, hC4, hit⟩

theorem icnt_out (l : IL) (s t : Int) : icnt (symOut l s) t = if s = t then 0 else icnt l t := by
  unfold icnt symOut
  rw [List.filter_filter]
  by_cases e : s = t
  · subst e
    rw [if_pos rfl, List.length_eq_zero_iff, List.filter_eq_nil_iff]
    intro p _
    simp
  · rw [if_neg e]
    congr 1
    refine List.filter_congr fun p _ => ?_
    by_cases h : p.1.1 = t
    · have : t ≠ s := fun h => e h.symm
      simp [h, this]
    · simp [h]

set_option maxRecDepth 100000 in
set_option maxHeartbeats 1000000 in
theorem clear_any (w : World) (x m1 m2 : Nat) (l : IL) (h : XAt w x m1 m2 l) (s : Int) :
    Calls Try.prog 20 #[.pointer (some ⟨x, 0, none⟩), .int .i64 s] w fun e w' =>
      e = .returned (.int .i64 (icnt l s)) ∧ XAt w' x m1 m2 (symOut l s) ∧ Chg [m1, m2] w w' := by
  have hne := h.ne
  have hne2 := h.ne2
  have hne1 := h.ne1
  have hA : Chg [] w (w.alloc (.cells #[.int .i64 s] 3)) := Chg.alloc _ _ _
  have hX := h.chg hA (by simp) (by simp) (by simp)
  have bs : (w.alloc (.cells #[.int .i64 s] 3)).heap[w.heap.size]? = some (.cells #[.int .i64 s] 3 (0, 0)) := heap_alloc_new w _
  have ds := blk1 bs
  have hlen := len_any _ x m1 m2 l hX s
  by_cases hz : icnt l s = 0
  · have hz' : ¬ (icnt l s : Int) > 0 := by omega
    have hz0 := Lib.hid hz
    clear hz
    go_enter Try.func20, Try.ntmps20
    go_wp2_with fail
    refine hlen.mono ?_
    rintro e w' ⟨rfl, rfl⟩
    go_wp2
    go_ret
    have hso : symOut l s = l := List.filter_eq_self.2 fun p hp => by
      have : p.1.1 ≠ s := fun e => by
        have hm : p ∈ l.filter fun p => decide (p.1.1 = s) := List.mem_filter.2 ⟨hp, by simp [e]⟩
        have := List.length_pos_of_mem hm
        have := hz0.out
        unfold icnt at this
        omega
      simp [this]
    refine ⟨rfl, ?_, hA.mono (by simp)⟩
    rw [hso]; exact hX
  · have hz' : (icnt l s : Int) > 0 := by omega
    clear hz
    go_enter Try.func20, Try.ntmps20
    go_wp2_with fail
    refine hlen.mono ?_
    rintro e w' ⟨rfl, rfl⟩
    have c0 := hX.c0
    have hxl := hX.lt
    clear hlen
    go_wp2_with fail
    refine (delFunc_any _ w.heap.size m1 s l hX.ents bs).mono ?_
    rintro e W ⟨rfl, he, hC⟩
    have hneb1 : m1 ≠ w.heap.size := fun e => by have := h.ents.lt; omega
    have hneb2 : m2 ≠ w.heap.size := fun e => by obtain ⟨m, hm, _⟩ := h.many; have := hm.lt; omega
    have blk := hC.at_ hX.blk (by simp; exact hne1)
    have bs2 := hC.at_ bs (by simp; omega)
    obtain ⟨m, hm, hma⟩ := hX.many
    have hm2 := hm.chg hC (by simp; exact hne.symm)
    have hCa : Chg [m1] w W := (hA.mono (by simp)).trans hC
    clear hA hX bs ds c0 hxl hm hC h
    go_wp2
    refine wp_tail 5 (by kernel_rfl) (by kernel_rfl) ?_
    intro W4 hW4
    have hC4 : Chg [m1] w W4 := hCa.trans (hW4.mono (by simp))
    have e4 := he.chg hW4 (by simp)
    have m4 := hm2.chg hW4 (by simp)
    have blk4 := hW4.at_ blk (by simp)
    have b4 := hW4.at_ bs2 (by simp)
    clear hCa hW4 he hm2 blk bs2
    have c1 := (blk2 blk4).2
    have d0 := blk1 b4
    simp only [List.take_succ_cons, List.take_zero, List.drop_succ_cons, List.drop_zero]
    repeat still_step
    refine wpStill_nil ?_
    refine wpL_delete rfl _ _ 104 3 rfl MI Try.underlying104 m4 s rfl rfl ?_
    intro W5 m5 hCb _
    have hX : XAt W5 x m1 m2 (symOut l s) := ⟨hCb.at_ blk4 (by simp; exact hne2), e4.chg hCb (by simp; exact hne), ⟨_, m5, fun t => by rw [manyOf_del, icnt_out]; by_cases e : s = t <;> simp [e, hma]⟩, hne⟩
    have hC5 : Chg [m1, m2] w W5 := (hC4.mono (by simp)).trans (hCb.mono (by simp))
    clear hC4 e4 m4 blk4 b4 c1 d0 m5 hCb hma
    go_wp2
    go_ret
    exact ⟨rfl, hX, hC5⟩

set_option maxHeartbeats 400000 in
theorem clear_nil (w : World) (s : Int) : Calls Try.prog 20 #[.pointer none, .int .i64 s] w fun e w' => e = .returned (.int .i64 0) ∧ Chg [] w w' := by
  have ds := blk1 (heap_alloc_new w (.cells #[.int .i64 s] 3))
  go_enter Try.func20, Try.ntmps20
  go_wp2_with fail
  refine (len_nil _ _).mono ?_
  rintro e w' ⟨rfl, rfl⟩
  go_wp2
  go_ret
  exact ⟨rfl, Chg.alloc _ _ _⟩
end Go.Proofs.Ytdcjfaplgpeonaa

/-
  The reference's index (a list of rows): what each of its functions does.
-/
namespace Go.Proofs.Ytdcjfaplgpeonaa
open Go.RowKit Go.Dm

def rowE (p : (Int × Int) × Int) : List Value := [.int .i64 p.1.1, .int .i64 p.1.2, .int .i64 p.2]
theorem rowR : REnc 3 rowE := ⟨fun _ => rfl, fun a u hu => by simp [rowE] at hu; rcases hu with rfl | rfl | rfl <;> rfl⟩
theorem elem27 : ElemIs Try.prog 27 78 3 24 := ⟨Try.underlying27, by
  obtain ⟨i, hi, hz, h1, h2⟩ := info_parts (show (Try.prog.info? 78).map (fun i => (i.zero, i.size, i.bytes)) = some (some (.agg #[.int .i64 0, .int .i64 0, .int .i64 0]), 3, 24) by kernel_rfl)
  exact ⟨i, _, hi, hz, h1, h2, rfl⟩, by decide⟩

theorem rows_at {w : World} {g n c : Nat} {l : IL} (h : SlAt 78 3 rowE w (.slice (some ⟨g, 0, none⟩) n c) l) {k : Nat} {p : (Int × Int) × Int} (hp : l[k]? = some p) :
    w.cell? ⟨g, k * 3, none⟩ = some (.int .i64 p.1.1) ∧ w.cell? ⟨g, k * 3 + 1, none⟩ = some (.int .i64 p.1.2) ∧ w.cell? ⟨g, k * 3 + 2, none⟩ = some (.int .i64 p.2) :=
  ⟨h.at_ rowR hp (j := 0) (by omega), h.at_ rowR hp (j := 1) (by omega), h.at_ rowR hp (j := 2) (by omega)⟩
/-- The reference's index in block r: its rows. -/
def RAt (w : World) (r : Nat) (l : IL) : Prop := ∃ v, w.heap[r]? = some (.cells #[v] 29 (0, 0)) ∧ SlAt 78 3 rowE w v l

theorem RAt.lt {w : World} {r : Nat} {l : IL} (h : RAt w r l) : r < w.heap.size := by obtain ⟨v, h, _⟩ := h; exact blk_lt h
theorem RAt.chg {w w' : World} {r : Nat} {l : IL} {S : List Nat} (h : RAt w r l) (hc : Chg S w w') (h0 : r ∉ S) (h1 : ∀ k ∈ S, w.heap.size ≤ k ∨ ∃ o, w.heap[k]? = some o ∧ ∀ cs, o ≠ .cells cs 78 (0, 0)) : RAt w' r l := by
  obtain ⟨v, h, hs⟩ := h
  refine ⟨v, hc.at_ h h0, hs.chg hc fun g hg hm => ?_⟩
  obtain ⟨cur, hcur⟩ := hs.typed hg
  rcases h1 g hm with h | ⟨o, ho, hne⟩
  · have := hs.lt hg; omega
  · rw [hcur] at ho; cases ho; exact hne _ rfl

def idxOf (l : IL) (k : Int × Int) : Option Nat := l.findIdx? (fun p => decide (p.1 = k))
def idxI (l : IL) (k : Int × Int) : Int := match idxOf l k with | some i => i | none => -1

theorem idxI_at {l : IL} {k : Nat} {q : Int × Int} {sl : Int} (h : l[k]? = some (q, sl)) (hno : ∀ j, j < k → ∀ p, l[j]? = some p → p.1 ≠ q) : idxI l q = k := by
  have : idxOf l q = some k := by
    unfold idxOf
    rw [List.findIdx?_eq_some_iff_getElem]
    obtain ⟨hlt, he⟩ := List.getElem?_eq_some_iff.1 h
    refine ⟨hlt, by simp [he], fun j hj => ?_⟩
    have := hno j hj (l[j]) (by simp)
    simpa using this
  simp [idxI, this]
theorem idxI_none {l : IL} {q : Int × Int} (hno : ∀ (j : Nat) (p : (Int × Int) × Int), l[j]? = some p → p.1 ≠ q) : idxI l q = -1 := by
  have : idxOf l q = none := by
    unfold idxOf
    rw [List.findIdx?_eq_none_iff]
    intro p hp
    obtain ⟨j, hj⟩ := List.mem_iff_getElem?.1 hp
    simpa using hno j p hj
  simp [idxI, this]
theorem not_more {l : IL} {k : Nat} {q : Int × Int} {p0 : (Int × Int) × Int} (hno : ∀ j, j < k → ∀ p, l[j]? = some p → p.1 ≠ q) (h : l[k]? = some p0) (hne : p0.1 ≠ q) : ∀ j, j < k + 1 → ∀ p, l[j]? = some p → p.1 ≠ q := by
  intro j hj p hp
  by_cases e : j = k
  · subst e; rw [h] at hp; cases hp; exact hne
  · exact hno j (by omega) p hp

set_option maxHeartbeats 1000000 in
theorem find_any (w : World) (r : Nat) (l : IL) (h : RAt w r l) (k1 k2 : Int) (hlen : l.length ≤ 1000) :
    Calls Try.prog 75 #[.pointer (some ⟨r, 0, none⟩), .int .i64 k1, .int .i64 k2] w fun e w' => e = .returned (.int .i64 (idxI l (k1, k2))) ∧ w = w' := by
  obtain ⟨v, hb, hs⟩ := h
  obtain ⟨A, c, rfl, _, hA⟩ := hs.form
  have c0 := blk1 hb
  go_enter Try.func75, Try.ntmps75
  go_wp2
  go_loop [7] (fun i => ∃ k : Nat, k ≤ l.length ∧ i = .int .i64 k ∧ ∀ j, j < k → ∀ p, l[j]? = some p → p.1 ≠ (k1, k2)) (fun i => l.length - (intOf i).toNat)
  case atStart => exact ⟨0, Nat.zero_le _, rfl, fun j hj => by omega⟩
  case round =>
    obtain ⟨k, hk, rfl, hno⟩ := hrel
    have A1 := Lib.hid hno
    clear hno
    by_cases hlt : k < l.length
    · obtain ⟨g, rfl⟩ := hA (by omega)
      obtain ⟨⟨⟨s, d⟩, sl⟩, hp⟩ : ∃ p, l[k]? = some p := ⟨l[k], by simp [hlt]⟩
      obtain ⟨e0, e1, _⟩ := rows_at hs hp
      have B := Lib.hid hp
      clear hp hs
      by_cases h1 : s = k1
      · by_cases h2 : d = k2
        · have t1 : (s == k1) = true := by rw [beq_iff_eq]; exact h1
          have t2 : (d == k2) = true := by rw [beq_iff_eq]; exact h2
          have C := Lib.hid (And.intro h1 h2)
          clear h1 h2
          go_wp2
          go_ret
          refine ⟨?_, rfl⟩
          obtain ⟨rfl, rfl⟩ := C.out
          rw [idxI_at B.out A1.out]
          rfl
        · have t1 : (s == k1) = true := by rw [beq_iff_eq]; exact h1
          have t2 : (d == k2) = false := by rw [beq_eq_false_iff_ne]; exact h2
          have C := Lib.hid h2
          clear h1 h2
          go_wp2
          go_round
          case rel => exact ⟨k + 1, by omega, by go_num, not_more A1.out B.out (fun e => C.out (by rw [Prod.mk.injEq] at e; exact e.2))⟩
          case measure => simp [intOf]; omega
      · have t1 : (s == k1) = false := by rw [beq_eq_false_iff_ne]; exact h1
        have C := Lib.hid h1
        clear h1
        go_wp2
        go_round
        case rel => exact ⟨k + 1, by omega, by go_num, not_more A1.out B.out (fun e => C.out (by rw [Prod.mk.injEq] at e; exact e.1))⟩
        case measure => simp [intOf]; omega
    · go_wp2
      go_ret
      refine ⟨?_, rfl⟩
      rw [idxI_none (fun j p hp => A1.out j (by have := (List.getElem?_eq_some_iff.1 hp).1; omega) p hp)]
      rfl

theorem idx_look (l : IL) (q : Int × Int) (hn : (keysL l).Nodup) : (mLook l q = none ∧ idxI l q = -1) ∨ ∃ (k : Nat) (sl : Int), mLook l q = some sl ∧ idxI l q = k ∧ l[k]? = some (q, sl) ∧ k < l.length := by
  cases h : idxOf l q with
  | none =>
    refine .inl ⟨mLook_none.2 fun hm => ?_, by simp [idxI, h]⟩
    obtain ⟨p, hp, rfl⟩ := List.mem_map.1 hm
    have := List.findIdx?_eq_none_iff.1 h p hp
    simp at this
  | some k =>
    obtain ⟨hlt, he, _⟩ := List.findIdx?_eq_some_iff_getElem.1 h
    have he' : l[k].1 = q := by simpa using he
    have hk : l[k]? = some (q, l[k].2) := by rw [← he']; exact List.getElem?_eq_getElem hlt
    exact .inr ⟨k, l[k].2, mLook_at hn hk, by simp [idxI, h], hk, hlt⟩

set_option maxHeartbeats 1000000 in
theorem rput_old (w : World) (r : Nat) (l : IL) (h : RAt w r l) (k1 k2 v : Int) (hk : (mLook l (k1, k2)).isSome = true) (hn : (keysL l).Nodup) (hlen : l.length ≤ 1000) :
    Calls Try.prog 49 #[.pointer (some ⟨r, 0, none⟩), .int .i64 k1, .int .i64 k2, .int .i64 v] w fun e w' => e = .returned (.bool false) ∧ w = w' := by
  have hf := find_any w r l h k1 k2 hlen
  rcases idx_look l (k1, k2) hn with ⟨h1, _⟩ | ⟨k, sl, h1, h2, _, _⟩
  · rw [h1] at hk; cases hk
  rw [h2] at hf
  clear h1 h2 hk
  go_enter Try.func49, Try.ntmps49
  go_wp2_with fail
  refine hf.mono ?_
  rintro e w' ⟨rfl, rfl⟩
  clear hf
  go_wp2
  go_ret
  exact ⟨rfl, rfl⟩

set_option maxHeartbeats 1000000 in
theorem rput_new (w : World) (r : Nat) (l : IL) (h : RAt w r l) (k1 k2 v : Int) (hk : mLook l (k1, k2) = none) (hn : (keysL l).Nodup) (hlen : l.length ≤ 1000) :
    Calls Try.prog 49 #[.pointer (some ⟨r, 0, none⟩), .int .i64 k1, .int .i64 k2, .int .i64 v] w fun e w' => e = .returned (.bool true) ∧ RAt w' r (l ++ [((k1, k2), v)]) ∧ Chg [r] w w' := by
  have hf := find_any w r l h k1 k2 hlen
  rcases idx_look l (k1, k2) hn with ⟨h1, h2⟩ | ⟨k, sl, h1, h2, _, _⟩
  rotate_left
  · rw [h1] at hk; cases hk
  rw [h2] at hf
  clear h1 h2 hk
  have hr := h.lt
  obtain ⟨vL, hb, hs⟩ := h
  have c0 := blk1 hb
  go_enter Try.func49, Try.ntmps49
  go_wp2_with fail
  refine hf.mono ?_
  rintro e w' ⟨rfl, rfl⟩
  clear hf
  go_wp2_with (at_builtin; go_must (refine wpL_append' rfl _ _ 27 rfl rowR elem27 (w0 := w) (l := []) (Chg.alloc [] w (.cells #[] 78)) (SlAt.empty (heap_alloc_new w (.cells #[] 78)) rfl) (Fresh.of (Nat.le_refl _)) ((hs.chg (Chg.alloc [] w (.cells #[] 78)) (by simp)).src) rfl rfl (by simp; omega) (by omega) ?_))
  intro v1 W1 hs1 hC1 hF1 _
  have b1 := hC1.at_ hb (by simp)
  have hsz1 := hC1.size
  go_wp2_with (at_builtin; go_must (refine wpL_append' rfl _ _ 27 rfl rowR elem27 (w0 := w) (l2 := [((k1, k2), v)]) (hC1.trans (Chg.alloc [] W1 (.cells #[.int .i64 k1, .int .i64 k2, .int .i64 v] 78))) (hs1.chg (Chg.alloc [] W1 (.cells #[.int .i64 k1, .int .i64 k2, .int .i64 v] 78)) (by simp)) hF1 (SrcAt.one (renc := rowE) (a := ((k1, k2), v)) (t := 78) (fr := (0, 0)) (by exact heap_alloc_new W1 (.cells #[.int .i64 k1, .int .i64 k2, .int .i64 v] 78)) 1) rfl rfl (by simp; omega) (by omega) ?_))
  intro v2 W2 hs2 hC2 hF2 _
  have b2 := hC2.at_ hb (by simp)
  clear hs1 hC1 hF1 b1 hb hs c0
  obtain ⟨A2, c2, rfl, _⟩ := hs2.form
  have c0 := blk1 b2
  have f0 : W2.frozen? ⟨r, 0, none⟩ = false := by simp [World.frozen?, b2]
  go_wp2
  go_ret
  have hlen2 : (l ++ [((k1, k2), v)]).length = l.length + 1 := by simp
  rw [hlen2] at hs2 hF2
  refine ⟨rfl, ⟨_, blk_set b2 0 _, hs2.chg (Chg.setCell (S := [r]) W2 ⟨r, 0, none⟩ _ (by simp)) (hF2.not_in (by simp; omega))⟩, (hC2.mono (by simp)).trans (Chg.setCell (S := [r]) W2 ⟨r, 0, none⟩ _ (by simp))⟩

set_option maxHeartbeats 1000000 in
theorem rget_any (w : World) (r : Nat) (l : IL) (h : RAt w r l) (k1 k2 : Int) (hn : (keysL l).Nodup) (hlen : l.length ≤ 1000) :
    Calls Try.prog 50 #[.pointer (some ⟨r, 0, none⟩), .int .i64 k1, .int .i64 k2] w fun e w' => e = .returned (.tuple #[.int .i64 ((mLook l (k1, k2)).getD 0), .bool (mLook l (k1, k2)).isSome]) ∧ w = w' := by
  have hf := find_any w r l h k1 k2 hlen
  rcases idx_look l (k1, k2) hn with ⟨h1, h2⟩ | ⟨k, sl, h1, h2, h3, h4⟩
  · rw [h2] at hf
    rw [h1]
    clear h1 h2
    go_enter Try.func50, Try.ntmps50
    go_wp2_with fail
    refine hf.mono ?_
    rintro e w' ⟨rfl, rfl⟩
    clear hf
    go_wp2
    go_ret2
    exact ⟨rfl, rfl⟩
  · rw [h2] at hf
    rw [h1]
    obtain ⟨vL, hb, hs⟩ := h
    obtain ⟨A, c, rfl, _, hA⟩ := hs.form
    obtain ⟨g, rfl⟩ := hA (by omega)
    obtain ⟨_, _, e2⟩ := rows_at hs h3
    have c0 := blk1 hb
    clear h1 h2 h3 hA
    go_enter Try.func50, Try.ntmps50
    go_wp2_with fail
    refine hf.mono ?_
    rintro e w' ⟨rfl, rfl⟩
    clear hf
    go_wp2
    go_ret2
    exact ⟨rfl, rfl⟩

theorem delL_cut {l : IL} {q : Int × Int} {k : Nat} {sl : Int} (hn : (keysL l).Nodup) (h : l[k]? = some (q, sl)) : [] ++ l.take k ++ l.drop (k + 1) = delL l q := by
  rw [← eraseIdx_del hn h, List.nil_append, List.eraseIdx_eq_take_drop_succ]

set_option maxHeartbeats 1000000 in
theorem rdrop_no (w : World) (r : Nat) (l : IL) (h : RAt w r l) (k1 k2 : Int) (hk : mLook l (k1, k2) = none) (hn : (keysL l).Nodup) (hlen : l.length ≤ 1000) :
    Calls Try.prog 51 #[.pointer (some ⟨r, 0, none⟩), .int .i64 k1, .int .i64 k2] w fun e w' => e = .returned (.bool false) ∧ w = w' := by
  have hf := find_any w r l h k1 k2 hlen
  rcases idx_look l (k1, k2) hn with ⟨h1, h2⟩ | ⟨k, sl, h1, h2, h3, h4⟩
  rotate_left
  · rw [h1] at hk; cases hk
  rw [h2] at hf
  clear h1 h2 hk
  go_enter Try.func51, Try.ntmps51
  go_wp2_with fail
  refine hf.mono ?_
  rintro e w' ⟨rfl, rfl⟩
  clear hf
  go_wp2
  go_ret
  exact ⟨rfl, rfl⟩

end Go.Proofs.Ytdcjfaplgpeonaa

/-
  The reference's index: Drop of a key that is there.
-/
namespace Go.Proofs.Ytdcjfaplgpeonaa
open Go.RowKit Go.Dm

set_option maxRecDepth 100000 in
set_option maxHeartbeats 2000000 in
theorem rdrop_yes (w : World) (r : Nat) (l : IL) (h : RAt w r l) (k1 k2 : Int) (hk : (mLook l (k1, k2)).isSome = true) (hn : (keysL l).Nodup) (hlen : l.length ≤ 1000) :
    Calls Try.prog 51 #[.pointer (some ⟨r, 0, none⟩), .int .i64 k1, .int .i64 k2] w fun e w' => e = .returned (.bool true) ∧ RAt w' r (delL l (k1, k2)) ∧ Chg [r] w w' := by
  have hf := find_any w r l h k1 k2 hlen
  rcases idx_look l (k1, k2) hn with ⟨h1, h2⟩ | ⟨k, sl, h1, h2, h3, h4⟩
  · rw [h1] at hk; cases hk
  rw [h2] at hf
  have hcut := Lib.hid (delL_cut hn h3)
  obtain ⟨vL, hb, hs⟩ := h
  obtain ⟨A, c, rfl, _, hA⟩ := hs.form
  obtain ⟨g, rfl⟩ := hA (by omega)
  have c0 := blk1 hb
  have f0 : w.frozen? ⟨r, 0, none⟩ = false := by simp [World.frozen?, hb]
  have hr := blk_lt hb
  have hlc : l.length ≤ c := by
    rcases hs.2 with ⟨h0, _⟩ | ⟨g', cap, cur, hv, _, _, hc, _⟩
    · cases h0
    · simp only [Value.slice.injEq] at hv; omega
  have hcm : c ≤ 9223372036854775807 := by
    rcases hs.2 with ⟨h0, _⟩ | ⟨g', cap, cur, hv, _, _, _, hc, _⟩
    · cases h0
    · simp only [Value.slice.injEq] at hv; unfold maxLen at hc; omega
  have Hcm := Lib.hid hcm
  clear h1 h2 h3 hA hk hcm
  have i0 : (0 : Int) ≤ (k : Int) := Int.natCast_nonneg _
  have i1 : (k : Int) ≤ (c : Int) := by omega
  have i2 : (k : Int) + 1 ≤ (l.length : Int) := by omega
  have i3 : (0 : Int) ≤ (k : Int) + 1 := by omega
  go_enter Try.func51, Try.ntmps51
  go_wp2_with fail
  refine hf.mono ?_
  rintro e w' ⟨rfl, rfl⟩
  clear hf
  go_wp2_with fail
  have iw : IntKind.i64.wrap ((k : Int) + 1) = (k : Int) + 1 := wrapOk (by omega) (by omega)
  have it : ((k : Int) + 1).toNat = k + 1 := by omega
  have hA0 : Chg [] w (w.alloc (.cells #[] 78)).drew := (Chg.alloc [] w _).trans (Chg.drew _ _)
  have hE0 : SlAt 78 3 rowE (w.alloc (.cells #[] 78)).drew (.slice (some ⟨w.heap.size, 0, none⟩) 0 0) ([] : IL) := SlAt.empty (by exact heap_alloc_new w (.cells #[] 78)) rfl
  have hsr1 : SrcAt rowE (w.alloc (.cells #[] 78)).drew (.slice (some ⟨g, 0, none⟩) k c) (l.take k) := (hs.chg hA0 (by simp)).src_take (by omega) c
  have hF0 : Fresh w.heap.size (Value.slice (some ⟨w.heap.size, 0, none⟩) 0 0) := Fresh.of (Nat.le_refl _)
  have hlt : ([] : IL).length + (l.take k).length ≤ 1000000 := by simp; omega
  have hl2 : ([] ++ l.take k).length + (l.drop (k + 1)).length ≤ 1000000 := by simp; omega
  have hlen3 := Lib.hid (show ([] ++ l.take k ++ l.drop (k + 1)).length = min k l.length + (l.length - (k + 1)) by simp)
  by_cases hck : c = k + 1
  · have hlk : l.length = k + 1 := by omega
    have hd0 : l.drop (k + 1) = [] := by rw [List.drop_eq_nil_iff]; omega
    have hcut2 := hcut.out
    rw [hd0, List.append_nil] at hcut2
    have Hcut := Lib.hid hcut2
    have Hlk := Lib.hid hlk
    have hl3 : ([] ++ l.take k).length + ([] : IL).length ≤ 1000000 := by simp; omega
    have z1 : l.length - (k + 1) = 0 := by omega
    have hlen4 := Lib.hid (show ([] ++ l.take k ++ ([] : IL)).length = min k l.length by simp)
    clear hlk hd0 hcut2 hcut hl2 i1
    subst hck
    have i1 : (k : Int) ≤ (k : Int) + 1 := by omega
    go_region_law (first
        | (refine step_append' rfl _ _ 27 rfl rowR elem27 hA0 hE0 hF0 hsr1 rfl rfl hlt (by omega) ?_; intro v1 W1 hs1 hC1 hF1 _; have cc1 := blk1 (hC1.at_ hb (by simp)))
        | (refine step_append' rfl _ _ 27 rfl rowR elem27 hC1 hs1 hF1 (SrcAt.nil (A := some ⟨g, 0, none⟩) (c := 0)) rfl rfl hl3 (by omega) ?_; intro v2 W2 hs2 hC2 hF2 _; obtain ⟨A2, c2, rfl, _⟩ := hs2.form; have f2 : W2.frozen? ⟨r, 0, none⟩ = false := (by simp [World.frozen?, hC2.at_ hb (by simp)]); have c2' := blk1 (hC2.at_ hb (by simp))))
    all_goals
      rw [hlen4.out] at hs2 hF2
      rw [Hcut.out, List.append_nil] at hs2
      have hRA : RAt (W2.setCell ⟨r, 0, none⟩ (.slice A2 (min k l.length) c2)) r (delL l (k1, k2)) :=
        ⟨_, blk_set (hC2.at_ hb (by simp)) 0 _, hs2.chg (Chg.setCell (S := [r]) W2 ⟨r, 0, none⟩ _ (by simp)) (hF2.not_in (by simp; omega))⟩
      have hCC : Chg [r] w (W2.setCell ⟨r, 0, none⟩ (.slice A2 (min k l.length) c2)) := (hC2.mono (by simp)).trans (Chg.setCell (S := [r]) W2 ⟨r, 0, none⟩ _ (by simp))
      clear hs2 hF2 hC2 hs1 hC1 hF1 hlen4 c2' f2 cc1 hsr1 hE0 hA0 hF0 hs hb c0 f0
      go_wp2
      go_ret
      exact ⟨rfl, hRA, hCC⟩
  · go_region_law (first
        | (refine step_append' rfl _ _ 27 rfl rowR elem27 hA0 hE0 hF0 hsr1 rfl rfl hlt (by omega) ?_; intro v1 W1 hs1 hC1 hF1 _; have cc1 := blk1 (hC1.at_ hb (by simp)))
        | (refine step_append' rfl _ _ 27 rfl rowR elem27 hC1 hs1 hF1 ((hs.chg hC1 (by simp)).src_drop rowR (k := k + 1) (by omega) _ _ rfl) rfl rfl hl2 (by omega) ?_; intro v2 W2 hs2 hC2 hF2 _; obtain ⟨A2, c2, rfl, _⟩ := hs2.form; have f2 : W2.frozen? ⟨r, 0, none⟩ = false := (by simp [World.frozen?, hC2.at_ hb (by simp)]); have c2' := blk1 (hC2.at_ hb (by simp))))
    all_goals
      rw [hlen3.out] at hs2 hF2
      rw [hcut.out] at hs2
      have hRA : RAt (W2.setCell ⟨r, 0, none⟩ (.slice A2 (min k l.length + (l.length - (k + 1))) c2)) r (delL l (k1, k2)) :=
        ⟨_, blk_set (hC2.at_ hb (by simp)) 0 _, hs2.chg (Chg.setCell (S := [r]) W2 ⟨r, 0, none⟩ _ (by simp)) (hF2.not_in (by simp; omega))⟩
      have hCC : Chg [r] w (W2.setCell ⟨r, 0, none⟩ (.slice A2 (min k l.length + (l.length - (k + 1))) c2)) := (hC2.mono (by simp)).trans (Chg.setCell (S := [r]) W2 ⟨r, 0, none⟩ _ (by simp))
      clear hs2 hF2 hC2 hs1 hC1 hF1 hcut hlen3 c2' f2 cc1 hsr1 hE0 hA0 hF0 hs hb c0 f0
      go_wp2
      go_ret
      exact ⟨rfl, hRA, hCC⟩
end Go.Proofs.Ytdcjfaplgpeonaa

/-
  The reference's index: Clear.
-/
namespace Go.Proofs.Ytdcjfaplgpeonaa
open Go.RowKit Go.Dm

theorem take_succ' {α : Type} {l : List α} {k : Nat} {p : α} (h : l[k]? = some p) : l.take (k + 1) = l.take k ++ [p] := by
  rw [List.take_add_one, h]; rfl
theorem symOut_snoc (l : IL) (p : (Int × Int) × Int) (s : Int) : symOut (l ++ [p]) s = if p.1.1 = s then symOut l s else symOut l s ++ [p] := by
  unfold symOut
  rw [List.filter_append]
  by_cases e : p.1.1 = s <;> simp [e]
theorem icnt_snoc (l : IL) (p : (Int × Int) × Int) (s : Int) : icnt (l ++ [p]) s = icnt l s + if p.1.1 = s then 1 else 0 := by
  obtain ⟨⟨a, b⟩, c⟩ := p
  exact icnt_app l a b c s

def RClearRel (l : IL) (s : Int) (w : World) (n : Nat) (rest cnt i : Value) (wr : World) : Prop :=
  ∃ k : Nat, k ≤ l.length ∧ n = l.length - k + 1 ∧ i = .int .i64 k ∧ cnt = .int .i64 (icnt (l.take k) s) ∧ SlAt 78 3 rowE wr rest (symOut (l.take k) s) ∧ Fresh w.heap.size rest ∧ Chg [] w wr

set_option maxRecDepth 100000 in
set_option maxHeartbeats 1000000 in
theorem rclear_any (w : World) (r : Nat) (l : IL) (h : RAt w r l) (s : Int) (hlen : l.length ≤ 1000) :
    Calls Try.prog 52 #[.pointer (some ⟨r, 0, none⟩), .int .i64 s] w fun e w' => e = .returned (.int .i64 (icnt l s)) ∧ RAt w' r (symOut l s) ∧ Chg [r] w w' := by
  have hr := h.lt
  obtain ⟨vL, hb, hs⟩ := h
  obtain ⟨A, c, rfl, _, hA⟩ := hs.form
  go_enter Try.func52, Try.ntmps52
  go_wp2
  go_loopg [5, 6, 7] (l.length + 1) (fun n rest cnt i wr => RClearRel l s w n rest cnt i wr)
  case atStart => exact ⟨0, Nat.zero_le _, rfl, rfl, rfl, SlAt.nil _ _ _ _, Fresh.none, Chg.refl _ _⟩
  case round =>
    obtain ⟨k, hk, hn, rfl, rfl, hs5, hF, hC⟩ := hrel
    have Hn := Lib.hid hn
    clear hn
    have hbr := hC.at_ hb (by simp)
    have c0 := blk1 hbr
    have hrr := blk_lt hbr
    by_cases hlt : k < l.length
    · obtain ⟨g, rfl⟩ := hA (by omega)
      obtain ⟨⟨⟨p1, p2⟩, p3⟩, hp⟩ : ∃ p, l[k]? = some p := ⟨l[k], by simp [hlt]⟩
      obtain ⟨e0, e1, e2⟩ := rows_at (hs.chg hC (by simp)) hp
      have hts := take_succ' hp
      have hi := icnt_snoc (l.take k) ((p1, p2), p3) s
      have ho := symOut_snoc (l.take k) ((p1, p2), p3) s
      rw [← hts] at hi ho
      have hib := icnt_le (l.take k) s
      have htl : (l.take k).length ≤ k := List.length_take_le _ _
      have hol : (symOut (l.take k) s).length ≤ (l.take k).length := List.length_filter_le _ _
      by_cases hps : p1 = s
      · have t1 : (p1 == s) = true := by rw [beq_iff_eq]; exact hps
        rw [if_pos hps] at hi ho
        have Hio := Lib.hid (And.intro hi ho)
        clear hps hi ho hts hp
        go_wp2
        obtain ⟨hi, ho⟩ := Hio.out
        go_roundg (l.length - (k + 1) + 1)
        case measure => rw [Hn.out]; omega
        case rel => exact ⟨k + 1, by omega, rfl, by go_num, by rw [hi]; go_num, by rw [ho]; exact hs5, hF, hC⟩
      · have t1 : (p1 == s) = false := by rw [beq_eq_false_iff_ne]; exact hps
        rw [if_neg hps] at hi ho
        have Hio := Lib.hid (And.intro hi ho)
        clear hps hi ho hts hp
        go_wp2_with (at_builtin; go_must (refine wpL_append' rfl _ _ 27 rfl rowR elem27 (w0 := w) (l2 := [((p1, p2), p3)]) (hC.trans (Chg.alloc [] wr (.cells #[.int .i64 p1, .int .i64 p2, .int .i64 p3] 78))) (hs5.chg (Chg.alloc [] wr (.cells #[.int .i64 p1, .int .i64 p2, .int .i64 p3] 78)) (by simp)) hF (SrcAt.one (renc := rowE) (a := ((p1, p2), p3)) (t := 78) (fr := (0, 0)) (by exact heap_alloc_new wr (.cells #[.int .i64 p1, .int .i64 p2, .int .i64 p3] 78)) 1) rfl rfl (by simp; omega) (by omega) ?_))
        intro v2 W2 hs2 hC2 hF2 _
        clear hs5 hF hC c0 e0 e1 e2 hbr
        go_wp2
        obtain ⟨hi, ho⟩ := Hio.out
        go_roundg (l.length - (k + 1) + 1)
        case measure => rw [Hn.out]; omega
        case rel => exact ⟨k + 1, by omega, rfl, by go_num, by rw [hi]; rfl, by rw [ho]; exact hs2, hF2, hC2⟩
    · have hke : k = l.length := by omega
      obtain ⟨A5, c5, rfl, _⟩ := hs5.form
      have f0 : wr.frozen? ⟨r, 0, none⟩ = false := by simp [World.frozen?, hbr]
      subst hke
      rw [List.take_length] at hs5 hF
      have Hk := Lib.hid (List.take_length (l := l))
      go_wp2
      go_ret
      refine ⟨by simp, ⟨_, blk_set hbr 0 _, ?_⟩, (hC.mono (by simp)).trans (Chg.setCell (S := [r]) wr ⟨r, 0, none⟩ _ (by simp))⟩
      have h2 := hs5.chg (Chg.setCell (S := [r]) wr ⟨r, 0, none⟩ (.slice A5 (symOut l s).length c5) (by simp)) (hF.not_in (by simp; omega))
      simpa using h2
end Go.Proofs.Ytdcjfaplgpeonaa

/-
  The reference's index: Of (a symbol's rows, by IDs).
-/
namespace Go.Proofs.Ytdcjfaplgpeonaa
open Go.RowKit Go.Dm

abbrev IP := (Int × Int) × Int
def lower (d : Int) (q : IP) : Bool := decide (q.1.2 < d)
def insRow (out : IL) (p : IP) : IL := out.takeWhile (lower p.1.2) ++ p :: out.dropWhile (lower p.1.2)
def ofL (l : IL) (s : Int) : IL := l.foldl (fun out p => if p.1.1 = s then insRow out p else out) []

theorem ofL_snoc (l : IL) (p : IP) (s : Int) : ofL (l ++ [p]) s = if p.1.1 = s then insRow (ofL l s) p else ofL l s := by
  unfold ofL; rw [List.foldl_append]; rfl
theorem insRow_length (out : IL) (p : IP) : (insRow out p).length = out.length + 1 := by
  have := congrArg List.length (List.takeWhile_append_dropWhile (p := lower p.1.2) (l := out))
  simp only [insRow, List.length_append, List.length_cons] at this ⊢
  omega
theorem ofL_length (l : IL) (s : Int) : (ofL l s).length = icnt l s := by
  have : ∀ (l acc : IL), (l.foldl (fun out p => if p.1.1 = s then insRow out p else out) acc).length = acc.length + icnt l s := by
    intro l
    induction l with
    | nil => intro acc; simp [icnt]
    | cons p l ih =>
      intro acc
      rw [List.foldl_cons, ih]
      by_cases e : p.1.1 = s
      · rw [if_pos e, insRow_length]; simp [icnt, e]; omega
      · rw [if_neg e]; simp [icnt, e]
  have h := this l []
  rw [List.length_nil, Nat.zero_add] at h
  exact h
theorem cut_at {out : IL} {d : Int} {k : Nat} (hk : k ≤ out.length) (h1 : ∀ j, j < k → ∀ q, out[j]? = some q → lower d q = true) (h2 : ∀ q, out[k]? = some q → lower d q = false) :
    out.take k = out.takeWhile (lower d) ∧ out.drop k = out.dropWhile (lower d) := by
  induction out generalizing k with
  | nil => have : k = 0 := by simpa using hk
           subst this; simp
  | cons q out ih =>
    cases k with
    | zero =>
      have := h2 q (by simp)
      simp [this]
    | succ k =>
      have h0 := h1 0 (by omega) q (by simp)
      obtain ⟨i1, i2⟩ := ih (k := k) (by simpa using hk) (fun j hj q' hq' => h1 (j + 1) (by omega) q' (by simpa using hq')) (fun q' hq' => h2 q' (by simpa using hq'))
      simp [h0, i1, i2]

theorem low_more {O : IL} {d : Int} {j : Nat} {q0 : IP} (h : ∀ x, x < j → ∀ q, O[x]? = some q → lower d q = true) (h0 : O[j]? = some q0) (hl : lower d q0 = true) : ∀ x, x < j + 1 → ∀ q, O[x]? = some q → lower d q = true := by
  intro x hx q hq
  by_cases e : x = j
  · subst e; rw [h0] at hq; cases hq; exact hl
  · exact h x (by omega) q hq
def OfRel (l : IL) (s : Int) (w : World) (n : Nat) (out i : Value) (wr : World) : Prop :=
  ∃ k : Nat, k ≤ l.length ∧ n = l.length - k + 1 ∧ i = .int .i64 k ∧ SlAt 78 3 rowE wr out (ofL (l.take k) s) ∧ Fresh w.heap.size out ∧ Chg [] w wr

set_option maxRecDepth 100000 in
set_option maxHeartbeats 2000000 in
theorem of_any (w : World) (r : Nat) (l : IL) (h : RAt w r l) (s : Int) (hlen : l.length ≤ 1000) :
    Calls Try.prog 17 #[.pointer (some ⟨r, 0, none⟩), .int .i64 s] w fun e w' => ∃ v, e = .returned v ∧ SlAt 78 3 rowE w' v (ofL l s) ∧ Fresh w.heap.size v ∧ Chg [] w w' := by
  have hr := h.lt
  obtain ⟨vL, hb, hs⟩ := h
  obtain ⟨A, c, rfl, _, hA⟩ := hs.form
  go_enter Try.func17, Try.ntmps17
  go_wp2
  go_loopg [5, 6] (l.length + 1) (fun n out i wr => OfRel l s w n out i wr)
  case atStart => exact ⟨0, Nat.zero_le _, rfl, rfl, SlAt.nil _ _ _ _, Fresh.none, Chg.refl _ _⟩
  case round =>
    obtain ⟨k, hk, hn, rfl, hs5, hF, hC⟩ := hrel
    have Hn := Lib.hid hn
    clear hn
    have hbr := hC.at_ hb (by simp)
    have c0 := blk1 hbr
    have hrr := blk_lt hbr
    by_cases hlt : k < l.length
    · obtain ⟨g, rfl⟩ := hA (by omega)
      obtain ⟨⟨⟨p1, p2⟩, p3⟩, hp⟩ : ∃ p, l[k]? = some p := ⟨l[k], by simp [hlt]⟩
      obtain ⟨e0, e1, e2⟩ := rows_at (hs.chg hC (by simp)) hp
      have hts := take_succ' hp
      have ho := ofL_snoc (l.take k) ((p1, p2), p3) s
      rw [← hts] at ho
      have hib := ofL_length (l.take k) s
      have hib2 := icnt_le (l.take k) s
      have htl : (l.take k).length ≤ k := List.length_take_le _ _
      have hol : (ofL (l.take k) s).length ≤ 1000 := by omega
      clear hib hib2 htl
      by_cases hps : p1 = s
      · have t1 : (p1 != s) = false := by simp [hps]
        rw [if_pos hps] at ho
        have Hio := Lib.hid ho
        clear hps ho hts hp
        obtain ⟨O, hO⟩ : ∃ O, O = ofL (l.take k) s := ⟨_, rfl⟩
        rw [← hO] at hs5 hol
        have HO := Lib.hid hO
        clear hO
        obtain ⟨A5, c5, rfl, _, hA5⟩ := hs5.form
        obtain ⟨wo, rfl⟩ : ∃ wo : World, wo = wr := ⟨_, rfl⟩
        go_upto_block 2 with fail
        go_cut [7] from 27 to 48 (fun u7 W => ∃ j m : Nat, j ≤ O.length ∧ u7 = .int .i64 j ∧ W = wo.drewN m ∧ (∀ x, x < j → ∀ q, O[x]? = some q → lower p2 q = true) ∧ ∀ q, O[j]? = some q → lower p2 q = false)
        case first =>
          go_wp2
          go_loopg [7] (O.length + 1) (fun n i W => ∃ j m : Nat, j ≤ O.length ∧ n = O.length - j + 1 ∧ i = .int .i64 j ∧ W = wo.drewN m ∧ ∀ x, x < j → ∀ q, O[x]? = some q → lower p2 q = true)
          case atStart => exact ⟨0, 0, Nat.zero_le _, rfl, rfl, rfl, fun x hx => by omega⟩
          case round =>
            obtain ⟨j, m, hj, hn, rfl, rfl, hlow⟩ := hrel
            have Hj := Lib.hid (And.intro hn hlow)
            clear hn hlow
            by_cases hjl : j < O.length
            · obtain ⟨g5, rfl⟩ := hA5 (by omega)
              obtain ⟨⟨⟨q1, q2⟩, q3⟩, hq⟩ : ∃ q, O[j]? = some q := ⟨O[j], by simp [hjl]⟩
              obtain ⟨_, d1, _⟩ := rows_at hs5 hq
              have Hq := Lib.hid hq
              clear hq
              have j0 : (0 : Int) ≤ (j : Int) := Int.natCast_nonneg _
              have j1 : (j : Int) < (O.length : Int) := by omega
              have j2 : decide ((j : Int) < (O.length : Int)) = true := by simp; omega
              have k0 : (0 : Int) ≤ (k : Int) := Int.natCast_nonneg _
              have k1 : (k : Int) < (l.length : Int) := by omega
              by_cases hlo : q2 < p2
              · have t2 : decide (q2 < p2) = true := by simp [hlo]
                go_wp2
                go_quiet (fail)
                go_wp2
                go_roundg (O.length - (j + 1) + 1)
                case measure => rw [Hj.out.1]; omega
                case rel => exact ⟨j + 1, m + nq, by omega, rfl, by go_num, rfl, low_more Hj.out.2 Hq.out (by simp [lower, hlo])⟩
              · have t2 : decide (q2 < p2) = false := by simp [hlo]
                go_wp2
                go_quiet (fail)
                go_wp2_with fail
                go_meet
                exact ⟨j, m + nq, hj, rfl, by rw [World.drewN_drewN], Hj.out.2, fun q hq => by rw [Hq.out] at hq; cases hq; simp [lower, hlo]⟩
            · have j2 : decide ((j : Int) < (O.length : Int)) = false := by simp; omega
              go_wp2
              go_quiet (fail)
              go_wp2_with fail
              go_meet
              exact ⟨j, m + nq, hj, rfl, by rw [World.drewN_drewN], Hj.out.2, fun q hq => by have := (List.getElem?_eq_some_iff.1 hq).1; omega⟩
        case rest =>
          obtain ⟨j, m, hj, rfl, rfl, hlow, hnot⟩ := hcut
          have hcuts := cut_at (d := p2) hj hlow hnot
          have hins : [] ++ O.take j ++ [((p1, p2), p3)] ++ O.drop j = insRow O ((p1, p2), p3) := by
            rw [hcuts.1, hcuts.2]; simp [insRow]
          have Hins := Lib.hid hins
          clear hins hcuts hlow hnot
          have hCb := hC.trans (Chg.drewN [] wo m)
          have hsb := hs5.chg (Chg.drewN [] wo m) (by simp)
          have f0 := (Chg.drewN [] wo m).cell c0 (by simp)
          have f1 := (Chg.drewN [] wo m).cell e0 (by simp)
          have f2 := (Chg.drewN [] wo m).cell e1 (by simp)
          have f3 := (Chg.drewN [] wo m).cell e2 (by simp)
          obtain ⟨wb, hwb⟩ : ∃ wb, wb = wo.drewN m := ⟨_, rfl⟩
          rw [← hwb] at hCb hsb f0 f1 f2 f3 ⊢
          clear hwb hC hs5 c0 e0 e1 e2 hbr hrr
          have hbr := hCb.at_ hb (by simp)
          have hrb := blk_lt hbr
          obtain ⟨_, hc5, hnone, hsome⟩ := hsb.cap
          have j0 : (0 : Int) ≤ (j : Int) := Int.natCast_nonneg _
          have j1 : (j : Int) ≤ (c5 : Int) := by omega
          have j2 : (j : Int) ≤ (O.length : Int) := by omega
          have k0 : (0 : Int) ≤ (k : Int) := Int.natCast_nonneg _
          have k1 : (k : Int) < (l.length : Int) := by omega
          have hj2 : j ≤ c5 := by omega
          -- three worlds, by the order of the two small blocks
          have hl1 : ([] : IL).length + (O.take j).length ≤ 1000000 := by simp; omega
          have hl2 : ([] ++ O.take j).length + [((p1, p2), p3)].length ≤ 1000000 := by simp; omega
          have hl3 : ([] ++ O.take j ++ [((p1, p2), p3)]).length + (O.drop j).length ≤ 1000000 := by simp; omega
          have hg0 : (⟨g, k * 3, none⟩ : Addr).block < wb.heap.size := World.block_lt_of_cell? wb _ f1
          have hg1 : g < wb.heap.size := hg0
          clear hg0
          by_cases hck : c5 = j
          · have hOj : O.length = j := by omega
            have hd0 : O.drop j = [] := by rw [List.drop_eq_nil_iff]; omega
            have z1 : O.length - j = 0 := by omega
            cases A5 with
            | none =>
              obtain ⟨h5, h6⟩ := hnone rfl
              subst h5
              have hj0 : j = 0 := by omega
              subst hj0
              have hU1 : SrcAt rowE wb (.slice none 0 0) (O.take 0) := by rw [List.take_zero]; exact SrcAt.nil
              have hU2 : SrcAt rowE wb (.slice none 0 0) (O.drop 0) := by rw [hd0]; exact SrcAt.nil
              have HU := Lib.hid (And.intro hU1 hU2)
              have Z := Lib.hid (And.intro hd0 (And.intro h6 hOj))
              clear hd0 h6 hOj hU1 hU2 z1 hck
              have hA1 : Chg [] wb (wb.alloc (.cells #[] 78)).drew := (Chg.alloc [] wb _).trans (Chg.drew _ _)
              have hA2 : Chg [] wb ((wb.alloc (.cells #[] 78)).alloc (.cells #[.int .i64 p1, .int .i64 p2, .int .i64 p3] 78)).drew := ((Chg.alloc [] wb _).trans (Chg.alloc _ _ _)).trans (Chg.drew _ _)
              have hA3 : Chg [] wb ((wb.alloc (.cells #[.int .i64 p1, .int .i64 p2, .int .i64 p3] 78)).alloc (.cells #[] 78)).drew := ((Chg.alloc [] wb _).trans (Chg.alloc _ _ _)).trans (Chg.drew _ _)
              have s1 : ∀ o : Obj, (wb.alloc o).heap.size = wb.heap.size + 1 := fun o => by simp
              have q1 : (wb.alloc (.cells #[] 78)).drew.heap[wb.heap.size]? = some (.cells #[] 78 (0, 0)) := heap_alloc_new wb _
              have q2 : ((wb.alloc (.cells #[] 78)).alloc (.cells #[.int .i64 p1, .int .i64 p2, .int .i64 p3] 78)).drew.heap[wb.heap.size]? = some (.cells #[] 78 (0, 0)) := (Chg.alloc [] _ _).at_ (heap_alloc_new wb _) (by simp)
              have q2r : ((wb.alloc (.cells #[] 78)).alloc (.cells #[.int .i64 p1, .int .i64 p2, .int .i64 p3] 78)).drew.heap[wb.heap.size + 1]? = some (.cells #[.int .i64 p1, .int .i64 p2, .int .i64 p3] 78 (0, 0)) := by
                have := heap_alloc_new (wb.alloc (.cells #[] 78)) (.cells #[.int .i64 p1, .int .i64 p2, .int .i64 p3] 78); rw [s1] at this; exact this
              have q3 : ((wb.alloc (.cells #[.int .i64 p1, .int .i64 p2, .int .i64 p3] 78)).alloc (.cells #[] 78)).drew.heap[wb.heap.size + 1]? = some (.cells #[] 78 (0, 0)) := by
                have := heap_alloc_new (wb.alloc (.cells #[.int .i64 p1, .int .i64 p2, .int .i64 p3] 78)) (.cells #[] 78); rw [s1] at this; exact this
              have q3r : ((wb.alloc (.cells #[.int .i64 p1, .int .i64 p2, .int .i64 p3] 78)).alloc (.cells #[] 78)).drew.heap[wb.heap.size]? = some (.cells #[.int .i64 p1, .int .i64 p2, .int .i64 p3] 78 (0, 0)) := (Chg.alloc [] _ _).at_ (heap_alloc_new wb _) (by simp)
              have H := Lib.hid (And.intro q1 (And.intro q2 (And.intro q2r (And.intro q3 q3r))))
              clear q1 q2 q2r q3 q3r s1
              go_wp2_with fail
              go_region_held3 (fun w' => w'.cell? ⟨r, 0, none⟩ = some (.slice (some ⟨g, 0, none⟩) l.length c) ∧ w'.cell? ⟨g, k * 3, none⟩ = some (.int .i64 p1) ∧ w'.cell? ⟨g, k * 3 + 1, none⟩ = some (.int .i64 p2) ∧ w'.cell? ⟨g, k * 3 + 2, none⟩ = some (.int .i64 p3))
                (first
                  | go_keep
                  | (exact ⟨hC1.cell f0 (by simp), hC1.cell f1 (by simp), hC1.cell f2 (by simp), hC1.cell f3 (by simp)⟩)
                  | (exact ⟨hC2.cell f0 (by simp), hC2.cell f1 (by simp), hC2.cell f2 (by simp), hC2.cell f3 (by simp)⟩)
                  | (exact ⟨hC3.cell f0 (by simp), hC3.cell f1 (by simp), hC3.cell f2 (by simp), hC3.cell f3 (by simp)⟩)
                  | (exact ⟨(hC1.trans (Chg.alloc [] W1 _)).cell f0 (by simp), (hC1.trans (Chg.alloc [] W1 _)).cell f1 (by simp), (hC1.trans (Chg.alloc [] W1 _)).cell f2 (by simp), (hC1.trans (Chg.alloc [] W1 _)).cell f3 (by simp)⟩))
                (first
                  | (refine step_append' rfl _ _ 27 rfl rowR elem27 hA1 (SlAt.empty H.out.1 rfl) (Fresh.of (Nat.le_refl _)) (HU.out.1.chg hA1 (by simp)) rfl rfl hl1 (by omega) ?_; intro v1 W1 hs1 hC1 hF1 hg1)
                  | (refine step_append' rfl _ _ 27 rfl rowR elem27 hA2 (SlAt.empty H.out.2.1 rfl) (Fresh.of (Nat.le_refl _)) (HU.out.1.chg hA2 (by simp)) rfl rfl hl1 (by omega) ?_; intro v1 W1 hs1 hC1 hF1 hg1)
                  | (refine step_append' rfl _ _ 27 rfl rowR elem27 hA3 (SlAt.empty H.out.2.2.2.1 rfl) (Fresh.of (by omega)) (HU.out.1.chg hA3 (by simp)) rfl rfl hl1 (by omega) ?_; intro v1 W1 hs1 hC1 hF1 hg1)
                  | (refine step_append' rfl _ _ 27 rfl rowR elem27 (hC1.trans (Chg.alloc [] W1 (.cells #[.int .i64 p1, .int .i64 p2, .int .i64 p3] 78))) (hs1.chg (Chg.alloc [] W1 (.cells #[.int .i64 p1, .int .i64 p2, .int .i64 p3] 78)) (by simp)) hF1 (SrcAt.one (renc := rowE) (a := ((p1, p2), p3)) (t := 78) (fr := (0, 0)) (by exact heap_alloc_new W1 (.cells #[.int .i64 p1, .int .i64 p2, .int .i64 p3] 78)) 1) rfl rfl hl2 (by omega) ?_; intro v2 W2 hs2 hC2 hF2 hg2)
                  | (refine step_append' rfl _ _ 27 rfl rowR elem27 hC1 hs1 hF1 (SrcAt.one (renc := rowE) (a := ((p1, p2), p3)) (t := 78) (fr := (0, 0)) (by exact (hg1.block _ (by simp) (by simp [Value.ownBlock])).trans H.out.2.2.1) 1) rfl rfl hl2 (by omega) ?_; intro v2 W2 hs2 hC2 hF2 hg2)
                  | (refine step_append' rfl _ _ 27 rfl rowR elem27 hC1 hs1 hF1 (SrcAt.one (renc := rowE) (a := ((p1, p2), p3)) (t := 78) (fr := (0, 0)) (by exact (hg1.block _ (by simp; omega) (by simp [Value.ownBlock])).trans H.out.2.2.2.2) 1) rfl rfl hl2 (by omega) ?_; intro v2 W2 hs2 hC2 hF2 hg2)
                  | (refine step_append' rfl _ _ 27 rfl rowR elem27 hC2 hs2 hF2 (HU.out.2.chg hC2 (by simp)) rfl rfl hl3 (by omega) ?_; intro v3 W3 hs3 hC3 hF3 hg3))
              all_goals
                have hC4 : Chg [] w W3 := hCb.trans hC3
                have hF4 : Fresh w.heap.size v3 := hF3.mono hCb.size
                rw [Hins.out] at hs3
                have hIO := Hio.out
                rw [← HO.out] at hIO
                have HIO := Lib.hid hIO
                clear hIO hC3 hF3 hg3 hs2 hC2 hF2 hg2 hs1 hC1 hF1 hg1 H HU hA1 hA2 hA3 f0 f1 f2 f3 hCb hsb hbr hrb Hins Hio
                go_wp2
                go_roundg (l.length - (k + 1) + 1)
                case measure => rw [Hn.out]; omega
                case rel => exact ⟨k + 1, by omega, rfl, by go_num, by rw [HIO.out]; exact hs3, hF4, hC4⟩
            | some x =>
              obtain ⟨g5, rfl⟩ := hsome x rfl
              subst hck
              have hU1 : SrcAt rowE wb (.slice (some ⟨g5, 0, none⟩) c5 c5) (O.take c5) := hsb.src_take (by omega) _
              have hU2 : SrcAt rowE wb (.slice (some ⟨g5, 0, none⟩) 0 0) (O.drop c5) := by rw [hd0]; exact SrcAt.nil
              have HU := Lib.hid (And.intro hU1 hU2)
              have Z := Lib.hid (And.intro hd0 hOj)
              clear hd0 hOj hU1 hU2
              have hA1 : Chg [] wb (wb.alloc (.cells #[] 78)).drew := (Chg.alloc [] wb _).trans (Chg.drew _ _)
              have hA2 : Chg [] wb ((wb.alloc (.cells #[] 78)).alloc (.cells #[.int .i64 p1, .int .i64 p2, .int .i64 p3] 78)).drew := ((Chg.alloc [] wb _).trans (Chg.alloc _ _ _)).trans (Chg.drew _ _)
              have hA3 : Chg [] wb ((wb.alloc (.cells #[.int .i64 p1, .int .i64 p2, .int .i64 p3] 78)).alloc (.cells #[] 78)).drew := ((Chg.alloc [] wb _).trans (Chg.alloc _ _ _)).trans (Chg.drew _ _)
              have s1 : ∀ o : Obj, (wb.alloc o).heap.size = wb.heap.size + 1 := fun o => by simp
              have q1 : (wb.alloc (.cells #[] 78)).drew.heap[wb.heap.size]? = some (.cells #[] 78 (0, 0)) := heap_alloc_new wb _
              have q2 : ((wb.alloc (.cells #[] 78)).alloc (.cells #[.int .i64 p1, .int .i64 p2, .int .i64 p3] 78)).drew.heap[wb.heap.size]? = some (.cells #[] 78 (0, 0)) := (Chg.alloc [] _ _).at_ (heap_alloc_new wb _) (by simp)
              have q2r : ((wb.alloc (.cells #[] 78)).alloc (.cells #[.int .i64 p1, .int .i64 p2, .int .i64 p3] 78)).drew.heap[wb.heap.size + 1]? = some (.cells #[.int .i64 p1, .int .i64 p2, .int .i64 p3] 78 (0, 0)) := by
                have := heap_alloc_new (wb.alloc (.cells #[] 78)) (.cells #[.int .i64 p1, .int .i64 p2, .int .i64 p3] 78); rw [s1] at this; exact this
              have q3 : ((wb.alloc (.cells #[.int .i64 p1, .int .i64 p2, .int .i64 p3] 78)).alloc (.cells #[] 78)).drew.heap[wb.heap.size + 1]? = some (.cells #[] 78 (0, 0)) := by
                have := heap_alloc_new (wb.alloc (.cells #[.int .i64 p1, .int .i64 p2, .int .i64 p3] 78)) (.cells #[] 78); rw [s1] at this; exact this
              have q3r : ((wb.alloc (.cells #[.int .i64 p1, .int .i64 p2, .int .i64 p3] 78)).alloc (.cells #[] 78)).drew.heap[wb.heap.size]? = some (.cells #[.int .i64 p1, .int .i64 p2, .int .i64 p3] 78 (0, 0)) := (Chg.alloc [] _ _).at_ (heap_alloc_new wb _) (by simp)
              have H := Lib.hid (And.intro q1 (And.intro q2 (And.intro q2r (And.intro q3 q3r))))
              clear q1 q2 q2r q3 q3r s1
              go_wp2_with fail
              go_region_held3 (fun w' => w'.cell? ⟨r, 0, none⟩ = some (.slice (some ⟨g, 0, none⟩) l.length c) ∧ w'.cell? ⟨g, k * 3, none⟩ = some (.int .i64 p1) ∧ w'.cell? ⟨g, k * 3 + 1, none⟩ = some (.int .i64 p2) ∧ w'.cell? ⟨g, k * 3 + 2, none⟩ = some (.int .i64 p3))
                (first
                  | go_keep
                  | (exact ⟨hC1.cell f0 (by simp), hC1.cell f1 (by simp), hC1.cell f2 (by simp), hC1.cell f3 (by simp)⟩)
                  | (exact ⟨hC2.cell f0 (by simp), hC2.cell f1 (by simp), hC2.cell f2 (by simp), hC2.cell f3 (by simp)⟩)
                  | (exact ⟨hC3.cell f0 (by simp), hC3.cell f1 (by simp), hC3.cell f2 (by simp), hC3.cell f3 (by simp)⟩)
                  | (exact ⟨(hC1.trans (Chg.alloc [] W1 _)).cell f0 (by simp), (hC1.trans (Chg.alloc [] W1 _)).cell f1 (by simp), (hC1.trans (Chg.alloc [] W1 _)).cell f2 (by simp), (hC1.trans (Chg.alloc [] W1 _)).cell f3 (by simp)⟩))
                (first
                  | (refine step_append' rfl _ _ 27 rfl rowR elem27 hA1 (SlAt.empty H.out.1 rfl) (Fresh.of (Nat.le_refl _)) (HU.out.1.chg hA1 (by simp)) rfl rfl hl1 (by omega) ?_; intro v1 W1 hs1 hC1 hF1 hg1)
                  | (refine step_append' rfl _ _ 27 rfl rowR elem27 hA2 (SlAt.empty H.out.2.1 rfl) (Fresh.of (Nat.le_refl _)) (HU.out.1.chg hA2 (by simp)) rfl rfl hl1 (by omega) ?_; intro v1 W1 hs1 hC1 hF1 hg1)
                  | (refine step_append' rfl _ _ 27 rfl rowR elem27 hA3 (SlAt.empty H.out.2.2.2.1 rfl) (Fresh.of (by omega)) (HU.out.1.chg hA3 (by simp)) rfl rfl hl1 (by omega) ?_; intro v1 W1 hs1 hC1 hF1 hg1)
                  | (refine step_append' rfl _ _ 27 rfl rowR elem27 (hC1.trans (Chg.alloc [] W1 (.cells #[.int .i64 p1, .int .i64 p2, .int .i64 p3] 78))) (hs1.chg (Chg.alloc [] W1 (.cells #[.int .i64 p1, .int .i64 p2, .int .i64 p3] 78)) (by simp)) hF1 (SrcAt.one (renc := rowE) (a := ((p1, p2), p3)) (t := 78) (fr := (0, 0)) (by exact heap_alloc_new W1 (.cells #[.int .i64 p1, .int .i64 p2, .int .i64 p3] 78)) 1) rfl rfl hl2 (by omega) ?_; intro v2 W2 hs2 hC2 hF2 hg2)
                  | (refine step_append' rfl _ _ 27 rfl rowR elem27 hC1 hs1 hF1 (SrcAt.one (renc := rowE) (a := ((p1, p2), p3)) (t := 78) (fr := (0, 0)) (by exact (hg1.block _ (by simp) (by simp [Value.ownBlock])).trans H.out.2.2.1) 1) rfl rfl hl2 (by omega) ?_; intro v2 W2 hs2 hC2 hF2 hg2)
                  | (refine step_append' rfl _ _ 27 rfl rowR elem27 hC1 hs1 hF1 (SrcAt.one (renc := rowE) (a := ((p1, p2), p3)) (t := 78) (fr := (0, 0)) (by exact (hg1.block _ (by simp; omega) (by simp [Value.ownBlock])).trans H.out.2.2.2.2) 1) rfl rfl hl2 (by omega) ?_; intro v2 W2 hs2 hC2 hF2 hg2)
                  | (refine step_append' rfl _ _ 27 rfl rowR elem27 hC2 hs2 hF2 (HU.out.2.chg hC2 (by simp)) rfl rfl hl3 (by omega) ?_; intro v3 W3 hs3 hC3 hF3 hg3))
              all_goals
                have hC4 : Chg [] w W3 := hCb.trans hC3
                have hF4 : Fresh w.heap.size v3 := hF3.mono hCb.size
                rw [Hins.out] at hs3
                have hIO := Hio.out
                rw [← HO.out] at hIO
                have HIO := Lib.hid hIO
                clear hIO hC3 hF3 hg3 hs2 hC2 hF2 hg2 hs1 hC1 hF1 hg1 H HU hA1 hA2 hA3 f0 f1 f2 f3 hCb hsb hbr hrb Hins Hio
                go_wp2
                go_roundg (l.length - (k + 1) + 1)
                case measure => rw [Hn.out]; omega
                case rel => exact ⟨k + 1, by omega, rfl, by go_num, by rw [HIO.out]; exact hs3, hF4, hC4⟩
          · obtain ⟨g5, rfl⟩ : ∃ g, A5 = some ⟨g, 0, none⟩ := by
              cases A5 with
              | none => have := hnone rfl; omega
              | some x => obtain ⟨g, rfl⟩ := hsome x rfl; exact ⟨g, rfl⟩
            have hU1 : SrcAt rowE wb (.slice (some ⟨g5, 0, none⟩) j c5) (O.take j) := hsb.src_take (by omega) _
            have hU2 : SrcAt rowE wb (.slice (some ⟨g5, j * 3, none⟩) (O.length - j) (c5 - j)) (O.drop j) := hsb.src_drop rowR (by omega) _ _ rfl
            have HU := Lib.hid (And.intro hU1 hU2)
            clear hU1 hU2
            have hA1 : Chg [] wb (wb.alloc (.cells #[] 78)).drew := (Chg.alloc [] wb _).trans (Chg.drew _ _)
            have hA2 : Chg [] wb ((wb.alloc (.cells #[] 78)).alloc (.cells #[.int .i64 p1, .int .i64 p2, .int .i64 p3] 78)).drew := ((Chg.alloc [] wb _).trans (Chg.alloc _ _ _)).trans (Chg.drew _ _)
            have hA3 : Chg [] wb ((wb.alloc (.cells #[.int .i64 p1, .int .i64 p2, .int .i64 p3] 78)).alloc (.cells #[] 78)).drew := ((Chg.alloc [] wb _).trans (Chg.alloc _ _ _)).trans (Chg.drew _ _)
            have s1 : ∀ o : Obj, (wb.alloc o).heap.size = wb.heap.size + 1 := fun o => by simp
            have q1 : (wb.alloc (.cells #[] 78)).drew.heap[wb.heap.size]? = some (.cells #[] 78 (0, 0)) := heap_alloc_new wb _
            have q2 : ((wb.alloc (.cells #[] 78)).alloc (.cells #[.int .i64 p1, .int .i64 p2, .int .i64 p3] 78)).drew.heap[wb.heap.size]? = some (.cells #[] 78 (0, 0)) := (Chg.alloc [] _ _).at_ (heap_alloc_new wb _) (by simp)
            have q2r : ((wb.alloc (.cells #[] 78)).alloc (.cells #[.int .i64 p1, .int .i64 p2, .int .i64 p3] 78)).drew.heap[wb.heap.size + 1]? = some (.cells #[.int .i64 p1, .int .i64 p2, .int .i64 p3] 78 (0, 0)) := by
              have := heap_alloc_new (wb.alloc (.cells #[] 78)) (.cells #[.int .i64 p1, .int .i64 p2, .int .i64 p3] 78); rw [s1] at this; exact this
            have q3 : ((wb.alloc (.cells #[.int .i64 p1, .int .i64 p2, .int .i64 p3] 78)).alloc (.cells #[] 78)).drew.heap[wb.heap.size + 1]? = some (.cells #[] 78 (0, 0)) := by
              have := heap_alloc_new (wb.alloc (.cells #[.int .i64 p1, .int .i64 p2, .int .i64 p3] 78)) (.cells #[] 78); rw [s1] at this; exact this
            have q3r : ((wb.alloc (.cells #[.int .i64 p1, .int .i64 p2, .int .i64 p3] 78)).alloc (.cells #[] 78)).drew.heap[wb.heap.size]? = some (.cells #[.int .i64 p1, .int .i64 p2, .int .i64 p3] 78 (0, 0)) := (Chg.alloc [] _ _).at_ (heap_alloc_new wb _) (by simp)
            have H := Lib.hid (And.intro q1 (And.intro q2 (And.intro q2r (And.intro q3 q3r))))
            clear q1 q2 q2r q3 q3r s1
            go_wp2_with fail
            go_region_held3 (fun w' => w'.cell? ⟨r, 0, none⟩ = some (.slice (some ⟨g, 0, none⟩) l.length c) ∧ w'.cell? ⟨g, k * 3, none⟩ = some (.int .i64 p1) ∧ w'.cell? ⟨g, k * 3 + 1, none⟩ = some (.int .i64 p2) ∧ w'.cell? ⟨g, k * 3 + 2, none⟩ = some (.int .i64 p3))
              (first
                | go_keep
                | (exact ⟨hC1.cell f0 (by simp), hC1.cell f1 (by simp), hC1.cell f2 (by simp), hC1.cell f3 (by simp)⟩)
                | (exact ⟨hC2.cell f0 (by simp), hC2.cell f1 (by simp), hC2.cell f2 (by simp), hC2.cell f3 (by simp)⟩)
                | (exact ⟨hC3.cell f0 (by simp), hC3.cell f1 (by simp), hC3.cell f2 (by simp), hC3.cell f3 (by simp)⟩)
                | (exact ⟨(hC1.trans (Chg.alloc [] W1 _)).cell f0 (by simp), (hC1.trans (Chg.alloc [] W1 _)).cell f1 (by simp), (hC1.trans (Chg.alloc [] W1 _)).cell f2 (by simp), (hC1.trans (Chg.alloc [] W1 _)).cell f3 (by simp)⟩))
              (first
                | (refine step_append' rfl _ _ 27 rfl rowR elem27 hA1 (SlAt.empty H.out.1 rfl) (Fresh.of (Nat.le_refl _)) (HU.out.1.chg hA1 (by simp)) rfl rfl hl1 (by omega) ?_; intro v1 W1 hs1 hC1 hF1 hg1)
                | (refine step_append' rfl _ _ 27 rfl rowR elem27 hA2 (SlAt.empty H.out.2.1 rfl) (Fresh.of (Nat.le_refl _)) (HU.out.1.chg hA2 (by simp)) rfl rfl hl1 (by omega) ?_; intro v1 W1 hs1 hC1 hF1 hg1)
                | (refine step_append' rfl _ _ 27 rfl rowR elem27 hA3 (SlAt.empty H.out.2.2.2.1 rfl) (Fresh.of (by omega)) (HU.out.1.chg hA3 (by simp)) rfl rfl hl1 (by omega) ?_; intro v1 W1 hs1 hC1 hF1 hg1)
                | (refine step_append' rfl _ _ 27 rfl rowR elem27 (hC1.trans (Chg.alloc [] W1 (.cells #[.int .i64 p1, .int .i64 p2, .int .i64 p3] 78))) (hs1.chg (Chg.alloc [] W1 (.cells #[.int .i64 p1, .int .i64 p2, .int .i64 p3] 78)) (by simp)) hF1 (SrcAt.one (renc := rowE) (a := ((p1, p2), p3)) (t := 78) (fr := (0, 0)) (by exact heap_alloc_new W1 (.cells #[.int .i64 p1, .int .i64 p2, .int .i64 p3] 78)) 1) rfl rfl hl2 (by omega) ?_; intro v2 W2 hs2 hC2 hF2 hg2)
                | (refine step_append' rfl _ _ 27 rfl rowR elem27 hC1 hs1 hF1 (SrcAt.one (renc := rowE) (a := ((p1, p2), p3)) (t := 78) (fr := (0, 0)) (by exact (hg1.block _ (by simp) (by simp [Value.ownBlock])).trans H.out.2.2.1) 1) rfl rfl hl2 (by omega) ?_; intro v2 W2 hs2 hC2 hF2 hg2)
                | (refine step_append' rfl _ _ 27 rfl rowR elem27 hC1 hs1 hF1 (SrcAt.one (renc := rowE) (a := ((p1, p2), p3)) (t := 78) (fr := (0, 0)) (by exact (hg1.block _ (by simp; omega) (by simp [Value.ownBlock])).trans H.out.2.2.2.2) 1) rfl rfl hl2 (by omega) ?_; intro v2 W2 hs2 hC2 hF2 hg2)
                | (refine step_append' rfl _ _ 27 rfl rowR elem27 hC2 hs2 hF2 (HU.out.2.chg hC2 (by simp)) rfl rfl hl3 (by omega) ?_; intro v3 W3 hs3 hC3 hF3 hg3))
            all_goals
              have hC4 : Chg [] w W3 := hCb.trans hC3
              have hF4 : Fresh w.heap.size v3 := hF3.mono hCb.size
              rw [Hins.out] at hs3
              have hIO := Hio.out
              rw [← HO.out] at hIO
              have HIO := Lib.hid hIO
              clear hIO hC3 hF3 hg3 hs2 hC2 hF2 hg2 hs1 hC1 hF1 hg1 H HU hA1 hA2 hA3 f0 f1 f2 f3 hCb hsb hbr hrb Hins Hio
              go_wp2
              go_roundg (l.length - (k + 1) + 1)
              case measure => rw [Hn.out]; omega
              case rel => exact ⟨k + 1, by omega, rfl, by go_num, by rw [HIO.out]; exact hs3, hF4, hC4⟩
      · have t1 : (p1 != s) = true := by simp [hps]
        rw [if_neg hps] at ho
        have Hio := Lib.hid ho
        clear hps ho hts hp
        go_wp2
        go_roundg (l.length - (k + 1) + 1)
        case measure => rw [Hn.out]; omega
        case rel => exact ⟨k + 1, by omega, rfl, by go_num, by rw [Hio.out]; exact hs5, hF, hC⟩
    · have hke : k = l.length := by omega
      subst hke
      rw [List.take_length] at hs5
      go_wp2
      go_ret
      exact ⟨_, rfl, hs5, hF, hC⟩
end Go.Proofs.Ytdcjfaplgpeonaa

/-
  The law's own functions over the index: the chapter's example; one act on both.
-/
namespace Go.Proofs.Ytdcjfaplgpeonaa
open Go.RowKit Go.Dm

set_option maxRecDepth 100000 in
set_option maxHeartbeats 1000000 in
theorem alive12 (w : World) : Calls Try.prog 13 #[] w fun e w' => e = .returned (.bool true) ∧ Chg [] w w' := by
  go_enter Try.func13, Try.ntmps13
  go_wp2_with fail
  refine (new_any _).mono ?_
  rintro e W1 ⟨x, m1, m2, rfl, h1, hC1, hx, hm1, hm2⟩
  go_wp2_with fail
  refine (put_new _ x m1 m2 [] h1 0 5 3 rfl (by simp)).mono ?_
  rintro e W2 ⟨rfl, h2, hC2⟩
  have hA2 : Chg [] w W2 := hC1.trans' hC2 (by simp) (by simp; omega)
  clear hC1 hC2 h1
  go_wp2_with fail
  refine (get_any _ x m1 m2 _ h2 0 5).mono ?_
  rintro e W3 ⟨rfl, hC3⟩
  have h3 := h2.chg hC3 (by simp) (by simp) (by simp)
  have hA3 := hA2.trans hC3
  clear hC3 h2 hA2
  have e1 : mLook ([] ++ [(((0 : Int), (5 : Int)), (3 : Int))]) (0, 5) = some 3 := rfl
  simp only [e1, Option.getD_some, Option.isSome_some]
  clear e1
  go_wp2_with fail
  refine (get_any _ x m1 m2 _ h3 1 5).mono ?_
  rintro e W4 ⟨rfl, hC4⟩
  have h4 := h3.chg hC4 (by simp) (by simp) (by simp)
  have hA4 := hA3.trans hC4
  clear hC4 h3 hA3
  have e1 : mLook ([] ++ [(((0 : Int), (5 : Int)), (3 : Int))]) (1, 5) = none := rfl
  simp only [e1, Option.getD_none, Option.isSome_none]
  clear e1
  go_wp2_with fail
  refine (len_any _ x m1 m2 _ h4 0).mono ?_
  rintro e W5 ⟨rfl, rfl⟩
  have e1 : (icnt ([] ++ [(((0 : Int), (5 : Int)), (3 : Int))]) 0 : Int) = 1 := rfl
  rw [e1]
  clear e1
  go_wp2
  go_ret
  exact ⟨rfl, hA4⟩
end Go.Proofs.Ytdcjfaplgpeonaa

/-
  The law's act: one act on the program's index and on the reference's.
-/
namespace Go.Proofs.Ytdcjfaplgpeonaa
open Go.RowKit Go.Dm

/-- Both hold the same list. -/
structure Both (w : World) (x m1 m2 r : Nat) (l : IL) : Prop where
  ix : XAt w x m1 m2 l
  rf : RAt w r l
theorem Both.chg {w w' : World} {x m1 m2 r : Nat} {l : IL} (h : Both w x m1 m2 r l) (hC : Chg [] w w') : Both w' x m1 m2 r l :=
  ⟨h.ix.chg hC (by simp) (by simp) (by simp), h.rf.chg hC (by simp) (by simp)⟩
theorem isMap {w : World} {m : Nat} {κ ν : Type} {enc : κ → Value} {venc : ν → Value} {l : List (κ × ν)} (h : MapAt enc venc w m l) {b : Nat} {cs : Array Value} {t : Nat} {fr : Nat × Nat} (hb : w.heap[b]? = some (.cells cs t fr)) : b ≠ m := by
  intro e; subst e; obtain ⟨_, _, h, _⟩ := h; rw [hb] at h; cases h
theorem XAt.not_in {w : World} {x m1 m2 : Nat} {l : IL} (h : XAt w x m1 m2 l) {b : Nat} {cs : Array Value} {t : Nat} {fr : Nat × Nat} (hb : w.heap[b]? = some (.cells cs t fr)) : b ∉ [m1, m2] := by
  obtain ⟨m, hm, _⟩ := h.many
  have h1 := isMap h.ents hb
  have h2 := isMap hm hb
  simp [h1, h2]
/-- The reference is left alone by what turns the index's two maps. -/
theorem RAt.chgX {w w' : World} {x m1 m2 r : Nat} {l l' : IL} (h : RAt w r l') (hx : XAt w x m1 m2 l) (hC : Chg [m1, m2] w w') : RAt w' r l' := by
  obtain ⟨v, hb, hs⟩ := h
  have hn := hx.not_in hb
  refine ⟨v, hC.at_ hb hn, hs.chg hC fun g hg => ?_⟩
  obtain ⟨cur, hcur⟩ := hs.typed hg
  exact hx.not_in hcur
theorem XAt.chgR {w w' : World} {x m1 m2 r : Nat} {l l' : IL} (h : XAt w x m1 m2 l) (hr : RAt w r l') (hC : Chg [r] w w') : XAt w' x m1 m2 l := by
  obtain ⟨v, hb, hs⟩ := hr
  have hn := h.not_in hb
  have hx : x ≠ r := fun e => by have := h.blk; rw [e, hb] at this; cases this
  simp only [List.mem_cons, List.not_mem_nil, or_false, not_or] at hn
  exact h.chg hC (by simpa using hx) (by simpa using fun e => hn.1 e.symm) (by simpa using fun e => hn.2 e.symm)

def stepL (l : IL) (kind s sl d : Int) : IL :=
  if kind = 0 then (if (mLook l (s, d)).isSome then l else l ++ [((s, d), sl)])
  else if kind = 1 then l
  else if kind = 2 then delL l (s, d)
  else symOut l s

theorem blk4 {w : World} {b : Nat} {u0 u1 u2 u3 : Value} {t : TypeId} {fr : Nat × Nat} (h : w.heap[b]? = some (.cells #[u0, u1, u2, u3] t fr)) :
    w.cell? ⟨b, 0, none⟩ = some u0 ∧ w.cell? ⟨b, 1, none⟩ = some u1 ∧ w.cell? ⟨b, 2, none⟩ = some u2 ∧ w.cell? ⟨b, 3, none⟩ = some u3 := by
  simp [World.cell?, h]
/-- Behind the boxes of the act and of the key. -/
structure Boxed2 (w : World) (b5 b7 : Nat) (kd s sl d : Int) : Prop where
  a5 : w.heap[b5]? = some (.cells #[.int .i64 kd, .int .i64 s, .int .i64 sl, .int .i64 d] 32 (0, 0))
  a7 : w.heap[b7]? = some (.cells #[.int .i64 s, .int .i64 d] 37 (0, 0))
theorem Boxed2.new (w : World) (kd s sl d : Int) : Boxed2 ((w.alloc (.cells #[.int .i64 kd, .int .i64 s, .int .i64 sl, .int .i64 d] 32)).alloc (.cells #[.int .i64 s, .int .i64 d] 37)) w.heap.size (w.heap.size + 1) kd s sl d :=
  ⟨(Chg.alloc [] _ _).at_ (heap_alloc_new w _) (by simp), by
    have := heap_alloc_new (w.alloc (.cells #[.int .i64 kd, .int .i64 s, .int .i64 sl, .int .i64 d] 32)) (.cells #[.int .i64 s, .int .i64 d] 37)
    simpa using this⟩
theorem Boxed2.chg {w w' : World} {b5 b7 : Nat} {kd s sl d : Int} {S : List Nat} (h : Boxed2 w b5 b7 kd s sl d) (hC : Chg S w w') (h5 : b5 ∉ S) (h7 : b7 ∉ S) : Boxed2 w' b5 b7 kd s sl d := ⟨hC.at_ h.a5 h5, hC.at_ h.a7 h7⟩
theorem Boxed2.chgX {w w' : World} {b5 b7 x m1 m2 : Nat} {kd s sl d : Int} {l : IL} (h : Boxed2 w b5 b7 kd s sl d) (hx : XAt w x m1 m2 l) (hC : Chg [m1, m2] w w') : Boxed2 w' b5 b7 kd s sl d :=
  h.chg hC (hx.not_in h.a5) (hx.not_in h.a7)
theorem Boxed2.chgR {w w' : World} {b5 b7 r : Nat} {kd s sl d : Int} {l : IL} (h : Boxed2 w b5 b7 kd s sl d) (hr : RAt w r l) (hC : Chg [r] w w') : Boxed2 w' b5 b7 kd s sl d := by
  obtain ⟨v, hb, _⟩ := hr
  have n5 : b5 ≠ r := fun e => by have := h.a5; rw [e, hb] at this; cases this
  have n7 : b7 ≠ r := fun e => by have := h.a7; rw [e, hb] at this; cases this
  exact h.chg hC (by simpa using n5) (by simpa using n7)
def Cells2 (w : World) (b5 b7 : Nat) (kd s sl d : Int) : Prop :=
  w.cell? ⟨b5, 0, none⟩ = some (.int .i64 kd) ∧ w.cell? ⟨b5, 1, none⟩ = some (.int .i64 s) ∧ w.cell? ⟨b5, 2, none⟩ = some (.int .i64 sl) ∧ w.cell? ⟨b5, 3, none⟩ = some (.int .i64 d) ∧
    w.cell? ⟨b7, 0, none⟩ = some (.int .i64 s) ∧ w.cell? ⟨b7, 1, none⟩ = some (.int .i64 d)
theorem Boxed2.cells {w : World} {b5 b7 : Nat} {kd s sl d : Int} (h : Boxed2 w b5 b7 kd s sl d) : Cells2 w b5 b7 kd s sl d :=
  ⟨(blk4 h.a5).1, (blk4 h.a5).2.1, (blk4 h.a5).2.2.1, (blk4 h.a5).2.2.2, (blk2 h.a7).1, (blk2 h.a7).2⟩

set_option maxRecDepth 100000 in
set_option maxHeartbeats 2000000 in
theorem act_get (w : World) (x m1 m2 r : Nat) (l : IL) (h : Both w x m1 m2 r l) (hlen : l.length ≤ 1000) (s sl d : Int) :
    Calls Try.prog 15 #[.pointer (some ⟨x, 0, none⟩), .pointer (some ⟨r, 0, none⟩), .agg #[.int .i64 1, .int .i64 s, .int .i64 sl, .int .i64 d]] w fun e w' =>
      e = .returned (.bool true) ∧ Both w' x m1 m2 r l ∧ Chg [] w w' := by
  have hn := h.ix.ents.nodup
  have hA : Chg [] w ((w.alloc (.cells #[.int .i64 1, .int .i64 s, .int .i64 sl, .int .i64 d] 32)).alloc (.cells #[.int .i64 s, .int .i64 d] 37)) := (Chg.alloc _ _ _).trans (Chg.alloc _ _ _)
  have hB := Boxed2.new w 1 s sl d
  have h1 := h.chg hA
  go_enter Try.func15, Try.ntmps15
  go_wp2_with fail
  refine (get_any _ x m1 m2 l h1.ix s d).mono ?_
  rintro e W1 ⟨rfl, hC1⟩
  have hA2 := hA.trans hC1
  have hB2 := hB.chg hC1 (by simp) (by simp)
  have h2 := h1.chg hC1
  clear hA hB h1 hC1
  obtain ⟨d0, d1, d2, d3, _⟩ := hB2.cells
  go_wp2_with fail
  refine (rget_any _ r l h2.rf s d hn hlen).mono ?_
  rintro e W2 ⟨rfl, rfl⟩
  go_wp2
  all_goals (go_ret; exact ⟨by simp, h2, hA2⟩)

set_option maxRecDepth 100000 in
set_option maxHeartbeats 2000000 in
theorem act_put_new (w : World) (x m1 m2 r : Nat) (l : IL) (h : Both w x m1 m2 r l) (hlen : l.length ≤ 1000) (s sl d : Int) (hk : mLook l (s, d) = none) :
    Calls Try.prog 15 #[.pointer (some ⟨x, 0, none⟩), .pointer (some ⟨r, 0, none⟩), .agg #[.int .i64 0, .int .i64 s, .int .i64 sl, .int .i64 d]] w fun e w' =>
      e = .returned (.bool true) ∧ Both w' x m1 m2 r (l ++ [((s, d), sl)]) ∧ Chg [m1, m2, r] w w' := by
  have hn := h.ix.ents.nodup
  have hA : Chg [] w ((w.alloc (.cells #[.int .i64 0, .int .i64 s, .int .i64 sl, .int .i64 d] 32)).alloc (.cells #[.int .i64 s, .int .i64 d] 37)) := (Chg.alloc _ _ _).trans (Chg.alloc _ _ _)
  have hB := Boxed2.new w 0 s sl d
  have h1 := h.chg hA
  have hA1 := hA.trans (Chg.drew [] _)
  have h2 := h1.chg (Chg.drew [] _)
  have hB2 := hB.chg (Chg.drew [] _) (by simp) (by simp)
  obtain ⟨d0, d1, d2, d3, d4, d5⟩ := hB.cells
  have HK := Lib.hid hk
  clear hA h1 hB h hk
  go_enter Try.func15, Try.ntmps15
  go_wp2_with fail
  go_region_held3 (fun w' => w'.cell? ⟨w.heap.size, 1, none⟩ = some (.int .i64 s) ∧ w'.cell? ⟨w.heap.size, 2, none⟩ = some (.int .i64 sl) ∧ w'.cell? ⟨w.heap.size, 3, none⟩ = some (.int .i64 d) ∧ w'.cell? ⟨w.heap.size + 1, 0, none⟩ = some (.int .i64 s) ∧ w'.cell? ⟨w.heap.size + 1, 1, none⟩ = some (.int .i64 d))
    (first
      | go_keep
      | (exact hB4.cells.2)
      | (exact hB3.cells.2))
    (first
      | (go_at_call 18; (with_reducible refine (put_new _ x m1 m2 l h2.ix s d sl HK.out hlen).mono ?_); rintro e W3 ⟨rfl, h3, hC3⟩; have hB3 := hB2.chgX h2.ix hC3; have h3r := h2.rf.chgX h2.ix hC3)
      | (go_at_call 49; (with_reducible refine (rput_new _ r l h2.rf s d sl HK.out hn hlen).mono ?_); rintro e W3 ⟨rfl, h3, hC3⟩; have hB3 := hB2.chgR h2.rf hC3; have h3x := h2.ix.chgR h2.rf hC3)
      | (go_at_call 18; (with_reducible refine (put_new _ x m1 m2 l h3x s d sl HK.out hlen).mono ?_); rintro e W4 ⟨rfl, h4, hC4⟩; have hB4 := hB3.chgX h3x hC4; have hend : Both W4 x m1 m2 r (l ++ [((s, d), sl)]) := ⟨h4, h3.chgX h3x hC4⟩; have hCC : Chg [m1, m2, r] w W4 := (hA1.nil.trans (hC3.mono (by simp))).trans (hC4.mono (by simp)))
      | (go_at_call 49; (with_reducible refine (rput_new _ r l h3r s d sl HK.out hn hlen).mono ?_); rintro e W4 ⟨rfl, h4, hC4⟩; have hB4 := hB3.chgR h3r hC4; have hend : Both W4 x m1 m2 r (l ++ [((s, d), sl)]) := ⟨h3.chgR h3r hC4, h4⟩; have hCC : Chg [m1, m2, r] w W4 := (hA1.nil.trans (hC3.mono (by simp))).trans (hC4.mono (by simp))))
  all_goals
    clear hC4 hC3 hB4 hB3 hB2 h2 h3 h4 hA1
    go_wp2
    go_ret
    exact ⟨rfl, hend, hCC⟩
end Go.Proofs.Ytdcjfaplgpeonaa

/-
  The law's act, kind by kind. (Printed by gen_act.py.)
-/
namespace Go.Proofs.Ytdcjfaplgpeonaa
open Go.RowKit Go.Dm

theorem put_old' (w : World) (x m1 m2 : Nat) (l : IL) (h : XAt w x m1 m2 l) (k1 k2 v : Int) (hk : (mLook l (k1, k2)).isSome = true) :
    Calls Try.prog 18 #[.pointer (some ⟨x, 0, none⟩), .agg #[.int .i64 k1, .int .i64 k2], .int .i64 v] w fun e w' => e = .returned (.bool false) ∧ XAt w' x m1 m2 l ∧ Chg [m1, m2] w w' :=
  (put_old w x m1 m2 l h k1 k2 v hk).mono fun _ _ ⟨h1, h2⟩ => ⟨h1, h.chg h2 (by simp) (by simp) (by simp), h2.nil⟩
theorem drop_no' (w : World) (x m1 m2 : Nat) (l : IL) (h : XAt w x m1 m2 l) (k1 k2 : Int) (hk : mLook l (k1, k2) = none) :
    Calls Try.prog 19 #[.pointer (some ⟨x, 0, none⟩), .agg #[.int .i64 k1, .int .i64 k2]] w fun e w' => e = .returned (.bool false) ∧ XAt w' x m1 m2 l ∧ Chg [m1, m2] w w' :=
  (drop_no w x m1 m2 l h k1 k2 hk).mono fun _ _ ⟨h1, h2⟩ => ⟨h1, h.chg h2 (by simp) (by simp) (by simp), h2.nil⟩
theorem rput_old' (w : World) (r : Nat) (l : IL) (h : RAt w r l) (k1 k2 v : Int) (hk : (mLook l (k1, k2)).isSome = true) (hn : (keysL l).Nodup) (hlen : l.length ≤ 1000) :
    Calls Try.prog 49 #[.pointer (some ⟨r, 0, none⟩), .int .i64 k1, .int .i64 k2, .int .i64 v] w fun e w' => e = .returned (.bool false) ∧ RAt w' r l ∧ Chg [r] w w' :=
  (rput_old w r l h k1 k2 v hk hn hlen).mono fun _ _ ⟨h1, h2⟩ => ⟨h1, h2 ▸ h, h2 ▸ Chg.refl _ _⟩
theorem rdrop_no' (w : World) (r : Nat) (l : IL) (h : RAt w r l) (k1 k2 : Int) (hk : mLook l (k1, k2) = none) (hn : (keysL l).Nodup) (hlen : l.length ≤ 1000) :
    Calls Try.prog 51 #[.pointer (some ⟨r, 0, none⟩), .int .i64 k1, .int .i64 k2] w fun e w' => e = .returned (.bool false) ∧ RAt w' r l ∧ Chg [r] w w' :=
  (rdrop_no w r l h k1 k2 hk hn hlen).mono fun _ _ ⟨h1, h2⟩ => ⟨h1, h2 ▸ h, h2 ▸ Chg.refl _ _⟩

set_option maxRecDepth 100000 in
set_option maxHeartbeats 2000000 in
theorem act_put_old (w : World) (x m1 m2 r : Nat) (l : IL) (h : Both w x m1 m2 r l) (hlen : l.length ≤ 1000) (s sl d : Int) (hk : (mLook l (s, d)).isSome = true) :
    Calls Try.prog 15 #[.pointer (some ⟨x, 0, none⟩), .pointer (some ⟨r, 0, none⟩), .agg #[.int .i64 0, .int .i64 s, .int .i64 sl, .int .i64 d]] w fun e w' =>
      e = .returned (.bool true) ∧ Both w' x m1 m2 r l ∧ Chg [m1, m2, r] w w' := by
  have hn := h.ix.ents.nodup
  have hA : Chg [] w ((w.alloc (.cells #[.int .i64 0, .int .i64 s, .int .i64 sl, .int .i64 d] 32)).alloc (.cells #[.int .i64 s, .int .i64 d] 37)) := (Chg.alloc _ _ _).trans (Chg.alloc _ _ _)
  have hB := Boxed2.new w 0 s sl d
  have h1 := h.chg hA
  have hA1 := hA.trans (Chg.drew [] _)
  have h2 := h1.chg (Chg.drew [] _)
  have hB2 := hB.chg (Chg.drew [] _) (by simp) (by simp)
  obtain ⟨d0, d1, d2, d3, d4, d5⟩ := hB.cells
  have HK := Lib.hid hk
  clear hk
  clear hA h1 hB h
  go_enter Try.func15, Try.ntmps15
  go_wp2_with fail
  go_region_held3 (fun w' => w'.cell? ⟨w.heap.size, 1, none⟩ = some (.int .i64 s) ∧ w'.cell? ⟨w.heap.size, 2, none⟩ = some (.int .i64 sl) ∧ w'.cell? ⟨w.heap.size, 3, none⟩ = some (.int .i64 d) ∧ w'.cell? ⟨w.heap.size + 1, 0, none⟩ = some (.int .i64 s) ∧ w'.cell? ⟨w.heap.size + 1, 1, none⟩ = some (.int .i64 d))
    (first
      | go_keep
      | (exact hB4.cells.2)
      | (exact hB3.cells.2))
    (first
      | (go_at_call 18; (with_reducible refine (put_old' _ x m1 m2 l h2.ix s d sl HK.out).mono ?_); rintro e W3 ⟨rfl, h3, hC3⟩; have hB3 := hB2.chgX h2.ix hC3; have h3r := h2.rf.chgX h2.ix hC3)
      | (go_at_call 49; (with_reducible refine (rput_old' _ r l h2.rf s d sl HK.out hn hlen).mono ?_); rintro e W3 ⟨rfl, h3, hC3⟩; have hB3 := hB2.chgR h2.rf hC3; have h3x := h2.ix.chgR h2.rf hC3)
      | (go_at_call 18; (with_reducible refine (put_old' _ x m1 m2 l h3x s d sl HK.out).mono ?_); rintro e W4 ⟨rfl, h4, hC4⟩; have hB4 := hB3.chgX h3x hC4; have hend : Both W4 x m1 m2 r l := ⟨h4, h3.chgX h3x hC4⟩; have hCC : Chg [m1, m2, r] w W4 := (hA1.nil.trans (hC3.mono (by simp))).trans (hC4.mono (by simp)))
      | (go_at_call 49; (with_reducible refine (rput_old' _ r l h3r s d sl HK.out hn hlen).mono ?_); rintro e W4 ⟨rfl, h4, hC4⟩; have hB4 := hB3.chgR h3r hC4; have hend : Both W4 x m1 m2 r l := ⟨h3.chgR h3r hC4, h4⟩; have hCC : Chg [m1, m2, r] w W4 := (hA1.nil.trans (hC3.mono (by simp))).trans (hC4.mono (by simp))))
  all_goals
    clear hC4 hC3 hB4 hB3 hB2 h2 h3 h4 hA1
    go_wp2
    go_ret
    exact ⟨rfl, hend, hCC⟩

set_option maxRecDepth 100000 in
set_option maxHeartbeats 2000000 in
theorem act_drop_no (w : World) (x m1 m2 r : Nat) (l : IL) (h : Both w x m1 m2 r l) (hlen : l.length ≤ 1000) (s sl d : Int) (hk : mLook l (s, d) = none) :
    Calls Try.prog 15 #[.pointer (some ⟨x, 0, none⟩), .pointer (some ⟨r, 0, none⟩), .agg #[.int .i64 2, .int .i64 s, .int .i64 sl, .int .i64 d]] w fun e w' =>
      e = .returned (.bool true) ∧ Both w' x m1 m2 r l ∧ Chg [m1, m2, r] w w' := by
  have hn := h.ix.ents.nodup
  have hA : Chg [] w ((w.alloc (.cells #[.int .i64 2, .int .i64 s, .int .i64 sl, .int .i64 d] 32)).alloc (.cells #[.int .i64 s, .int .i64 d] 37)) := (Chg.alloc _ _ _).trans (Chg.alloc _ _ _)
  have hB := Boxed2.new w 2 s sl d
  have h1 := h.chg hA
  have hA1 := hA.trans (Chg.drew [] _)
  have h2 := h1.chg (Chg.drew [] _)
  have hB2 := hB.chg (Chg.drew [] _) (by simp) (by simp)
  obtain ⟨d0, d1, d2, d3, d4, d5⟩ := hB.cells
  have HK := Lib.hid hk
  clear hk
  clear hA h1 hB h
  go_enter Try.func15, Try.ntmps15
  go_wp2_with fail
  go_region_held3 (fun w' => w'.cell? ⟨w.heap.size, 1, none⟩ = some (.int .i64 s) ∧ w'.cell? ⟨w.heap.size, 2, none⟩ = some (.int .i64 sl) ∧ w'.cell? ⟨w.heap.size, 3, none⟩ = some (.int .i64 d) ∧ w'.cell? ⟨w.heap.size + 1, 0, none⟩ = some (.int .i64 s) ∧ w'.cell? ⟨w.heap.size + 1, 1, none⟩ = some (.int .i64 d))
    (first
      | go_keep
      | (exact hB4.cells.2)
      | (exact hB3.cells.2))
    (first
      | (go_at_call 19; (with_reducible refine (drop_no' _ x m1 m2 l h2.ix s d HK.out).mono ?_); rintro e W3 ⟨rfl, h3, hC3⟩; have hB3 := hB2.chgX h2.ix hC3; have h3r := h2.rf.chgX h2.ix hC3)
      | (go_at_call 51; (with_reducible refine (rdrop_no' _ r l h2.rf s d HK.out hn hlen).mono ?_); rintro e W3 ⟨rfl, h3, hC3⟩; have hB3 := hB2.chgR h2.rf hC3; have h3x := h2.ix.chgR h2.rf hC3)
      | (go_at_call 19; (with_reducible refine (drop_no' _ x m1 m2 l h3x s d HK.out).mono ?_); rintro e W4 ⟨rfl, h4, hC4⟩; have hB4 := hB3.chgX h3x hC4; have hend : Both W4 x m1 m2 r l := ⟨h4, h3.chgX h3x hC4⟩; have hCC : Chg [m1, m2, r] w W4 := (hA1.nil.trans (hC3.mono (by simp))).trans (hC4.mono (by simp)))
      | (go_at_call 51; (with_reducible refine (rdrop_no' _ r l h3r s d HK.out hn hlen).mono ?_); rintro e W4 ⟨rfl, h4, hC4⟩; have hB4 := hB3.chgR h3r hC4; have hend : Both W4 x m1 m2 r l := ⟨h3.chgR h3r hC4, h4⟩; have hCC : Chg [m1, m2, r] w W4 := (hA1.nil.trans (hC3.mono (by simp))).trans (hC4.mono (by simp))))
  all_goals
    clear hC4 hC3 hB4 hB3 hB2 h2 h3 h4 hA1
    go_wp2
    go_ret
    exact ⟨rfl, hend, hCC⟩

set_option maxRecDepth 100000 in
set_option maxHeartbeats 2000000 in
theorem act_drop_yes (w : World) (x m1 m2 r : Nat) (l : IL) (h : Both w x m1 m2 r l) (hlen : l.length ≤ 1000) (s sl d : Int) (hk : (mLook l (s, d)).isSome = true) :
    Calls Try.prog 15 #[.pointer (some ⟨x, 0, none⟩), .pointer (some ⟨r, 0, none⟩), .agg #[.int .i64 2, .int .i64 s, .int .i64 sl, .int .i64 d]] w fun e w' =>
      e = .returned (.bool true) ∧ Both w' x m1 m2 r (delL l (s, d)) ∧ Chg [m1, m2, r] w w' := by
  have hn := h.ix.ents.nodup
  have hA : Chg [] w ((w.alloc (.cells #[.int .i64 2, .int .i64 s, .int .i64 sl, .int .i64 d] 32)).alloc (.cells #[.int .i64 s, .int .i64 d] 37)) := (Chg.alloc _ _ _).trans (Chg.alloc _ _ _)
  have hB := Boxed2.new w 2 s sl d
  have h1 := h.chg hA
  have hA1 := hA.trans (Chg.drew [] _)
  have h2 := h1.chg (Chg.drew [] _)
  have hB2 := hB.chg (Chg.drew [] _) (by simp) (by simp)
  obtain ⟨d0, d1, d2, d3, d4, d5⟩ := hB.cells
  obtain ⟨v0, hv0⟩ := Option.isSome_iff_exists.1 hk
  have HK := Lib.hid hk
  have HV := Lib.hid hv0
  clear hk hv0
  clear hA h1 hB h
  go_enter Try.func15, Try.ntmps15
  go_wp2_with fail
  go_region_held3 (fun w' => w'.cell? ⟨w.heap.size, 1, none⟩ = some (.int .i64 s) ∧ w'.cell? ⟨w.heap.size, 2, none⟩ = some (.int .i64 sl) ∧ w'.cell? ⟨w.heap.size, 3, none⟩ = some (.int .i64 d) ∧ w'.cell? ⟨w.heap.size + 1, 0, none⟩ = some (.int .i64 s) ∧ w'.cell? ⟨w.heap.size + 1, 1, none⟩ = some (.int .i64 d))
    (first
      | go_keep
      | (exact hB4.cells.2)
      | (exact hB3.cells.2))
    (first
      | (go_at_call 19; (with_reducible refine (drop_yes _ x m1 m2 l h2.ix s d v0 HV.out hlen).mono ?_); rintro e W3 ⟨rfl, h3, hC3⟩; have hB3 := hB2.chgX h2.ix hC3; have h3r := h2.rf.chgX h2.ix hC3)
      | (go_at_call 51; (with_reducible refine (rdrop_yes _ r l h2.rf s d HK.out hn hlen).mono ?_); rintro e W3 ⟨rfl, h3, hC3⟩; have hB3 := hB2.chgR h2.rf hC3; have h3x := h2.ix.chgR h2.rf hC3)
      | (go_at_call 19; (with_reducible refine (drop_yes _ x m1 m2 l h3x s d v0 HV.out hlen).mono ?_); rintro e W4 ⟨rfl, h4, hC4⟩; have hB4 := hB3.chgX h3x hC4; have hend : Both W4 x m1 m2 r (delL l (s, d)) := ⟨h4, h3.chgX h3x hC4⟩; have hCC : Chg [m1, m2, r] w W4 := (hA1.nil.trans (hC3.mono (by simp))).trans (hC4.mono (by simp)))
      | (go_at_call 51; (with_reducible refine (rdrop_yes _ r l h3r s d HK.out hn hlen).mono ?_); rintro e W4 ⟨rfl, h4, hC4⟩; have hB4 := hB3.chgR h3r hC4; have hend : Both W4 x m1 m2 r (delL l (s, d)) := ⟨h3.chgR h3r hC4, h4⟩; have hCC : Chg [m1, m2, r] w W4 := (hA1.nil.trans (hC3.mono (by simp))).trans (hC4.mono (by simp))))
  all_goals
    clear hC4 hC3 hB4 hB3 hB2 h2 h3 h4 hA1
    go_wp2
    go_ret
    exact ⟨rfl, hend, hCC⟩

set_option maxRecDepth 100000 in
set_option maxHeartbeats 2000000 in
theorem act_clear (w : World) (x m1 m2 r : Nat) (l : IL) (h : Both w x m1 m2 r l) (hlen : l.length ≤ 1000) (kd s sl d : Int) (h0 : kd ≠ 0) (h1' : kd ≠ 1) (h2' : kd ≠ 2) :
    Calls Try.prog 15 #[.pointer (some ⟨x, 0, none⟩), .pointer (some ⟨r, 0, none⟩), .agg #[.int .i64 kd, .int .i64 s, .int .i64 sl, .int .i64 d]] w fun e w' =>
      e = .returned (.bool true) ∧ Both w' x m1 m2 r (symOut l s) ∧ Chg [m1, m2, r] w w' := by
  have hn := h.ix.ents.nodup
  have hA : Chg [] w ((w.alloc (.cells #[.int .i64 kd, .int .i64 s, .int .i64 sl, .int .i64 d] 32)).alloc (.cells #[.int .i64 s, .int .i64 d] 37)) := (Chg.alloc _ _ _).trans (Chg.alloc _ _ _)
  have hB := Boxed2.new w kd s sl d
  have h1 := h.chg hA
  have hA1 := hA.trans (Chg.drew [] _)
  have h2 := h1.chg (Chg.drew [] _)
  have hB2 := hB.chg (Chg.drew [] _) (by simp) (by simp)
  obtain ⟨d0, d1, d2, d3, d4, d5⟩ := hB.cells
  have t0 : (kd == 0) = false := by simp [h0]
  have t1 : (kd == 1) = false := by simp [h1']
  have t2 : (kd == 2) = false := by simp [h2']
  clear h0 h1' h2'
  clear hA h1 hB h
  go_enter Try.func15, Try.ntmps15
  go_wp2_with fail
  go_region_held3 (fun w' => w'.cell? ⟨w.heap.size, 1, none⟩ = some (.int .i64 s) ∧ w'.cell? ⟨w.heap.size, 2, none⟩ = some (.int .i64 sl) ∧ w'.cell? ⟨w.heap.size, 3, none⟩ = some (.int .i64 d) ∧ w'.cell? ⟨w.heap.size + 1, 0, none⟩ = some (.int .i64 s) ∧ w'.cell? ⟨w.heap.size + 1, 1, none⟩ = some (.int .i64 d))
    (first
      | go_keep
      | (exact hB4.cells.2)
      | (exact hB3.cells.2))
    (first
      | (go_at_call 20; (with_reducible refine (clear_any _ x m1 m2 l h2.ix s).mono ?_); rintro e W3 ⟨rfl, h3, hC3⟩; have hB3 := hB2.chgX h2.ix hC3; have h3r := h2.rf.chgX h2.ix hC3)
      | (go_at_call 52; (with_reducible refine (rclear_any _ r l h2.rf s hlen).mono ?_); rintro e W3 ⟨rfl, h3, hC3⟩; have hB3 := hB2.chgR h2.rf hC3; have h3x := h2.ix.chgR h2.rf hC3)
      | (go_at_call 20; (with_reducible refine (clear_any _ x m1 m2 l h3x s).mono ?_); rintro e W4 ⟨rfl, h4, hC4⟩; have hB4 := hB3.chgX h3x hC4; have hend : Both W4 x m1 m2 r (symOut l s) := ⟨h4, h3.chgX h3x hC4⟩; have hCC : Chg [m1, m2, r] w W4 := (hA1.nil.trans (hC3.mono (by simp))).trans (hC4.mono (by simp)))
      | (go_at_call 52; (with_reducible refine (rclear_any _ r l h3r s hlen).mono ?_); rintro e W4 ⟨rfl, h4, hC4⟩; have hB4 := hB3.chgR h3r hC4; have hend : Both W4 x m1 m2 r (symOut l s) := ⟨h3.chgR h3r hC4, h4⟩; have hCC : Chg [m1, m2, r] w W4 := (hA1.nil.trans (hC3.mono (by simp))).trans (hC4.mono (by simp))))
  all_goals
    clear hC4 hC3 hB4 hB3 hB2 h2 h3 h4 hA1
    go_wp2
    go_ret
    exact ⟨by simp, hend, hCC⟩

/-- One act: both answer alike, both hold the same list behind it. -/
theorem act_any (w : World) (x m1 m2 r : Nat) (l : IL) (h : Both w x m1 m2 r l) (hlen : l.length ≤ 1000) (kd s sl d : Int) :
    Calls Try.prog 15 #[.pointer (some ⟨x, 0, none⟩), .pointer (some ⟨r, 0, none⟩), .agg #[.int .i64 kd, .int .i64 s, .int .i64 sl, .int .i64 d]] w fun e w' =>
      e = .returned (.bool true) ∧ Both w' x m1 m2 r (stepL l kd s sl d) ∧ Chg [m1, m2, r] w w' := by
  unfold stepL
  by_cases h0 : kd = 0
  · subst h0
    simp only [if_true]
    by_cases hk : (mLook l (s, d)).isSome = true
    · simp only [hk, if_true]
      exact act_put_old w x m1 m2 r l h hlen s sl d hk
    · have hk0 : mLook l (s, d) = none := by simpa using hk
      simp only [hk0, Option.isSome_none, Bool.false_eq_true, if_false]
      exact act_put_new w x m1 m2 r l h hlen s sl d hk0
  by_cases h1 : kd = 1
  · subst h1
    simp only [h0, if_false, if_true]
    exact (act_get w x m1 m2 r l h hlen s sl d).mono fun _ _ ⟨a, b, c⟩ => ⟨a, b, c.nil⟩
  by_cases h2 : kd = 2
  · subst h2
    simp only [h0, h1, if_false, if_true]
    by_cases hk : (mLook l (s, d)).isSome = true
    · exact act_drop_yes w x m1 m2 r l h hlen s sl d hk
    · have hk0 : mLook l (s, d) = none := by simpa using hk
      rw [del_none hk0]
      exact act_drop_no w x m1 m2 r l h hlen s sl d hk0
  · simp only [h0, h1, h2, if_false]
    exact act_clear w x m1 m2 r l h hlen kd s sl d h0 h1 h2
end Go.Proofs.Ytdcjfaplgpeonaa

/-
  The law IndexPlays, walked.
-/
namespace Go.Proofs.Ytdcjfaplgpeonaa
open Go.RowKit Go.Dm

structure Act12 where
  kd : Int
  s : Int
  sl : Int
  d : Int

/-- The acts that came in lie in memory. -/
def ActsAt (w : World) (A : Option Addr) (acts : List Act12) : Prop :=
  acts = [] ∨ ∃ b off, A = some ⟨b, off, none⟩ ∧ b < w.heap.size ∧ ∀ i p, acts[i]? = some p →
    w.cell? ⟨b, off + i * 4, none⟩ = some (.int .i64 p.kd) ∧ w.cell? ⟨b, off + i * 4 + 1, none⟩ = some (.int .i64 p.s) ∧ w.cell? ⟨b, off + i * 4 + 2, none⟩ = some (.int .i64 p.sl) ∧ w.cell? ⟨b, off + i * 4 + 3, none⟩ = some (.int .i64 p.d)

theorem stepL_len (l : IL) (kd s sl d : Int) : (stepL l kd s sl d).length ≤ l.length + 1 := by
  unfold stepL
  have h1 := delL_le l (s, d)
  have h2 : (symOut l s).length ≤ l.length := List.length_filter_le _ _
  split
  · split <;> simp
  · split
    · omega
    · split <;> omega

theorem of_len (w : World) (r : Nat) (l : IL) (h : RAt w r l) (s : Int) (hlen : l.length ≤ 1000) :
    Calls Try.prog 17 #[.pointer (some ⟨r, 0, none⟩), .int .i64 s] w fun e w' => ∃ A c, e = .returned (.slice A (icnt l s) c) ∧ Chg [] w w' :=
  (of_any w r l h s hlen).mono fun e w' ⟨v, he, hs, _, hC⟩ => by
    obtain ⟨A, c, rfl, _⟩ := hs.form
    rw [ofL_length] at he
    exact ⟨A, c, he, hC⟩

def PlaysRel (acts : List Act12) (w : World) (x m1 m2 r : Nat) (n : Nat) (i : Value) (wr : World) : Prop :=
  ∃ (k : Nat) (l : IL), k ≤ acts.length ∧ n = acts.length - k + 1 ∧ i = .int .i64 k ∧ l.length ≤ k ∧ Both wr x m1 m2 r l ∧ Chg [] w wr

set_option maxRecDepth 100000 in
set_option maxHeartbeats 4000000 in
theorem plays_any (w : World) (A : Option Addr) (c : Nat) (acts : List Act12) (h : ActsAt w A acts) :
    Calls Try.prog 3 #[.slice A acts.length c] w fun e w' => e = .returned (.bool true) ∧ Chg [] w w' := by
  by_cases hbig : acts.length > 200
  · have hb : (acts.length : Int) > 200 := by omega
    clear hbig
    go_enter Try.func3, Try.ntmps3
    go_wp2_with fail
    refine (alive12 _).mono ?_
    rintro e w' ⟨rfl, hC⟩
    go_wp2
    go_ret
    exact ⟨rfl, hC⟩
  · have hb : ¬ (acts.length : Int) > 200 := by omega
    have hsm : acts.length ≤ 200 := by omega
    clear hbig
    go_enter Try.func3, Try.ntmps3
    go_wp2_with fail
    refine (new_any _).mono ?_
    rintro e W1 ⟨x, m1, m2, rfl, h1, hC1, hx, hm1, hm2⟩
    go_wp2_with fail
    have hrf : RAt (W1.alloc (.cells #[.slice none 0 0] 29)) W1.heap.size [] := ⟨_, heap_alloc_new W1 _, SlAt.nil _ _ _ _⟩
    have hB : Both (W1.alloc (.cells #[.slice none 0 0] 29)) x m1 m2 W1.heap.size [] := ⟨h1.chg (Chg.alloc [] _ _) (by simp) (by simp) (by simp), hrf⟩
    have hC := hC1.trans (Chg.alloc [] W1 (.cells #[.slice none 0 0] 29))
    have hr : w.heap.size ≤ W1.heap.size := hC1.size
    clear h1 hC1 hrf
    go_loopg [5] (acts.length + 1) (fun n i wr => PlaysRel acts w x m1 m2 W1.heap.size n i wr)
    case atStart => exact ⟨0, [], Nat.zero_le _, rfl, rfl, Nat.le_refl _, hB, hC⟩
    case round =>
      clear hB hC
      obtain ⟨k, l, hk, hn, rfl, hll, hB, hC⟩ := hrel
      have Hn := Lib.hid hn
      clear hn
      by_cases hlt : k < acts.length
      · rcases h with h | ⟨b, off, rfl, hbl, hcells⟩
        · subst h; simp at hlt
        obtain ⟨p, hp⟩ : ∃ p, acts[k]? = some p := ⟨acts[k], by simp [hlt]⟩
        obtain ⟨c0, c1, c2, c3⟩ := hcells k p hp
        obtain ⟨kd, s, sl, d⟩ := p
        clear hcells hp
        have f0 := hC.cell c0 (by simp)
        have f1 := hC.cell c1 (by simp)
        have f2 := hC.cell c2 (by simp)
        have f3 := hC.cell c3 (by simp)
        have hbr : b < wr.heap.size := by have := hC.size; omega
        have hBd := hB.chg (Chg.drew [] wr)
        have k0 : (0 : Int) ≤ (k : Int) := Int.natCast_nonneg _
        have k1 : (k : Int) < (acts.length : Int) := by omega
        have hl1 : l.length ≤ 1000 := by omega
        have hl2 : (stepL l kd s sl d).length ≤ 1000 := by have := stepL_len l kd s sl d; omega
        have hl3 : (stepL l kd s sl d).length ≤ k + 1 := by have := stepL_len l kd s sl d; omega
        have hCd := hC.trans (Chg.drew [] wr)
        have hnb : b ∉ [m1, m2, W1.heap.size] := by simp; omega
        clear c0 c1 c2 c3 hB
        go_wp2_with fail
        go_region_held3 (fun w' => w'.cell? ⟨b, off + k * 4, none⟩ = some (.int .i64 kd) ∧ w'.cell? ⟨b, off + k * 4 + 1, none⟩ = some (.int .i64 s) ∧ w'.cell? ⟨b, off + k * 4 + 2, none⟩ = some (.int .i64 sl) ∧ w'.cell? ⟨b, off + k * 4 + 3, none⟩ = some (.int .i64 d))
          (first
            | go_keep
            | (exact ⟨hC4.cell g0 (by simp), hC4.cell g1 (by simp), hC4.cell g2 (by simp), hC4.cell g3 (by simp)⟩)
            | (exact ⟨g0, g1, g2, g3⟩))
          (first
            | (go_at_call 15; (with_reducible refine (act_any _ x m1 m2 W1.heap.size l hBd hl1 kd s sl d).mono ?_); rintro e W3 ⟨rfl, h3, hC3⟩; have g0 := hC3.cell f0 hnb; have g1 := hC3.cell f1 hnb; have g2 := hC3.cell f2 hnb; have g3 := hC3.cell f3 hnb)
            | (go_at_call 16; (with_reducible refine (len_any _ x m1 m2 _ h3.ix s).mono ?_); rintro e W5 ⟨rfl, rfl⟩)
            | (go_at_call 17; (with_reducible refine (of_len _ W1.heap.size _ h3.rf s hl2).mono ?_); rintro e W4 ⟨A4, c4, rfl, hC4⟩; have h4 := h3.chg hC4)
            | (go_at_call 16; (with_reducible refine (len_any _ x m1 m2 _ h4.ix s).mono ?_); rintro e W5 ⟨rfl, rfl⟩))
        all_goals
          have hC5 : Chg [] w W4 := (hCd.trans' hC3 (U := []) (by simp) (by simp; omega)).trans hC4
          clear hC4 hC3 g0 g1 g2 g3 h3 hBd f0 f1 f2 f3 hCd
          go_wp2
          go_roundg (acts.length - (k + 1) + 1)
          case measure => rw [Hn.out]; omega
          case rel => exact ⟨k + 1, stepL l kd s sl d, by omega, rfl, by go_num, hl3, h4, hC5⟩
      · go_wp2_with fail
        refine (alive12 _).mono ?_
        rintro e w' ⟨rfl, hC2⟩
        have hC3 := hC.trans hC2
        clear hC hC2 hB
        go_wp2
        go_ret
        exact ⟨rfl, hC3⟩
end Go.Proofs.Ytdcjfaplgpeonaa
