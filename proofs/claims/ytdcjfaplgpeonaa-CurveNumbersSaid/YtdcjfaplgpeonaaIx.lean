/-
  The program's index (package index): its maps as one list of keys with their slots; what each of its functions does to it.
-/
import Derived.Test.YtdcjfaplgpeonaaRows
import Derived.Test.YtdcjfaplgpeonaaMi
import Derived.Deep.LoopGhost
namespace Go.Proofs.Ytdcjfaplgpeonaa
open Go.RowKit Go.Dm

def kenc (k : Int × Int) : Value := .agg #[.int .i64 k.1, .int .i64 k.2]

theorem key_eq (w : World) (a b : Int × Int) : (Op.equal 37 (kenc a) (kenc b)).run Try.prog w = .ok (decide (a = b)) w := by
  obtain ⟨a1, a2⟩ := a
  obtain ⟨b1, b2⟩ := b
  unfold Op.equal Op.maxDepth kenc
  have h3 := Try.underlying3
  have h2 := Try.underlying2
  rw [run_equalIn_agg _ 9999 37 _ _ (by kernel_rfl) (by kernel_rfl)]
  go_simp
  by_cases h : a1 = b1 <;> by_cases h' : a2 = b2 <;> simp [h, h']
theorem key_check (w : World) (em : Bool) (k : Int × Int) : (Instr.checkKey em 10000 37 (kenc k)).run Try.prog w = .ok () w := by
  obtain ⟨a1, a2⟩ := k
  unfold kenc
  kernel_rfl
theorem key_stays (w : World) (k : Int × Int) : (Instr.keyThatStays (kenc k) (kenc k)).run Try.prog w = .ok (kenc k) w := by
  obtain ⟨a1, a2⟩ := k
  simp [Instr.keyThatStays, Instr.sameBits, kenc]
theorem MK : MKey Try.prog 37 kenc := mkey_asking Try.underlying37 (fun _ _ => rfl) key_eq key_check key_stays
def ienc (n : Int) : Value := .int .i64 n
theorem MI : MKey Try.prog 3 ienc := mkey_int Try.underlying3
theorem z3 (w : World) : (zeroValue 3).run Try.prog w = .ok (.int .i64 0) w := by kernel_rfl

abbrev IL := List ((Int × Int) × Int)
def icnt (l : IL) (s : Int) : Nat := (l.filter fun p => decide (p.1.1 = s)).length

def manyOf (m : List (Int × Int)) (s : Int) : Int := (mLook m s).getD 0

structure XAt (w : World) (x m1 m2 : Nat) (l : IL) : Prop where
  blk : w.heap[x]? = some (.cells #[.map (some m1), .map (some m2)] 106 (0, 0))
  ents : MapAt kenc ienc w m1 l
  many : ∃ m : List (Int × Int), MapAt ienc ienc w m2 m ∧ ∀ s, manyOf m s = icnt l s
  ne : m1 ≠ m2

theorem XAt.ne1 {w : World} {x m1 m2 : Nat} {l : IL} (h : XAt w x m1 m2 l) : x ≠ m1 := by
  obtain ⟨es, c, hb, _⟩ := h.ents
  intro e; subst e; rw [h.blk] at hb; cases hb
theorem XAt.ne2 {w : World} {x m1 m2 : Nat} {l : IL} (h : XAt w x m1 m2 l) : x ≠ m2 := by
  obtain ⟨m, ⟨es, c, hb, _⟩, _⟩ := h.many
  intro e; subst e; rw [h.blk] at hb; cases hb
theorem XAt.chg {w w' : World} {x m1 m2 : Nat} {l : IL} {S : List Nat} (h : XAt w x m1 m2 l) (hc : Chg S w w') (h0 : x ∉ S) (h1 : m1 ∉ S) (h2 : m2 ∉ S) : XAt w' x m1 m2 l :=
  ⟨hc.at_ h.blk h0, h.ents.chg hc h1, by obtain ⟨m, hm, e⟩ := h.many; exact ⟨m, hm.chg hc h2, e⟩, h.ne⟩
theorem XAt.lt {w : World} {x m1 m2 : Nat} {l : IL} (h : XAt w x m1 m2 l) : x < w.heap.size := (Array.getElem?_eq_some_iff.1 h.blk).1
theorem XAt.c0 {w : World} {x m1 m2 : Nat} {l : IL} (h : XAt w x m1 m2 l) : w.cell? ⟨x, 0, none⟩ = some (.map (some m1)) := by simp [World.cell?, h.blk]
theorem XAt.c1 {w : World} {x m1 m2 : Nat} {l : IL} (h : XAt w x m1 m2 l) : w.cell? ⟨x, 1, none⟩ = some (.map (some m2)) := by simp [World.cell?, h.blk]

theorem found_i (o : Option Int) : found ienc (.int .i64 0) o = .int .i64 (o.getD 0) := by cases o <;> rfl

set_option maxHeartbeats 400000 in
theorem get_any (w : World) (x m1 m2 : Nat) (l : IL) (h : XAt w x m1 m2 l) (k1 k2 : Int) :
    Calls Try.prog 21 #[.pointer (some ⟨x, 0, none⟩), .agg #[.int .i64 k1, .int .i64 k2]] w fun e w' =>
      e = .returned (.tuple #[.int .i64 ((mLook l (k1, k2)).getD 0), .bool (mLook l (k1, k2)).isSome]) ∧ Chg [] w w' := by
  have c0 := h.c0
  have hx := h.lt
  have hl := fun n => (h.ents.chg ((Chg.alloc [] w (.cells #[.int .i64 k1, .int .i64 k2] 37)).trans (Chg.drewN _ _ n)) (by simp)).lookup MK Try.underlying103 z3 (k1, k2) true
  simp only [kenc, found_i, if_true] at hl
  go_enter Try.func21, Try.ntmps21
  go_wp2
  go_quiet (fail)
  go_wp2
  go_ret2
  exact ⟨rfl, (Chg.alloc _ _ _).trans (Chg.drewN _ _ _)⟩

set_option maxHeartbeats 400000 in
theorem len_any (w : World) (x m1 m2 : Nat) (l : IL) (h : XAt w x m1 m2 l) (s : Int) :
    Calls Try.prog 16 #[.pointer (some ⟨x, 0, none⟩), .int .i64 s] w fun e w' => e = .returned (.int .i64 (icnt l s)) ∧ w = w' := by
  have c1 := h.c1
  obtain ⟨m, hm, he⟩ := h.many
  have hl := hm.lookup MI Try.underlying104 z3 s false
  have he := he s
  unfold manyOf at he
  simp only [ienc, found_i, he, Bool.false_eq_true, if_false] at hl
  clear he
  go_enter Try.func16, Try.ntmps16
  go_wp2
  go_ret
  exact ⟨rfl, rfl⟩


theorem icnt_app (l : IL) (k1 k2 v s : Int) : icnt (l ++ [((k1, k2), v)]) s = icnt l s + if k1 = s then 1 else 0 := by
  simp only [icnt, List.filter_append, List.length_append]
  by_cases e : k1 = s <;> simp [e]
theorem icnt_le (l : IL) (s : Int) : icnt l s ≤ l.length := List.length_filter_le _ _

theorem manyOf_put (m : List (Int × Int)) (s c t : Int) : manyOf (putL m s c) t = if s = t then c else manyOf m t := by
  unfold manyOf
  rw [mLook_put]
  by_cases e : s = t <;> simp [e]
theorem manyOf_del (m : List (Int × Int)) (s t : Int) : manyOf (delL m s) t = if s = t then 0 else manyOf m t := by
  unfold manyOf
  rw [mLook_del]
  by_cases e : s = t <;> simp [e]
theorem many_put {m : List (Int × Int)} {l : IL} {k1 k2 v : Int} (he : ∀ s, manyOf m s = icnt l s) : ∀ s, manyOf (putL m k1 ((icnt l k1 : Int) + 1)) s = icnt (l ++ [((k1, k2), v)]) s := by
  intro s
  rw [manyOf_put, icnt_app]
  by_cases e : k1 = s
  · subst e; simp
  · simp [e, he]

set_option maxRecDepth 100000 in
set_option maxHeartbeats 400000 in
theorem put_new (w : World) (x m1 m2 : Nat) (l : IL) (h : XAt w x m1 m2 l) (k1 k2 v : Int) (hk : mLook l (k1, k2) = none) (hlen : l.length ≤ 1000) :
    Calls Try.prog 18 #[.pointer (some ⟨x, 0, none⟩), .agg #[.int .i64 k1, .int .i64 k2], .int .i64 v] w fun e w' =>
      e = .returned (.bool true) ∧ XAt w' x m1 m2 (l ++ [((k1, k2), v)]) ∧ Chg [m1, m2] w w' := by
  have c0 := h.c0
  have hx := h.lt
  have hl := fun n => (h.ents.chg ((Chg.alloc [] w (.cells #[.int .i64 k1, .int .i64 k2] 37)).trans (Chg.drewN _ _ n)) (by simp)).lookup MK Try.underlying103 z3 (k1, k2) true
  simp only [kenc, found_i, if_true, hk, Option.getD_none, Option.isSome_none] at hl
  have hput : putL l (k1, k2) v = l ++ [((k1, k2), v)] := by simp [putL, hk]
  have Hput := Lib.hid hput
  clear hput
  go_enter Try.func18, Try.ntmps18
  go_wp2
  go_quiet (fail)
  go_wp2
  clear hl c0
  refine wp_tail 6 (by kernel_rfl) (by kernel_rfl) ?_
  intro W hW
  have hC : Chg [] w W := ((Chg.alloc [] w _).trans (Chg.drewN _ _ _)).trans hW
  have h2 : XAt W x m1 m2 l := h.chg hC (by simp) (by simp) (by simp)
  have b2 := hW.at_ (o := .cells #[.int .i64 k1, .int .i64 k2] 37) (b := w.heap.size) (by exact heap_alloc_new w _) (by simp)
  clear hW
  have c0 := h2.c0
  obtain ⟨d0, d1⟩ := blk2 b2
  simp only [List.take_succ_cons, List.take_zero, List.drop_succ_cons, List.drop_zero]
  repeat still_step
  refine wpStill_nil ?_
  refine wpL_update rfl _ _ _ 103 rfl MK Try.underlying103 h2.ents (k1, k2) v rfl rfl rfl ?_
  intro W2 e2 hC2 _
  rw [Hput.out] at e2
  have hC3 : Chg [m1] w W2 := (hC.mono (by simp)).trans hC2
  have hne : m1 ≠ w.heap.size := fun e => by have := h.ents.lt; omega
  have b3 := hC2.at_ b2 (by simp; omega)
  have blk3 := hC2.at_ h2.blk (by simp; exact h2.ne1)
  obtain ⟨m, hm, he⟩ := h2.many
  have hm3 := hm.chg hC2 (by simp; exact h2.ne.symm)
  have hle := icnt_le l k1
  have hne2 := h.ne
  have hne3 := h.ne2
  have hne1 := h.ne1
  clear hC hC2 h2 b2 c0 d0 d1 hm h
  go_wp2
  refine wp_tail 8 (by kernel_rfl) (by kernel_rfl) ?_
  intro W4 hW4
  have hC4 : Chg [m1] w W4 := hC3.trans (hW4.mono (by simp))
  have e4 := e2.chg hW4 (by simp)
  have hm4 := hm3.chg hW4 (by simp)
  have b4 := hW4.at_ b3 (by simp)
  have blk4 := hW4.at_ blk3 (by simp)
  clear hC3 hW4 e2 hm3 b3 blk3
  have c1 := (blk2 blk4).2
  obtain ⟨d0, d1⟩ := blk2 b4
  have hl := hm4.lookup MI Try.underlying104 z3 k1 false
  have he1 := he k1
  unfold manyOf at he1
  simp only [ienc, found_i, he1, Bool.false_eq_true, if_false] at hl
  clear he1
  simp only [List.take_succ_cons, List.take_zero, List.drop_succ_cons, List.drop_zero]
  repeat still_step
  refine wpStill_nil ?_
  refine wpL_update rfl _ _ _ 104 rfl MI Try.underlying104 hm4 k1 ((icnt l k1 : Int) + 1) rfl rfl (wrapV rfl (by omega) (by omega)) ?_
  intro W5 m5 hC5 _
  have hX : XAt W5 x m1 m2 (l ++ [((k1, k2), v)]) := ⟨hC5.at_ blk4 (by simp; exact hne3), e4.chg hC5 (by simp; exact hne2), ⟨_, m5, many_put he⟩, hne2⟩
  have hCf : Chg [m1, m2] w W5 := (hC4.mono (by simp)).trans (hC5.mono (by simp))
  clear hC5 m5 hC4 e4 hm4 b4 blk4 c1 d0 d1 hl he
  go_wp2
  go_ret
  exact ⟨rfl, hX, hCf⟩

set_option maxHeartbeats 400000 in
theorem put_old (w : World) (x m1 m2 : Nat) (l : IL) (h : XAt w x m1 m2 l) (k1 k2 v : Int) (hk : (mLook l (k1, k2)).isSome = true) :
    Calls Try.prog 18 #[.pointer (some ⟨x, 0, none⟩), .agg #[.int .i64 k1, .int .i64 k2], .int .i64 v] w fun e w' =>
      e = .returned (.bool false) ∧ Chg [] w w' := by
  have c0 := h.c0
  have hx := h.lt
  have hl := fun n => (h.ents.chg ((Chg.alloc [] w (.cells #[.int .i64 k1, .int .i64 k2] 37)).trans (Chg.drewN _ _ n)) (by simp)).lookup MK Try.underlying103 z3 (k1, k2) true
  simp only [kenc, found_i, if_true, hk] at hl
  go_enter Try.func18, Try.ntmps18
  go_wp2
  go_quiet (fail)
  go_wp2
  go_ret
  exact ⟨rfl, (Chg.alloc _ _ _).trans (Chg.drewN _ _ _)⟩

set_option maxHeartbeats 400000 in
theorem put_nil (w : World) (k1 k2 v : Int) :
    Calls Try.prog 18 #[.pointer none, .agg #[.int .i64 k1, .int .i64 k2], .int .i64 v] w fun e w' => e = .returned (.bool false) ∧ Chg [] w w' := by
  go_enter Try.func18, Try.ntmps18
  go_wp2
  go_ret
  exact ⟨rfl, Chg.alloc _ _ _⟩

set_option maxHeartbeats 400000 in
theorem get_nil (w : World) (k1 k2 : Int) :
    Calls Try.prog 21 #[.pointer none, .agg #[.int .i64 k1, .int .i64 k2]] w fun e w' => e = .returned (.tuple #[.int .i64 0, .bool false]) ∧ Chg [] w w' := by
  go_enter Try.func21, Try.ntmps21
  go_wp2
  go_ret2
  exact ⟨rfl, Chg.alloc _ _ _⟩

set_option maxHeartbeats 400000 in
theorem len_nil (w : World) (s : Int) :
    Calls Try.prog 16 #[.pointer none, .int .i64 s] w fun e w' => e = .returned (.int .i64 0) ∧ w = w' := by
  go_enter Try.func16, Try.ntmps16
  go_wp2
  go_ret
  exact ⟨rfl, rfl⟩

set_option maxHeartbeats 400000 in
theorem drop_nil (w : World) (k1 k2 : Int) :
    Calls Try.prog 19 #[.pointer none, .agg #[.int .i64 k1, .int .i64 k2]] w fun e w' => e = .returned (.bool false) ∧ Chg [] w w' := by
  go_enter Try.func19, Try.ntmps19
  go_wp2_with fail
  refine (get_nil _ _ _).mono ?_
  rintro e w' ⟨rfl, hC⟩
  have hC2 : Chg [] w w' := (Chg.alloc _ _ _).trans hC
  clear hC
  go_wp2
  go_ret
  exact ⟨rfl, hC2⟩

set_option maxHeartbeats 400000 in
theorem drop_no (w : World) (x m1 m2 : Nat) (l : IL) (h : XAt w x m1 m2 l) (k1 k2 : Int) (hk : mLook l (k1, k2) = none) :
    Calls Try.prog 19 #[.pointer (some ⟨x, 0, none⟩), .agg #[.int .i64 k1, .int .i64 k2]] w fun e w' =>
      e = .returned (.bool false) ∧ Chg [] w w' := by
  have hg := get_any _ x m1 m2 l (h.chg (Chg.alloc [] w (.cells #[.int .i64 k1, .int .i64 k2] 37)) (by simp) (by simp) (by simp)) k1 k2
  rw [hk] at hg
  go_enter Try.func19, Try.ntmps19
  go_wp2_with fail
  refine hg.mono ?_
  rintro e w' ⟨rfl, hC⟩
  have hC2 : Chg [] w w' := (Chg.alloc _ _ _).trans hC
  clear hC hg
  go_wp2
  go_ret
  exact ⟨rfl, hC2⟩

set_option maxHeartbeats 400000 in
/-- A new index. -/
theorem new_any (w : World) :
    Calls Try.prog 14 #[] w fun e w' => ∃ x m1 m2, e = .returned (.pointer (some ⟨x, 0, none⟩)) ∧ XAt w' x m1 m2 [] ∧ Chg [] w w' ∧ w.heap.size ≤ x ∧ w.heap.size ≤ m1 ∧ w.heap.size ≤ m2 := by
  have hmm := @run_makeMap Try.prog
  go_enter Try.func14, Try.ntmps14
  go_wp2
  go_ret
  have hA : Chg [] w ((w.alloc (Obj.map #[] 0)).alloc (Obj.map #[] 0)) := (Chg.alloc _ _ _).trans (Chg.alloc _ _ _)
  have hs : (w.alloc (Obj.map #[] 0)).heap.size = w.heap.size + 1 := by simp
  have hs2 : ((w.alloc (Obj.map #[] 0)).alloc (Obj.map #[] 0)).heap.size = w.heap.size + 1 + 1 := by simp
  have e1 : MapAt kenc ienc (w.alloc (Obj.map #[] 0)) w.heap.size ([] : IL) := MapAt.new w
  have e2 : MapAt ienc ienc ((w.alloc (Obj.map #[] 0)).alloc (Obj.map #[] 0)) (w.heap.size + 1) ([] : List (Int × Int)) := by
    have := MapAt.new (enc := ienc) (venc := ienc) (w.alloc (Obj.map #[] 0)); rw [hs] at this; exact this
  refine ⟨w.heap.size + 1 + 1, w.heap.size, w.heap.size + 1, rfl, ⟨?_, ?_, ⟨[], e2.chg (Chg.alloc [] _ _) (by simp), ?_⟩, by omega⟩, hA.trans (Chg.alloc _ _ _), by omega, by omega, by omega⟩
  · have := heap_alloc_new ((w.alloc (Obj.map #[] 0)).alloc (Obj.map #[] 0)) (Obj.cells #[Value.map (some w.heap.size), Value.map (some (w.heap.size + 1))] 106)
    rw [hs2] at this; exact this
  · exact (e1.chg (Chg.alloc [] _ _) (by simp)).chg (Chg.alloc [] _ _) (by simp)
  · intro s; simp [manyOf, mLook, icnt]

theorem icnt_del {l : IL} {k1 k2 s : Int} (hn : (keysL l).Nodup) {v : Int} (h : mLook l (k1, k2) = some v) : (icnt (delL l (k1, k2)) s : Int) = icnt l s - if k1 = s then 1 else 0 := by
  induction l with
  | nil => simp [mLook] at h
  | cons p l ih =>
    simp only [keysL, List.map_cons, List.nodup_cons] at hn
    simp only [mLook] at h
    by_cases hp : p.1 = (k1, k2)
    · have hnot : mLook l (k1, k2) = none := mLook_none.2 (by rw [← hp]; exact hn.1)
      have hd : delL (p :: l) (k1, k2) = l := by
        have : delL (p :: l) (k1, k2) = delL l (k1, k2) := by simp [delL, hp]
        rw [this, del_none hnot]
      rw [hd]
      have h1 : p.1.1 = k1 := by rw [hp]
      by_cases e : k1 = s
      · simp [icnt, h1, e]
      · simp [icnt, h1, e]
    · simp only [hp, if_false] at h
      have := ih hn.2 h
      have hd : delL (p :: l) (k1, k2) = p :: delL l (k1, k2) := by simp [delL, hp]
      rw [hd]
      by_cases e : p.1.1 = s
      · simp only [icnt, List.filter_cons, e, decide_true, if_true, List.length_cons] at this ⊢
        omega
      · simp only [icnt, List.filter_cons, e, decide_false, Bool.false_eq_true, if_false] at this ⊢
        omega
theorem delL_le (l : IL) (k : Int × Int) : (delL l k).length ≤ l.length := List.length_filter_le _ _
theorem icnt_pos {l : IL} {k1 k2 v : Int} (h : mLook l (k1, k2) = some v) : 1 ≤ icnt l k1 := by
  have hm := mLook_mem h
  have : ((k1, k2), v) ∈ l.filter fun p => decide (p.1.1 = k1) := List.mem_filter.2 ⟨hm, by simp⟩
  exact List.length_pos_of_mem this

theorem many_del {m : List (Int × Int)} {l : IL} {k1 k2 v : Int} (hn : (keysL l).Nodup) (h : mLook l (k1, k2) = some v) (he : ∀ s, manyOf m s = icnt l s) : ∀ s, manyOf (putL m k1 ((icnt l k1 : Int) - 1)) s = icnt (delL l (k1, k2)) s := by
  intro s
  rw [manyOf_put, icnt_del hn h]
  by_cases e : k1 = s
  · subst e; simp
  · simp [e, he]
theorem many_del0 {m : List (Int × Int)} {l : IL} {k1 : Int} (h0 : icnt l k1 = 0) (he : ∀ s, manyOf m s = icnt l s) : ∀ s, manyOf (delL m k1) s = icnt l s := by
  intro s
  rw [manyOf_del]
  by_cases e : k1 = s
  · subst e; simp [h0]
  · simp [e, he]

set_option maxRecDepth 100000 in
set_option maxHeartbeats 1000000 in
theorem drop_yes (w : World) (x m1 m2 : Nat) (l : IL) (h : XAt w x m1 m2 l) (k1 k2 v : Int) (hk : mLook l (k1, k2) = some v) (hlen : l.length ≤ 1000) :
    Calls Try.prog 19 #[.pointer (some ⟨x, 0, none⟩), .agg #[.int .i64 k1, .int .i64 k2]] w fun e w' =>
      e = .returned (.bool true) ∧ XAt w' x m1 m2 (delL l (k1, k2)) ∧ Chg [m1, m2] w w' := by
  have hg := get_any _ x m1 m2 l (h.chg (Chg.alloc [] w (.cells #[.int .i64 k1, .int .i64 k2] 37)) (by simp) (by simp) (by simp)) k1 k2
  rw [hk] at hg
  simp only [Option.getD_some, Option.isSome_some] at hg
  have hpos := icnt_pos hk
  have hle := icnt_le l k1
  have hn := h.ents.nodup
  have hdel : (icnt (delL l (k1, k2)) k1 : Int) = (icnt l k1 : Int) - 1 := by rw [icnt_del hn hk]; simp
  have Hdel := Lib.hid hdel
  have Hk := Lib.hid hk
  clear hdel hk
  have hne := h.ne
  have hne2 := h.ne2
  have hne1 := h.ne1
  go_enter Try.func19, Try.ntmps19
  go_wp2_with fail
  refine hg.mono ?_
  rintro e W0 ⟨rfl, hC⟩
  have hC2 : Chg [] w W0 := (Chg.alloc _ _ _).trans hC
  have b0 := hC.at_ (o := .cells #[.int .i64 k1, .int .i64 k2] 37) (b := w.heap.size) (by exact heap_alloc_new w _) (by simp)
  clear hC hg
  go_wp2
  refine wp_tail 5 (by kernel_rfl) (by kernel_rfl) ?_
  intro W hW
  have hC3 := hC2.trans hW
  have h2 : XAt W x m1 m2 l := h.chg hC3 (by simp) (by simp) (by simp)
  have b2 := hW.at_ b0 (by simp)
  have hneb1 : m1 ≠ w.heap.size := fun e => by have := h.ents.lt; omega
  have hneb2 : m2 ≠ w.heap.size := fun e => by obtain ⟨m, hm, _⟩ := h.many; have := hm.lt; omega
  clear hW hC2 h b0
  have c0 := h2.c0
  obtain ⟨d0, d1⟩ := blk2 b2
  simp only [List.take_succ_cons, List.take_zero, List.drop_succ_cons, List.drop_zero]
  repeat still_step
  refine wpStill_nil ?_
  refine wpL_delete rfl _ _ 103 37 rfl MK Try.underlying103 h2.ents (k1, k2) rfl rfl ?_
  intro W2 e2 hCa _
  have hC4 : Chg [m1] w W2 := (hC3.mono (by simp)).trans hCa
  have b3 := hCa.at_ b2 (by simp; omega)
  have blk3 := hCa.at_ h2.blk (by simp; exact hne1)
  obtain ⟨m, hm, he⟩ := h2.many
  have hm3 := hm.chg hCa (by simp; exact hne.symm)
  clear hC3 hCa h2 b2 c0 d0 d1 hm
  go_wp2
  refine wp_tail 8 (by kernel_rfl) (by kernel_rfl) ?_
  intro W4 hW4
  have hC5 : Chg [m1] w W4 := hC4.trans (hW4.mono (by simp))
  have e4 := e2.chg hW4 (by simp)
  have hm4 := hm3.chg hW4 (by simp)
  have b4 := hW4.at_ b3 (by simp)
  have blk4 := hW4.at_ blk3 (by simp)
  clear hC4 hW4 e2 hm3 b3 blk3
  have c1 := (blk2 blk4).2
  obtain ⟨d0, d1⟩ := blk2 b4
  have hl := hm4.lookup MI Try.underlying104 z3 k1 false
  have he1 := he k1
  unfold manyOf at he1
  simp only [ienc, found_i, he1, Bool.false_eq_true, if_false] at hl
  clear he1
  simp only [List.take_succ_cons, List.take_zero, List.drop_succ_cons, List.drop_zero]
  repeat still_step
  refine wpStill_nil ?_
  refine wpL_update rfl _ _ _ 104 rfl MI Try.underlying104 hm4 k1 ((icnt l k1 : Int) - 1) rfl rfl (wrapV rfl (by omega) (by omega)) ?_
  intro W5 m5 hCb _
  have he5 := many_del hn Hk.out he
  have hC6 : Chg [m1, m2] w W5 := (hC5.mono (by simp)).trans (hCb.mono (by simp))
  have e5 := e4.chg hCb (by simp; exact hne)
  have b5 := hCb.at_ b4 (by simp; omega)
  have blk5 := hCb.at_ blk4 (by simp; exact hne2)
  clear hl hCb hC5 e4 hm4 b4 blk4 c1 d0 d1 he
  have c1 := (blk2 blk5).2
  have hlt5 := blk_lt blk5
  obtain ⟨d0, d1⟩ := blk2 b5
  have hl : ∀ n, _ := fun n => (m5.chg (Chg.drewN [] W5 n) (by simp)).lookup MI Try.underlying104 z3 k1 false
  have he1 := he5 k1
  unfold manyOf at he1
  rw [Hdel.out] at he1
  simp only [ienc, found_i, he1, Bool.false_eq_true, if_false] at hl
  clear he1
  by_cases hz : icnt l k1 = 1
  · have hz' : (((icnt l k1 : Int) - 1) == 0) = true := by rw [beq_iff_eq]; omega
    go_wp2
    go_quiet (fail)
    go_wp2
    clear hl
    refine wp_tail 6 (by kernel_rfl) (by kernel_rfl) ?_
    intro W7 hW7
    have hC7 : Chg [m1, m2] w W7 := hC6.trans ((Chg.drewN _ _ _).trans (hW7.mono (by simp)))
    have hCd := (Chg.drewN [] W5 nq).trans hW7
    have e7 := e5.chg hCd (by simp)
    have m7 := m5.chg hCd (by simp)
    have b7 := hCd.at_ b5 (by simp)
    have blk7 := hCd.at_ blk5 (by simp)
    clear hW7 hCd hC6 e5 m5 b5 blk5 c1 d0 d1
    have c1 := (blk2 blk7).2
    obtain ⟨d0, d1⟩ := blk2 b7
    simp only [List.take_succ_cons, List.take_zero, List.drop_succ_cons, List.drop_zero]
    repeat still_step
    refine wpStill_nil ?_
    refine wpL_delete rfl _ _ 104 3 rfl MI Try.underlying104 m7 k1 rfl rfl ?_
    intro W8 m8 hCc _
    have h0 : icnt (delL l (k1, k2)) k1 = 0 := by have := Hdel.out; omega
    have hX : XAt W8 x m1 m2 (delL l (k1, k2)) := ⟨hCc.at_ blk7 (by simp; exact hne2), e7.chg hCc (by simp; exact hne), ⟨_, m8, many_del0 h0 he5⟩, hne⟩
    have hC8 : Chg [m1, m2] w W8 := hC7.trans (hCc.mono (by simp))
    clear hC7 hCc e7 m7 b7 blk7 c1 d0 d1 m8 he5 h0
    go_wp2
    go_ret
    exact ⟨rfl, hX, hC8⟩
  · have hz' : (((icnt l k1 : Int) - 1) == 0) = false := by rw [beq_eq_false_iff_ne]; omega
    go_wp2
    go_quiet (fail)
    go_wp2
    go_ret
    have hCd := Chg.drewN [] W5 nq
    exact ⟨rfl, ⟨hCd.at_ blk5 (by simp), e5.chg hCd (by simp), ⟨_, m5.chg hCd (by simp), he5⟩, hne⟩, hC6.trans (Chg.drewN _ _ _)⟩
end Go.Proofs.Ytdcjfaplgpeonaa
