/-
  Maps as lists of pairs, for whatever key type has an enumeration of its keys ('MKey'): what a mLook-up, a store and a delete do. Nothing of the program stands in it.
-/
import Derived.WalkKit
import Derived.Maps.Keyed
import Derived.Deep.QuietTactic
import Derived.StillTailTactics
import Derived.BigQuiet
import Derived.WalkSpells
import Derived.Lib.Hide
import Derived.Maps.OwnSet
import Derived.Maps.AppendAt
import Derived.Deep.AppendLies
import Derived.Deep.RegionHeld3
import Derived.Deep.DeepMust
import Derived.Laws.CopyRow
import Derived.Lib.AppendZerosOnto
import Derived.Lib.Overlaps
import Derived.Laws.Externs
import Derived.Laws.NewBlocks
import Derived.StillTail
import Derived.Deep.RegionHeld
import Derived.RangeFuncCalls
import Derived.Sort.QuietIn
import Derived.RangeFuncNested
namespace Go.Dm
open Go.MapKept
open Go.RowKit

/-- What may have changed: blocks of S alone (and new ones). -/
structure Chg (S : List Nat) (w w' : World) : Prop where
  os : w'.os = w.os
  tape : w'.tape = w.tape
  output : w'.output = w.output
  size : w.heap.size ≤ w'.heap.size
  block : ∀ k, k < w.heap.size → k ∉ S → w'.heap[k]? = w.heap[k]?

theorem Chg.refl (S : List Nat) (w : World) : Chg S w w := ⟨rfl, rfl, rfl, Nat.le_refl _, fun _ _ _ => rfl⟩
theorem Chg.trans {S : List Nat} {a b c : World} (h : Chg S a b) (k : Chg S b c) : Chg S a c :=
  ⟨k.os.trans h.os, k.tape.trans h.tape, k.output.trans h.output, Nat.le_trans h.size k.size, fun i hi hn => (k.block i (Nat.lt_of_lt_of_le hi h.size) hn).trans (h.block i hi hn)⟩
theorem Chg.mono {S T : List Nat} {a b : World} (h : Chg S a b) (hs : ∀ k, k ∈ S → k ∈ T ∨ a.heap.size ≤ k) : Chg T a b :=
  ⟨h.os, h.tape, h.output, h.size, fun i hi hn => h.block i hi (fun hm => by rcases hs i hm with hs | hs; exact hn hs; omega)⟩
theorem Chg.trans' {S T U : List Nat} {a b c : World} (h : Chg S a b) (k : Chg T b c) (hs : ∀ i, i ∈ S → i ∈ U ∨ a.heap.size ≤ i) (ht : ∀ i, i ∈ T → i ∈ U ∨ a.heap.size ≤ i) : Chg U a c :=
  ⟨k.os.trans h.os, k.tape.trans h.tape, k.output.trans h.output, Nat.le_trans h.size k.size, fun i hi hn =>
    (k.block i (Nat.lt_of_lt_of_le hi h.size) (fun hm => by rcases ht i hm with h' | h'; exact hn h'; omega)).trans
      (h.block i hi (fun hm => by rcases hs i hm with h' | h'; exact hn h'; omega))⟩
theorem Chg.of_grown {w w' : World} {row : Option Nat} (h : w.grownBy w' row) {S : List Nat} (hr : ∀ k, row = some k → k ∈ S ∨ w.heap.size ≤ k) : Chg S w w' :=
  ⟨h.os, h.tape, h.output, h.size, fun k hk hn => h.block k hk (fun e => by rcases hr k e.symm with h' | h'; exact hn h'; omega)⟩
theorem Chg.of_below {w w' : World} (h : Below w.heap.size w w') (S : List Nat) : Chg S w w' := ⟨h.os, h.tape, h.output, h.size, fun k hk _ => h.block k hk⟩
theorem Chg.below {S : List Nat} {w w' : World} (h : Chg S w w') {B : Nat} (hB : B ≤ w.heap.size) (hs : ∀ k, k ∈ S → B ≤ k) : Below B w w' :=
  ⟨h.os, h.tape, h.output, h.size, fun k hk => h.block k (by omega) (fun hm => by have := hs k hm; omega)⟩
theorem Chg.drewN (S : List Nat) (w : World) (n : Nat) : Chg S w (w.drewN n) := ⟨rfl, rfl, rfl, Nat.le_refl _, fun _ _ _ => rfl⟩
theorem Chg.drew (S : List Nat) (w : World) : Chg S w w.drew := ⟨rfl, rfl, rfl, Nat.le_refl _, fun _ _ _ => rfl⟩
theorem Chg.alloc (S : List Nat) (w : World) (o : Obj) : Chg S w (w.alloc o) := ⟨rfl, rfl, rfl, by simp, fun k hk _ => Below.heap_alloc w o k hk⟩
theorem Chg.setCell {S : List Nat} (w : World) (p : Addr) (u : Value) (hp : p.block ∈ S ∨ w.heap.size ≤ p.block) : Chg S w (w.setCell p u) :=
  ⟨rfl, rfl, rfl, by simp [World.setCell], fun k hk hn => Below.heap_setCell _ _ _ _ (fun e => by subst e; rcases hp with h | h; exact hn h; omega)⟩

theorem Chg.at_ {S : List Nat} {w w' : World} (h : Chg S w w') {b : Nat} {o : Obj} (ho : w.heap[b]? = some o) (hb : b ∉ S) : w'.heap[b]? = some o :=
  (h.block b (Array.getElem?_eq_some_iff.1 ho).1 hb).trans ho

theorem Chg.cell {S : List Nat} {w w' : World} (h : Chg S w w') {a : Addr} {v : Value} (hc : w.cell? a = some v) (hn : a.block ∉ S) : w'.cell? a = some v :=
  (World.cell?_of_block (h.block _ (World.block_lt_of_cell? w _ hc) hn)).trans hc
theorem Chg.nil {S : List Nat} {w w' : World} (h : Chg [] w w') : Chg S w w' := h.mono (by simp)

/-! ### lists of pairs -/
section lists
variable {κ ν : Type}

def mLook [DecidableEq κ] : List (κ × ν) → κ → Option ν
  | [], _ => none
  | p :: l, k => if p.1 = k then some p.2 else mLook l k
def putL [DecidableEq κ] (l : List (κ × ν)) (k : κ) (v : ν) : List (κ × ν) := if (mLook l k).isSome then l.map (fun p => if p.1 = k then (k, v) else p) else l ++ [(k, v)]
def delL [DecidableEq κ] (l : List (κ × ν)) (k : κ) : List (κ × ν) := l.filter (fun p => decide (p.1 ≠ k))
def keysL (l : List (κ × ν)) : List κ := l.map (·.1)

theorem mLook_none [DecidableEq κ] {l : List (κ × ν)} {k : κ} : mLook l k = none ↔ k ∉ keysL l := by
  induction l with
  | nil => simp [mLook, keysL]
  | cons p l ih =>
    simp only [mLook, keysL, List.map_cons, List.mem_cons, not_or]
    by_cases h : p.1 = k
    · simp [h]
    · have : k ≠ p.1 := fun e => h e.symm
      simp only [h, if_false, this, not_false_eq_true, true_and]
      exact ih
theorem mLook_at [DecidableEq κ] {l : List (κ × ν)} (hn : (keysL l).Nodup) {j : Nat} {k : κ} {v : ν} (h : l[j]? = some (k, v)) : mLook l k = some v := by
  induction l generalizing j with
  | nil => simp at h
  | cons p l ih =>
    simp only [keysL, List.map_cons, List.nodup_cons] at hn
    cases j with
    | zero => simp at h; subst h; simp [mLook]
    | succ j =>
      simp only [List.getElem?_cons_succ] at h
      have hm : k ∈ l.map (·.1) := List.mem_map.2 ⟨_, List.mem_of_getElem? h, rfl⟩
      have hne : p.1 ≠ k := fun e => hn.1 (e ▸ hm)
      simp only [mLook, hne, if_false]
      exact ih hn.2 h
theorem mLook_mem [DecidableEq κ] {l : List (κ × ν)} {k : κ} {v : ν} (h : mLook l k = some v) : (k, v) ∈ l := by
  induction l with
  | nil => simp [mLook] at h
  | cons p l ih =>
    simp only [mLook] at h
    split at h
    · rename_i e
      subst e
      simp only [Option.some.injEq] at h
      subst h
      exact List.mem_cons_self
    · exact List.mem_cons_of_mem _ (ih h)
theorem mLook_app [DecidableEq κ] {l : List (κ × ν)} {k x : κ} {v : ν} : mLook (l ++ [(k, v)]) x = (mLook l x).or (if k = x then some v else none) := by
  induction l with
  | nil => simp [mLook]
  | cons p l ih =>
    simp only [List.cons_append, mLook]
    split
    · simp
    · exact ih
theorem mLook_set [DecidableEq κ] (l : List (κ × ν)) (s t : κ) (c : ν) : mLook (l.map fun p => if p.1 = s then (s, c) else p) t = if s = t then (mLook l s).map (fun _ => c) else mLook l t := by
  induction l with
  | nil => by_cases e : s = t <;> simp [mLook, e]
  | cons p l ih =>
    simp only [List.map_cons, mLook, ih]
    by_cases hp : p.1 = s
    · by_cases e : s = t <;> simp [hp, e]
    · by_cases e : s = t
      · subst e; simp [hp]
      · simp [hp, e]
theorem mLook_put [DecidableEq κ] (l : List (κ × ν)) (s t : κ) (c : ν) : mLook (putL l s c) t = if s = t then some c else mLook l t := by
  unfold putL
  by_cases h : (mLook l s).isSome
  · obtain ⟨v, hv⟩ := Option.isSome_iff_exists.1 h
    rw [if_pos h, mLook_set, hv]
    simp
  · have h0 : mLook l s = none := by simpa using h
    simp only [h0, Option.isSome_none, Bool.false_eq_true, if_false, mLook_app]
    by_cases e : s = t
    · subst e; simp [h0]
    · cases mLook l t <;> simp [e]
theorem mLook_filter [DecidableEq κ] (l : List (κ × ν)) (q : κ → Bool) (t : κ) : mLook (l.filter fun p => q p.1) t = if q t then mLook l t else none := by
  induction l with
  | nil => simp [mLook]
  | cons p l ih =>
    by_cases hq : q p.1 = true
    · simp only [List.filter_cons, hq, if_true, mLook, ih]
      by_cases e : p.1 = t
      · subst e; simp [hq]
      · simp [e]
    · have hq0 : q p.1 = false := by simpa using hq
      simp only [List.filter_cons, hq0, Bool.false_eq_true, if_false, mLook, ih]
      by_cases e : p.1 = t
      · subst e; simp [hq0]
      · simp [e]
theorem mLook_del [DecidableEq κ] (l : List (κ × ν)) (s t : κ) : mLook (delL l s) t = if s = t then none else mLook l t := by
  have := mLook_filter l (fun k => decide (k ≠ s)) t
  unfold delL
  rw [this]
  by_cases e : s = t
  · subst e; simp
  · have : t ≠ s := fun h => e h.symm
    simp [e, this]
end lists

/-! ### the block -/
theorem getMap {P : Program} {w : World} {r : Nat} {es : Array MapEntry} {clock : Nat} (hb : w.heap[r]? = some (.map es clock)) : (getObj r).run P w = .ok (.map es clock) w := by
  simp [getObj, Sem.run, hb]
theorem setMap {P : Program} {w : World} {r : Nat} {es : Array MapEntry} {clock : Nat} (o : Obj) (hb : w.heap[r]? = some (.map es clock)) : (setObj r o).run P w = .ok () { w with heap := w.heap.setIfInBounds r o } := by
  simp [setObj, Sem.run, hb]
/-- The entries of a map's block, in the order in which they came. -/
def EntsAre (es : Array MapEntry) (clock : Nat) (l : List (Value × Value)) : Prop :=
  es.toList.map (fun e => (e.key, e.val)) = l ∧ (es.toList.map (·.born)).Pairwise (· < ·) ∧ ∀ e ∈ es.toList, e.born < clock

/-- What a key type needs. -/
structure MKey {κ : Type} (P : Program) (K : TypeId) (enc : κ → Value) : Prop where
  check : ∀ (w : World) (em : Bool) (k : κ), (Instr.checkKey em 10000 K (enc k)).run P w = .ok () w
  find : ∀ (w : World) (k : κ) (es : List MapEntry) (ks : List κ), es.map (·.key) = ks.map enc →
    ((Instr.findKey K (enc k) es).run P w = .ok none w ∧ k ∉ ks) ∨ ∃ j e, (Instr.findKey K (enc k) es).run P w = .ok (some (j, e.val)) w ∧ es[j]? = some e ∧ ks[j]? = some k
  stays : ∀ (w : World) (k : κ), (Instr.keyThatStays (enc k) (enc k)).run P w = .ok (enc k) w

section block
variable {κ ν : Type} {P : Program} {K E T : TypeId} {enc : κ → Value} {venc : ν → Value}

/-- Block b is a map of these pairs; no key stands twice. -/
def MapAt (enc : κ → Value) (venc : ν → Value) (w : World) (b : Nat) (l : List (κ × ν)) : Prop :=
  ∃ es clock, w.heap[b]? = some (.map es clock) ∧ EntsAre es clock (l.map fun p => (enc p.1, venc p.2)) ∧ (keysL l).Nodup

theorem MapAt.nodup {w : World} {b : Nat} {l : List (κ × ν)} (h : MapAt enc venc w b l) : (keysL l).Nodup := by
  obtain ⟨_, _, _, _, h⟩ := h; exact h
theorem MapAt.lt {w : World} {b : Nat} {l : List (κ × ν)} (h : MapAt enc venc w b l) : b < w.heap.size := by
  obtain ⟨_, _, h, _⟩ := h; exact (Array.getElem?_eq_some_iff.1 h).1
theorem MapAt.same {w w' : World} {b : Nat} {l : List (κ × ν)} (h : MapAt enc venc w b l) (hb : w'.heap[b]? = w.heap[b]?) : MapAt enc venc w' b l := by
  obtain ⟨es, c, h1, h2⟩ := h; exact ⟨es, c, hb.trans h1, h2⟩
theorem MapAt.chg {w w' : World} {b : Nat} {l : List (κ × ν)} {S : List Nat} (h : MapAt enc venc w b l) (hc : Chg S w w') (hb : b ∉ S) : MapAt enc venc w' b l :=
  h.same (hc.block b h.lt hb)
theorem MapAt.new (w : World) : MapAt enc venc (w.alloc (.map #[] 0)) w.heap.size ([] : List (κ × ν)) :=
  ⟨#[], 0, heap_alloc_new w _, ⟨by simp, by simp, by simp⟩, by simp [keysL]⟩

theorem ents_keys {es : Array MapEntry} {clock : Nat} {l : List (κ × ν)} (h : EntsAre es clock (l.map fun p => (enc p.1, venc p.2))) : es.toList.map (·.key) = (keysL l).map enc := by
  have := congrArg (List.map Prod.fst) h.1
  simpa [keysL, List.map_map, Function.comp_def] using this
theorem ents_at {es : Array MapEntry} {clock : Nat} {l : List (κ × ν)} (h : EntsAre es clock (l.map fun p => (enc p.1, venc p.2))) {j : Nat} {e : MapEntry} (he : es.toList[j]? = some e) :
    ∃ p, l[j]? = some p ∧ e.key = enc p.1 ∧ e.val = venc p.2 := by
  have h1 : (es.toList.map (fun e => (e.key, e.val)))[j]? = some (e.key, e.val) := by rw [List.getElem?_map, he]; rfl
  rw [h.1, List.getElem?_map, Option.map_eq_some_iff] at h1
  obtain ⟨p, hp, e1⟩ := h1
  simp only [Prod.mk.injEq] at e1
  exact ⟨p, hp, e1.1.symm, e1.2.symm⟩

/-- What a key finds. -/
theorem MKey.looks [DecidableEq κ] (M : MKey P K enc) {es : Array MapEntry} {clock : Nat} {l : List (κ × ν)} (h : EntsAre es clock (l.map fun p => (enc p.1, venc p.2))) (hn : (keysL l).Nodup) (w : World) (k : κ) :
    ((Instr.findKey K (enc k) es.toList).run P w = .ok none w ∧ mLook l k = none) ∨
    ∃ j e v, (Instr.findKey K (enc k) es.toList).run P w = .ok (some (j, venc v)) w ∧ es.toList[j]? = some e ∧ l[j]? = some (k, v) ∧ mLook l k = some v ∧ e.key = enc k := by
  rcases M.find w k es.toList (keysL l) (ents_keys h) with ⟨h1, h2⟩ | ⟨j, e, h1, h2, h3⟩
  · exact .inl ⟨h1, mLook_none.2 h2⟩
  · obtain ⟨p, hp, hk, hv⟩ := ents_at h h2
    have h4 : p.1 = k := by
      simp only [keysL, List.getElem?_map, hp, Option.map_some, Option.some.injEq] at h3
      exact h3
    obtain ⟨a, v⟩ := p
    subst h4
    exact .inr ⟨j, e, v, by rw [h1, hv], h2, hp, mLook_at hn hp, hk⟩

def found (venc : ν → Value) (z : Value) : Option ν → Value
  | some v => venc v
  | none => z

theorem MapAt.lookup [DecidableEq κ] {w : World} {b : Nat} {l : List (κ × ν)} (h : MapAt enc venc w b l) (M : MKey P K enc) (hT : P.underlying T = some (.map K E)) {z : Value} (hz : ∀ w, (zeroValue E).run P w = .ok z w) (k : κ) (c : Bool) :
    (Instr.lookup T (.map (some b)) (enc k) c).run P w = .ok (if c then .tuple #[found venc z (mLook l k), .bool (mLook l k).isSome] else found venc z (mLook l k)) w := by
  obtain ⟨es, clock, hb, he, hn⟩ := h
  rcases M.looks he hn w k with ⟨h1, h2⟩ | ⟨j, e, v, h1, h2, h3, h4, _⟩
  · cases c <;> simp [Instr.lookup, run_underlying hT, getMap hb, M.check, h1, hz, h2, found, Result.andThen]
  · cases c <;> simp [Instr.lookup, run_underlying hT, getMap hb, M.check, h1, h4, found, Result.andThen]

/-- The world with another object in block b. -/
theorem Chg.putMap {w : World} {b : Nat} {o : Obj} : Chg [b] w { w with heap := w.heap.setIfInBounds b o } :=
  ⟨rfl, rfl, rfl, by simp, fun k _ hn => by
    have : b ≠ k := fun e => hn (by simp [e])
    simp [this]⟩
theorem putMap_at {w : World} {b : Nat} {o o' : Obj} (h : w.heap[b]? = some o') : ({ w with heap := w.heap.setIfInBounds b o } : World).heap[b]? = some o := by
  have := (Array.getElem?_eq_some_iff.1 h).1
  simp [this]

theorem keys_put_some [DecidableEq κ] {l : List (κ × ν)} {k : κ} {v : ν} (h : (mLook l k).isSome) : keysL (putL l k v) = keysL l := by
  simp only [putL, h, if_true, keysL, List.map_map]
  refine List.map_congr_left fun p _ => ?_
  simp only [Function.comp_apply]
  split
  · rename_i e; exact e.symm
  · rfl
theorem nodup_put [DecidableEq κ] {l : List (κ × ν)} (k : κ) (v : ν) (hn : (keysL l).Nodup) : (keysL (putL l k v)).Nodup := by
  by_cases h : (mLook l k).isSome
  · rw [keys_put_some h]; exact hn
  · have h0 : mLook l k = none := by simpa using h
    simp only [putL, h0, Option.isSome_none, Bool.false_eq_true, if_false, keysL, List.map_append, List.map_cons, List.map_nil]
    refine List.nodup_append.2 ⟨hn, by simp, ?_⟩
    intro a ha b hb
    simp only [List.mem_singleton] at hb
    subst hb
    intro e
    subst e
    exact mLook_none.1 h0 ha
theorem nodup_del [DecidableEq κ] {l : List (κ × ν)} (k : κ) (hn : (keysL l).Nodup) : (keysL (delL l k)).Nodup := by
  unfold keysL delL
  exact hn.sublist (List.Sublist.map _ List.filter_sublist)

theorem map_modify_at {l : List (κ × ν)} [DecidableEq κ] {j : Nat} {k : κ} {v v' : ν} (hn : (keysL l).Nodup) (h : l[j]? = some (k, v)) :
    l.map (fun p => if p.1 = k then (k, v') else p) = l.modify j (fun _ => (k, v')) := by
  induction l generalizing j with
  | nil => simp at h
  | cons p l ih =>
    simp only [keysL, List.map_cons, List.nodup_cons] at hn
    cases j with
    | zero =>
      simp at h
      subst h
      simp only [List.map_cons, if_true, List.modify_zero_cons, List.cons.injEq, true_and]
      conv => rhs; rw [← List.map_id l]
      refine List.map_congr_left fun q hq => ?_
      have : q.1 ≠ k := fun e => hn.1 (List.mem_map.2 ⟨q, hq, e⟩)
      simp [this]
    | succ j =>
      simp only [List.getElem?_cons_succ] at h
      have hm : k ∈ l.map (·.1) := List.mem_map.2 ⟨_, List.mem_of_getElem? h, rfl⟩
      have hne : p.1 ≠ k := fun e => hn.1 (e ▸ hm)
      simp only [List.map_cons, hne, if_false, List.modify_succ_cons, List.cons.injEq, true_and]
      exact ih hn.2 h

theorem MapAt.update [DecidableEq κ] {w : World} {b : Nat} {l : List (κ × ν)} (h : MapAt enc venc w b l) (M : MKey P K enc) (hT : P.underlying T = some (.map K E)) (k : κ) (v : ν) :
    ∃ w', (Instr.mapUpdate T (.map (some b)) (enc k) (venc v)).run P w = .ok () w' ∧ MapAt enc venc w' b (putL l k v) ∧ Chg [b] w w' ∧ w'.heap.size = w.heap.size := by
  obtain ⟨es, clock, hb, he, hn⟩ := h
  rcases M.looks he hn w k with ⟨h1, h2⟩ | ⟨j, e, v0, h1, h2, h3, h4, h5⟩
  · refine ⟨{ w with heap := w.heap.setIfInBounds b (.map (es.push { key := enc k, val := venc v, born := clock }) (clock + 1)) }, ?_, ?_, Chg.putMap, by simp⟩
    · simp [Instr.mapUpdate, run_underlying hT, getMap hb, M.check, h1, setMap _ hb, Result.andThen]
    · refine ⟨_, _, putMap_at hb, ⟨?_, ?_, ?_⟩, nodup_put _ _ hn⟩
      · simp only [Array.toList_push, List.map_append, he.1, putL, h2, Option.isSome_none, Bool.false_eq_true, if_false, List.map_cons, List.map_nil]
      · simp only [Array.toList_push, List.map_append, List.map_cons, List.map_nil]
        refine List.pairwise_append.2 ⟨he.2.1, by simp, ?_⟩
        intro a ha c hc
        simp only [List.mem_singleton] at hc
        obtain ⟨x, hx, rfl⟩ := List.mem_map.1 ha
        subst hc
        exact he.2.2 x hx
      · intro x hx
        simp only [Array.toList_push, List.mem_append, List.mem_singleton] at hx
        rcases hx with hx | rfl
        · exact Nat.lt_succ_of_lt (he.2.2 x hx)
        · exact Nat.lt_succ_self _
  · have hes : es[j]? = some e := by simpa using h2
    have hkey : ((es[j]?).map (·.key)).getD (enc k) = enc k := by rw [hes]; exact h5
    refine ⟨{ w with heap := w.heap.setIfInBounds b (.map (es.modify j fun e => { e with key := enc k, val := venc v }) clock) }, ?_, ?_, Chg.putMap, by simp⟩
    · simp only [Instr.mapUpdate, Sem.run_bind, run_underlying hT, getMap hb, M.check, h1, hkey, M.stays, setMap _ hb, Result.andThen]
    · have hborn : (es.modify j fun e => { e with key := enc k, val := venc v }).toList.map (·.born) = es.toList.map (·.born) := by
        rw [Array.toList_modify]
        refine List.ext_getElem? fun i => ?_
        simp only [List.getElem?_map, List.getElem?_modify]
        split
        · cases es.toList[i]? <;> rfl
        · cases es.toList[i]? <;> rfl
      refine ⟨_, _, putMap_at hb, ⟨?_, ?_, ?_⟩, nodup_put _ _ hn⟩
      · have hs : (mLook l k).isSome := by rw [h4]; rfl
        simp only [putL, hs, if_true, map_modify_at hn h3, Array.toList_modify]
        refine List.ext_getElem? fun i => ?_
        have hi := congrArg (fun l => l[i]?) he.1
        simp only [List.getElem?_map] at hi
        simp only [List.getElem?_map, List.getElem?_modify]
        by_cases hji : j = i
        · subst hji
          simp only [if_true, h2, h3, Option.map_some, Functor.map]
        · simp only [hji, if_false, Functor.map]
          simpa using hi
      · rw [hborn]; exact he.2.1
      · intro x hx
        have : x.born ∈ (es.modify j fun e => { e with key := enc k, val := venc v }).toList.map (·.born) := List.mem_map.2 ⟨x, hx, rfl⟩
        rw [hborn] at this
        obtain ⟨y, hy, e1⟩ := List.mem_map.1 this
        rw [← e1]
        exact he.2.2 y hy

theorem map_erase {α β : Type} (f : α → β) : ∀ (l : List α) (j : Nat), (l.map f).eraseIdx j = (l.eraseIdx j).map f
  | [], _ => by simp
  | _ :: _, 0 => by simp
  | _ :: l, j + 1 => by simp [map_erase f l j]
theorem eraseIdx_del [DecidableEq κ] {l : List (κ × ν)} {j : Nat} {k : κ} {v : ν} (hn : (keysL l).Nodup) (h : l[j]? = some (k, v)) : l.eraseIdx j = delL l k := by
  induction l generalizing j with
  | nil => simp at h
  | cons p l ih =>
    simp only [keysL, List.map_cons, List.nodup_cons] at hn
    cases j with
    | zero =>
      simp at h
      subst h
      have : l.filter (fun p => decide (p.1 ≠ k)) = l := List.filter_eq_self.2 fun q hq => by
        have : q.1 ≠ k := fun e => hn.1 (List.mem_map.2 ⟨q, hq, e⟩)
        simp [this]
      have h2 : delL ((k, v) :: l) k = l.filter (fun p => decide (p.1 ≠ k)) := by simp [delL]
      rw [h2, this]; rfl
    | succ j =>
      simp only [List.getElem?_cons_succ] at h
      have hm : k ∈ l.map (·.1) := List.mem_map.2 ⟨_, List.mem_of_getElem? h, rfl⟩
      have hne : p.1 ≠ k := fun e => hn.1 (e ▸ hm)
      have := ih hn.2 h
      simp only [List.eraseIdx_cons_succ, this]
      simp [delL, hne]
theorem del_none [DecidableEq κ] {l : List (κ × ν)} {k : κ} (h : mLook l k = none) : delL l k = l :=
  List.filter_eq_self.2 fun q hq => by
    have : q.1 ≠ k := fun e => mLook_none.1 h (List.mem_map.2 ⟨q, hq, e⟩)
    simp [this]

theorem MapAt.delete [DecidableEq κ] {w : World} {b : Nat} {l : List (κ × ν)} (h : MapAt enc venc w b l) (M : MKey P K enc) (hT : P.underlying T = some (.map K E)) (k : κ) (kt ty : TypeId) :
    ∃ w', (Builtin.delete_ #[T, kt] ty #[.map (some b), enc k]).run P w = .ok (.tuple #[]) w' ∧ MapAt enc venc w' b (delL l k) ∧ Chg [b] w w' ∧ w'.heap.size = w.heap.size := by
  obtain ⟨es, clock, hb, he, hn⟩ := h
  rcases M.looks he hn w k with ⟨h1, h2⟩ | ⟨j, e, v0, h1, h2, h3, h4, h5⟩
  · refine ⟨{ w with heap := w.heap.setIfInBounds b (.map es clock) }, ?_, ?_, Chg.putMap, by simp⟩
    · simp [Builtin.delete_, run_underlying hT, getMap hb, M.check, h1, setMap _ hb, Result.andThen]
    · exact ⟨_, _, putMap_at hb, by rw [del_none h2]; exact he, nodup_del _ hn⟩
  · refine ⟨{ w with heap := w.heap.setIfInBounds b (.map (es.eraseIdxIfInBounds j) clock) }, ?_, ?_, Chg.putMap, by simp⟩
    · simp [Builtin.delete_, run_underlying hT, getMap hb, M.check, h1, setMap _ hb, Result.andThen]
    · have hl : (es.eraseIdxIfInBounds j).toList = es.toList.eraseIdx j := by simp
      refine ⟨_, _, putMap_at hb, ⟨?_, ?_, ?_⟩, nodup_del _ hn⟩
      · rw [hl, ← eraseIdx_del hn h3, ← map_erase, ← map_erase, he.1]
      · rw [hl]
        exact he.2.1.sublist (List.Sublist.map _ (List.eraseIdx_sublist _ _))
      · intro x hx
        rw [hl] at hx
        exact he.2.2 x ((List.eraseIdx_sublist _ _).subset hx)

/-! ### two kinds of keys -/
/-- An integer of whatever kind. -/
theorem mkey_int {q : IntKind} (hK : P.underlying K = some (.int q)) : MKey P K (fun n : Int => .int q n) where
  check w em k := run_checkKey hK (by simp [IsKey]) em 9999
  stays w k := run_keyThatStays (d := .int q) (by simp [IsKey])
  find w k es ks h := by
    have hk : ∀ x ∈ es, IsKey (.int q) x.key := fun x hx => by
      have : x.key ∈ ks.map (fun n : Int => Value.int q n) := by rw [← h]; exact List.mem_map.2 ⟨x, hx, rfl⟩
      obtain ⟨n, _, e⟩ := List.mem_map.1 this
      rw [← e]; simp [IsKey]
    rcases findNow_spec (d := .int q) (k := .int q k) (by simp [IsKey]) es 0 hk with ⟨h1, h2⟩ | ⟨j, e, h1, h2, h3⟩
    · refine .inl ⟨run_findKey hK h1, fun hm => ?_⟩
      have : Value.int q k ∈ es.map (·.key) := by rw [h]; exact List.mem_map.2 ⟨k, hm, rfl⟩
      obtain ⟨x, hx, e⟩ := List.mem_map.1 this
      exact h2 x hx e
    · refine .inr ⟨j, e, by simpa using run_findKey hK h1, h2, ?_⟩
      have h4 : (es.map (·.key))[j]? = some (.int q k) := by rw [List.getElem?_map, h2]; simp [h3]
      rw [h, List.getElem?_map, Option.map_eq_some_iff] at h4
      obtain ⟨n, hn, e⟩ := h4
      rw [hn]; simpa using e

/-- What is told apart by '==' in the model, one key behind the other. -/
theorem mkey_asking {κ : Type} [DecidableEq κ] {enc : κ → Value} {d : TypeDesc} (hK : P.underlying K = some d) (hslow : ∀ a b : κ, Instr.sameNow d (enc a) (enc b) = none)
    (heq : ∀ (w : World) (a b : κ), (Op.equal K (enc a) (enc b)).run P w = .ok (decide (a = b)) w)
    (hc : ∀ (w : World) (em : Bool) (k : κ), (Instr.checkKey em 10000 K (enc k)).run P w = .ok () w) (hs : ∀ (w : World) (k : κ), (Instr.keyThatStays (enc k) (enc k)).run P w = .ok (enc k) w) : MKey P K enc where
  check := hc
  stays := hs
  find w k es ks h := by
    have ask : ∀ (es : List MapEntry) (ks : List κ) (i : Nat), es.map (·.key) = ks.map enc →
        ((Instr.findAsking K (enc k) es i).run P w = .ok none w ∧ k ∉ ks) ∨ ∃ j e, (Instr.findAsking K (enc k) es i).run P w = .ok (some (i + j, e.val)) w ∧ es[j]? = some e ∧ ks[j]? = some k := by
      intro es
      induction es with
      | nil =>
        intro ks i h
        cases ks with
        | nil => exact .inl ⟨by simp [Instr.findAsking], by simp⟩
        | cons _ _ => simp at h
      | cons e es ih =>
        intro ks i h
        cases ks with
        | nil => simp at h
        | cons x ks =>
          simp only [List.map_cons, List.cons.injEq] at h
          by_cases hx : k = x
          · subst hx
            exact .inr ⟨0, e, by simp [Instr.findAsking, h.1, heq, Result.andThen], by simp, by simp⟩
          · rcases ih ks (i + 1) h.2 with ⟨h1, h2⟩ | ⟨j, e', h1, h2, h3⟩
            · exact .inl ⟨by simp [Instr.findAsking, h.1, heq, hx, Result.andThen, h1], by simp [hx, h2]⟩
            · exact .inr ⟨j + 1, e', by simp [Instr.findAsking, h.1, heq, hx, Result.andThen, h1]; omega, by simpa using h2, by simpa using h3⟩
    have now : ∀ (es : List MapEntry) (ks : List κ) (i : Nat), es.map (·.key) = ks.map enc → Instr.findNow d (enc k) es i = (if es = [] then some none else none) := by
      intro es ks i h
      cases es with
      | nil => simp [Instr.findNow]
      | cons e es =>
        cases ks with
        | nil => simp at h
        | cons x ks =>
          simp only [List.map_cons, List.cons.injEq] at h
          simp [Instr.findNow, h.1, hslow]
    cases es with
    | nil =>
      cases ks with
      | nil => exact .inl ⟨by simp [Instr.findKey, run_underlying hK, now [] [] 0 rfl, Result.andThen], by simp⟩
      | cons _ _ => simp at h
    | cons e es =>
      have h0 : (Instr.findKey K (enc k) (e :: es)).run P w = (Instr.findAsking K (enc k) (e :: es) 0).run P w := by
        simp [Instr.findKey, run_underlying hK, now _ _ 0 h, Result.andThen]
      rw [h0]
      simpa using ask (e :: es) ks 0 h

/-! ### at the operation -/
theorem wpL_lookup [DecidableEq κ] {w : World} {ops : Array Oper} {rest : List Oper} {o : Oper} {a : Act} {Q : Exit → Act → World → Prop}
    (hg : o.guard = none) (m x : Operand) (t : TypeId) (c : Bool) (hop : o.op = Op.lookup t m x c) (M : MKey P K enc) (hT : P.underlying t = some (.map K E)) {z : Value} (hz : ∀ w, (zeroValue E).run P w = .ok z w)
    {b : Nat} {l : List (κ × ν)} (h : MapAt enc venc w b l) (k : κ) (hm : a.eval m = .map (some b)) (hx : a.eval x = enc k)
    (hK : wpList P ops Q rest (a.put o.dst (if c then .tuple #[found venc z (mLook l k), .bool (mLook l k).isSome] else found venc z (mLook l k))) w) : wpList P ops Q (o :: rest) a w := by
  refine wpList_plain hg fun K' hK' => ?_
  have hrun := h.lookup M hT hz k c
  unfold Oper.wp
  simp only [execOp, hop, hm, hx, Sem.run_bind, hrun, Result.andThen]
  exact hK' _ _ hK
theorem wpL_update [DecidableEq κ] {w : World} {ops : Array Oper} {rest : List Oper} {o : Oper} {a : Act} {Q : Exit → Act → World → Prop}
    (hg : o.guard = none) (m x v : Operand) (t : TypeId) (hop : o.op = Op.mapUpdate t m x v) (M : MKey P K enc) (hT : P.underlying t = some (.map K E))
    {b : Nat} {l : List (κ × ν)} (h : MapAt enc venc w b l) (k : κ) (v' : ν) (hm : a.eval m = .map (some b)) (hx : a.eval x = enc k) (hv : a.eval v = venc v')
    (hK : ∀ w', MapAt enc venc w' b (putL l k v') → Chg [b] w w' → w'.heap.size = w.heap.size → wpList P ops Q rest (a.put o.dst undef) w') : wpList P ops Q (o :: rest) a w := by
  refine wpList_plain hg fun K' hK' => ?_
  obtain ⟨w', hrun, r1, r2, r3⟩ := h.update M hT k v'
  unfold Oper.wp
  simp only [execOp, hop, hm, hx, hv, Sem.run_bind, hrun, Result.andThen]
  exact hK' _ _ (hK w' r1 r2 r3)
theorem wpL_delete [DecidableEq κ] {w : World} {ops : Array Oper} {rest : List Oper} {o : Oper} {a : Act} {Q : Exit → Act → World → Prop}
    (hg : o.guard = none) (m x : Operand) (t kt : TypeId) (hop : o.op = Op.call { callee := Callee.builtin Builtin.delete, args := #[m, x], argTypes := #[t, kt] }) (M : MKey P K enc) (hT : P.underlying t = some (.map K E))
    {b : Nat} {l : List (κ × ν)} (h : MapAt enc venc w b l) (k : κ) (hm : a.eval m = .map (some b)) (hx : a.eval x = enc k)
    (hK : ∀ w', MapAt enc venc w' b (delL l k) → Chg [b] w w' → w'.heap.size = w.heap.size → wpList P ops Q rest (a.put o.dst (.tuple #[])) w') : wpList P ops Q (o :: rest) a w := by
  refine wpList_plain hg fun K' hK' => ?_
  obtain ⟨w', hrun, r1, r2, r3⟩ := h.delete M hT k kt o.type
  unfold Oper.wp
  simp [execOp, hop, resolve, invoke, builtin, hm, hx, hrun, Result.andThen]
  exact hK' _ _ (hK w' r1 r2 r3)

end block

/-! ### a region that draws: quiet operations, then a tail in one order -/
theorem wp_tail {P : Program} {id : Nat} {Q : Exit → Act → World → Prop} {a : Act} {w : World} {l : List Oper} (n : Nat) (hm : P.follows .mixedOrders = true) (hB : Region.lexTailB .any l.toArray n = true)
    (h : ∀ W : World, Chg [] w W → wpStill P l.toArray W (fun a' => wpList P l.toArray Q (l.drop n) a' W) (l.take n) a) : (Code.region id l.toArray true).wp P Q a w :=
  wp_region_still_tail n hm hB (h _ (Chg.drew [] w))

theorem wrapOk {n : Int} (h0 : -9223372036854775808 ≤ n) (h1 : n ≤ 9223372036854775807) : IntKind.i64.wrap n = n := IntWalk.i64_in _ (by omega)
theorem wrapV {n m : Int} (h : n = m) (h0 : -9223372036854775808 ≤ n) (h1 : n ≤ 9223372036854775807) : Value.int .i64 (IntKind.i64.wrap n) = .int .i64 m := by rw [wrapOk h0 h1, h]
theorem blk1 {w : World} {b : Nat} {u : Value} {t : TypeId} {fr : Nat × Nat} (h : w.heap[b]? = some (.cells #[u] t fr)) : w.cell? ⟨b, 0, none⟩ = some u := by
  simp [World.cell?, h]
theorem blk2 {w : World} {b : Nat} {u v : Value} {t : TypeId} {fr : Nat × Nat} (h : w.heap[b]? = some (.cells #[u, v] t fr)) : w.cell? ⟨b, 0, none⟩ = some u ∧ w.cell? ⟨b, 1, none⟩ = some v := by
  simp [World.cell?, h]
theorem blk_lt {w : World} {b : Nat} {o : Obj} (h : w.heap[b]? = some o) : b < w.heap.size := (Array.getElem?_eq_some_iff.1 h).1
end Go.Dm

/-
  A map that is ranged over in whatever order: which of its pairs are still to come. Nothing of the program stands in it.
-/
namespace Go.Dm
open Go.MapKept
open Go.RowKit
section block
variable {κ ν : Type} {P : Program} {K E T : TypeId} {enc : κ → Value} {venc : ν → Value}

/-! ### a map that is ranged over: any order; what is left of it -/
/-- Block it is an iterator over the map in block m, whose pairs are l; todo: those that are still to come. -/
def IterAt (enc : κ → Value) (venc : ν → Value) (w : World) (it m : Nat) (l todo : List (κ × ν)) : Prop :=
  ∃ es c seen, w.heap[m]? = some (.map es c) ∧ EntsAre es c (l.map fun p => (enc p.1, venc p.2)) ∧ (keysL l).Nodup ∧ w.heap[it]? = some (.mapIter (some m) c seen c) ∧
    ((l.zip es.toList).filter (fun q => !seen.contains q.2.born)).map (·.1) = todo

theorem IterAt.map {w : World} {it m : Nat} {l todo : List (κ × ν)} (h : IterAt enc venc w it m l todo) : MapAt enc venc w m l := by
  obtain ⟨es, c, seen, h1, h2, h3, _⟩ := h
  exact ⟨es, c, h1, h2, h3⟩
theorem IterAt.chg {w w' : World} {it m : Nat} {l todo : List (κ × ν)} {S : List Nat} (h : IterAt enc venc w it m l todo) (hc : Chg S w w') (h1 : it ∉ S) (h2 : m ∉ S) : IterAt enc venc w' it m l todo := by
  obtain ⟨es, c, seen, a1, a2, a3, a4, a5⟩ := h
  exact ⟨es, c, seen, hc.at_ a1 h2, a2, a3, hc.at_ a4 h1, a5⟩
theorem ents_len {es : Array MapEntry} {c : Nat} {l : List (κ × ν)} (h : EntsAre es c (l.map fun p => (enc p.1, venc p.2))) : es.toList.length = l.length := by
  have := congrArg List.length h.1
  simpa using this
theorem zip_fst {α β : Type} : ∀ (l : List α) (l' : List β), l'.length = l.length → (l.zip l').map (·.1) = l
  | [], _, _ => by simp
  | a :: l, [], h => by simp at h
  | a :: l, b :: l', h => by simp [zip_fst l l' (by simpa using h)]

theorem newObj_run (o : Obj) (w : World) : (newObj o).run P w = .ok w.heap.size (w.alloc o) := rfl
theorem getIter {w : World} {r c d : Nat} {m : Option Nat} {seen : Array Nat} (h : w.heap[r]? = some (.mapIter m c seen d)) : (getObj r).run P w = .ok (.mapIter m c seen d) w := by
  simp only [getObj, Sem.run, h]
theorem setIter {w : World} {r c d : Nat} {m : Option Nat} {seen : Array Nat} (o : Obj) (h : w.heap[r]? = some (.mapIter m c seen d)) : (setObj r o).run P w = .ok () { w with heap := w.heap.setIfInBounds r o } := by
  simp only [setObj, Sem.run, h]
theorem IterAt.start {w : World} {m : Nat} {l : List (κ × ν)} (h : MapAt enc venc w m l) (hT : P.underlying T = some (.map K E)) :
    ∃ o, (Instr.range T (.map (some m))).run P w = .ok (.pointer (some ⟨w.heap.size, 0, none⟩)) (w.alloc o) ∧ IterAt enc venc (w.alloc o) w.heap.size m l l := by
  obtain ⟨es, c, h1, h2, h3⟩ := h
  have hlt := (Array.getElem?_eq_some_iff.1 h1).1
  refine ⟨.mapIter (some m) c #[] c, ?_, es, c, #[], ?_, h2, h3, heap_alloc_new w _, ?_⟩
  · simp only [Instr.range, Sem.run_bind, run_underlying hT, getMap h1, Result.andThen, newObj_run]
    rfl
  · exact (Below.heap_alloc w _ m hlt).trans h1
  · have : (l.zip es.toList).filter (fun q => !(#[] : Array Nat).contains q.2.born) = l.zip es.toList := List.filter_eq_self.2 fun _ _ => by simp
    rw [this, zip_fst _ _ (ents_len h2)]

theorem choose_any {P : Program} {α : Type} (n : Nat) (hn : 0 < n) (k : Nat → Sem α) (w : World) : ∃ i w', i < n ∧ w'.heap = w.heap ∧ Chg [] w w' ∧ ((choose (.mapNext n)).bind k).run P w = (k i).run P w' := by
  by_cases h : n ≤ 1
  · refine ⟨0, w, hn, rfl, Chg.refl _ _, ?_⟩
    show (if Question.forced (.mapNext n) = true then (k 0).run P w else _) = _
    rw [if_pos (by simpa [Question.forced] using h)]
  · refine ⟨w.tape w.drawn (.mapNext n) % n, w.drew, Nat.mod_lt _ hn, rfl, Chg.drew _ _, ?_⟩
    show (if Question.forced (.mapNext n) = true then (k 0).run P w else _) = _
    rw [if_neg (by simpa [Question.forced] using h)]
    rfl

theorem zip_nodup {α β γ : Type} (f : β → γ) : ∀ (l : List α) (l' : List β), (l'.map f).Nodup → ((l.zip l').map (fun q => f q.2)).Nodup
  | [], _, _ => by simp
  | _ :: _, [], _ => by simp
  | a :: l, b :: l', h => by
    simp only [List.map_cons, List.nodup_cons] at h
    simp only [List.zip_cons_cons, List.map_cons, List.nodup_cons]
    refine ⟨fun hm => h.1 ?_, zip_nodup f l l' h.2⟩
    obtain ⟨q, hq, e⟩ := List.mem_map.1 hm
    exact List.mem_map.2 ⟨q.2, (List.of_mem_zip hq).2, e⟩
theorem filter_seen {α : Type} (L : List (α × MapEntry)) (seen : Array Nat) (pre post : List (α × MapEntry)) (q : α × MapEntry) (hn : (L.map (fun q => q.2.born)).Nodup)
    (h : L.filter (fun q => !seen.contains q.2.born) = pre ++ q :: post) : L.filter (fun x => !(seen.push q.2.born).contains x.2.born) = pre ++ post := by
  have h1 : L.filter (fun x => !(seen.push q.2.born).contains x.2.born) = (L.filter (fun x => !seen.contains x.2.born)).filter (fun x => !(x.2.born == q.2.born)) := by
    rw [List.filter_filter]
    refine List.filter_congr fun x _ => ?_
    rw [Array.contains_push]
    cases (x.2.born == q.2.born) <;> cases seen.contains x.2.born <;> rfl
  have h2 : ((pre ++ q :: post).map (fun q => q.2.born)).Nodup := by rw [← h]; exact hn.sublist (List.Sublist.map _ List.filter_sublist)
  rw [h1, h, List.filter_append, List.filter_cons]
  simp only [List.map_append, List.map_cons] at h2
  have h3 := List.nodup_append.1 h2
  have h4 := List.nodup_cons.1 h3.2.1
  have e1 : pre.filter (fun x => !(x.2.born == q.2.born)) = pre := List.filter_eq_self.2 fun x hx => by
    have : x.2.born ≠ q.2.born := h3.2.2 _ (List.mem_map.2 ⟨x, hx, rfl⟩) _ (List.mem_cons_self)
    simp [this]
  have e2 : post.filter (fun x => !(x.2.born == q.2.born)) = post := List.filter_eq_self.2 fun x hx => by
    have : x.2.born ≠ q.2.born := fun e => h4.1 (List.mem_map.2 ⟨x, hx, e⟩)
    simp [this]
  simp [e1, e2]

theorem IterAt.next {w : World} {it m : Nat} {l todo : List (κ × ν)} (h : IterAt enc venc w it m l todo) (ty : TypeId) :
    (todo = [] ∧ (Instr.next (.pointer (some ⟨it, 0, none⟩)) false ty).run P w = .ok (.tuple #[.bool false]) w) ∨
    ∃ pre k v post w', todo = pre ++ (k, v) :: post ∧ (Instr.next (.pointer (some ⟨it, 0, none⟩)) false ty).run P w = .ok (.tuple #[.bool true, enc k, venc v]) w' ∧
      IterAt enc venc w' it m l (pre ++ post) ∧ Chg [it] w w' ∧ w'.heap.size = w.heap.size ∧ (Instr.entry (.pointer (some ⟨it, 0, none⟩))).run P w' = .ok (.tuple #[enc k, venc v]) w' := by
  obtain ⟨es, c, seen, h1, h2, h3, h4, h5⟩ := h
  have hlen := ents_len h2
  have hborn : (es.toList.map (·.born)).Nodup := h2.2.1.imp (fun h e => by omega)
  have hall : (!seen.isEmpty && !es.isEmpty && es.all (fun e => decide (e.born ≥ c))) = false := by
    cases hes : es.toList with
    | nil => have : es = #[] := by simpa using congrArg List.toArray hes
             simp [this]
    | cons e l' =>
      have he : e ∈ es.toList := by rw [hes]; exact List.mem_cons_self
      have hlt := h2.2.2 e he
      have hf : es.all (fun e => decide (e.born ≥ c)) = false := by
        rw [Bool.eq_false_iff]
        intro ha
        have := Array.all_eq_true'.1 ha e (by simpa using he)
        simp at this
        omega
      rw [hf, Bool.and_false]
  have hold : (es.filter fun e => !seen.contains e.born).filter (fun e => decide (e.born < c)) = es.filter fun e => !seen.contains e.born :=
    Array.filter_eq_self.2 fun x hx => by
      have : x ∈ es.toList := by simpa using (Array.mem_filter.1 hx).1
      simpa using h2.2.2 x this
  have hnew : (es.filter fun e => !seen.contains e.born).filter (fun e => decide (e.born ≥ c)) = #[] := by
    rw [Array.filter_eq_empty_iff]
    intro x hx
    have : x ∈ es.toList := by simpa using (Array.mem_filter.1 hx).1
    have := h2.2.2 x this
    simp; omega
  have hleft : (es.filter fun e => !seen.contains e.born).toList = ((l.zip es.toList).filter (fun q => !seen.contains q.2.born)).map (·.2) := by
    have hz : ∀ (l : List (κ × ν)) (es : List MapEntry), es.length = l.length → es.filter (fun e => !seen.contains e.born) = ((l.zip es).filter (fun q => !seen.contains q.2.born)).map (·.2) := by
      intro l
      induction l with
      | nil => intro es h; have : es = [] := by simpa using h
               simp [this]
      | cons p l ih =>
        intro es h
        cases es with
        | nil => simp at h
        | cons e es =>
          have := ih es (by simpa using h)
          simp only [List.zip_cons_cons, List.filter_cons]
          split
          · rw [List.map_cons, ← this]
          · exact this
    rw [Array.toList_filter]
    exact hz l es.toList hlen
  generalize hL : es.filter (fun e => !seen.contains e.born) = L at hold hnew hleft
  generalize hZ : (l.zip es.toList).filter (fun q => !seen.contains q.2.born) = Z at hleft h5
  cases Z with
  | nil =>
    have hL0 : L = #[] := by simpa using congrArg List.toArray hleft
    subst hL0
    refine .inl ⟨by simpa using h5.symm, ?_⟩
    simp only [Instr.next, Sem.run_bind, getIter h4, getMap h1, Result.andThen, hall, Bool.false_eq_true, if_false, hL, hold, hnew, Array.append_empty, Array.isEmpty_empty, if_true, Array.map_empty]
    rfl
  | cons q0 Z0 =>
    have hpos : 0 < L.size := by
      have := congrArg List.length hleft
      simp at this
      omega
    have hne : L.isEmpty = false := by
      rw [Array.isEmpty_eq_false_iff]; intro e; rw [e] at hpos; simp at hpos
    right
    obtain ⟨i, w1, hi, hw1, hc1, hch⟩ := choose_any (P := P) L.size hpos (fun i => do
      match (L.map some)[i]? with
      | some (some e) =>
        setObj it (.mapIter (some m) c (seen.push e.born) c)
        pure (Value.tuple #[.bool true, e.key, e.val])
      | some none => pure (Value.tuple #[.bool false])
      | none => stuck "Next: no such candidate") w
    have hLi : L[i]? = some L[i] := by simp [hi]
    have hZi : (q0 :: Z0)[i]?.map (·.2) = some L[i] := by
      rw [← List.getElem?_map, ← hleft]; simp [hi]
    obtain ⟨q, hq, hqe⟩ := Option.map_eq_some_iff.1 hZi
    obtain ⟨hlt, hqi⟩ := List.getElem?_eq_some_iff.1 hq
    have hsplit : q0 :: Z0 = (q0 :: Z0).take i ++ q :: (q0 :: Z0).drop (i + 1) := by
      rw [← hqi]
      exact (List.take_append_drop i (q0 :: Z0)).symm.trans (by rw [List.drop_eq_getElem_cons hlt])
    have hmem : q ∈ l.zip es.toList := by
      have : q ∈ (l.zip es.toList).filter (fun q => !seen.contains q.2.born) := by rw [hZ]; exact List.mem_of_getElem? hq
      exact (List.mem_filter.1 this).1
    obtain ⟨j, hj, hje⟩ := List.mem_iff_getElem.1 hmem
    have hjl : j < l.length := by simp at hj; omega
    have hje' : j < es.toList.length := by simp at hj; simp; omega
    simp only [List.getElem_zip] at hje
    have hent : es.toList[j]? = some q.2 := by rw [← hje]; simp
    have hlj : l[j]? = some q.1 := by rw [← hje]; simp [hjl]
    obtain ⟨p, hp, hk, hv⟩ := ents_at h2 hent
    have hpq : p = q.1 := by rw [hlj] at hp; simpa using hp.symm
    subst hpq
    have hit1 : w1.heap[it]? = some (.mapIter (some m) c seen c) := by rw [hw1]; exact h4
    have hm1 : w1.heap[m]? = some (.map es c) := by rw [hw1]; exact h1
    have hmne : m ≠ it := fun e => by subst e; rw [h1] at h4; cases h4
    have hlt1 := (Array.getElem?_eq_some_iff.1 hit1).1
    refine ⟨((q0 :: Z0).take i).map (·.1), q.1.1, q.1.2, ((q0 :: Z0).drop (i + 1)).map (·.1), { w1 with heap := w1.heap.setIfInBounds it (.mapIter (some m) c (seen.push q.2.born) c) }, ?_, ?_, ?_, ?_, by simp [hw1], ?_⟩
    · rw [← h5]
      conv => lhs; rw [hsplit]
      simp
    · have hset : (setObj it (.mapIter (some m) c (seen.push q.2.born) c)).run P w1 = .ok () { w1 with heap := w1.heap.setIfInBounds it (.mapIter (some m) c (seen.push q.2.born) c) } := by
        exact setIter _ hit1
      have e0 : (Instr.next (.pointer (some ⟨it, 0, none⟩)) false ty).run P w = ((choose (.mapNext L.size)).bind (fun i => do
          match (L.map some)[i]? with
          | some (some e) =>
            setObj it (.mapIter (some m) c (seen.push e.born) c)
            pure (Value.tuple #[.bool true, e.key, e.val])
          | some none => pure (Value.tuple #[.bool false])
          | none => stuck "Next: no such candidate")).run P w := by
        simp only [Instr.next, Sem.run_bind, getIter h4, getMap h1, Result.andThen, hall, Bool.false_eq_true, if_false, hL, hold, hnew, hne, Array.append_empty, Array.empty_append, Array.size_map]
        exact (Sem.run_bind P w (choose (.mapNext L.size)) _).symm
      rw [e0, hch]
      simp only [Array.getElem?_map, hLi, Option.map_some, ← hqe, Sem.run_bind, hset, Result.andThen, hk, hv]
      rfl
    · refine ⟨es, c, seen.push q.2.born, ?_, h2, h3, ?_, ?_⟩
      · simp [Ne.symm hmne, hm1]
      · simp [hlt1]
      · rw [filter_seen _ seen _ _ q (zip_nodup _ _ _ hborn) (hZ.trans hsplit), List.map_append]
    · exact (hc1.mono (by simp)).trans Chg.putMap
    · have hf : es.find? (fun e => e.born == q.2.born) = some q.2 := by
        rw [← Array.find?_toList]
        exact Go.find_born q.2 es.toList hborn (List.mem_of_getElem? hent)
      have g1 : ({ w1 with heap := w1.heap.setIfInBounds it (.mapIter (some m) c (seen.push q.2.born) c) } : World).heap[it]? = some (.mapIter (some m) c (seen.push q.2.born) c) := by simp [hlt1]
      have g2 : ({ w1 with heap := w1.heap.setIfInBounds it (.mapIter (some m) c (seen.push q.2.born) c) } : World).heap[m]? = some (.map es c) := by simp [Ne.symm hmne, hm1]
      simp only [Instr.entry, Sem.run_bind, getIter g1, getMap g2, Result.andThen, Array.back?_push, bne_self_eq_false, Bool.false_eq_true, if_false, hf, hk, hv]
      rfl

theorem zip_erase {α β : Type} : ∀ (l : List α) (l' : List β) (j : Nat), (l.eraseIdx j).zip (l'.eraseIdx j) = (l.zip l').eraseIdx j
  | [], l', j => by simp
  | _ :: _, [], j => by simp
  | _ :: _, _ :: _, 0 => by simp
  | a :: l, b :: l', j + 1 => by simp [zip_erase l l' j]
theorem erase_filter {α κ : Type} [DecidableEq κ] (f : α → κ) {Z : List α} {j : Nat} {q : α} (hn : (Z.map f).Nodup) (h : Z[j]? = some q) : Z.eraseIdx j = Z.filter (fun x => decide (f x ≠ f q)) := by
  induction Z generalizing j with
  | nil => simp at h
  | cons p Z ih =>
    simp only [List.map_cons, List.nodup_cons] at hn
    cases j with
    | zero =>
      simp at h
      subst h
      have : Z.filter (fun x => decide (f x ≠ f p)) = Z := List.filter_eq_self.2 fun x hx => by
        have : f x ≠ f p := fun e => hn.1 (List.mem_map.2 ⟨x, hx, e⟩)
        simp [this]
      have h2 : (p :: Z).filter (fun x => decide (f x ≠ f p)) = Z.filter (fun x => decide (f x ≠ f p)) := by simp
      rw [h2, this]; rfl
    | succ j =>
      simp only [List.getElem?_cons_succ] at h
      have hm : f q ∈ Z.map f := List.mem_map.2 ⟨q, List.mem_of_getElem? h, rfl⟩
      have hne : f p ≠ f q := fun e => hn.1 (e ▸ hm)
      have := ih hn.2 h
      simp only [List.eraseIdx_cons_succ, this]
      simp [hne]

theorem IterAt.delete [DecidableEq κ] {w : World} {it m : Nat} {l todo : List (κ × ν)} (h : IterAt enc venc w it m l todo) (M : MKey P K enc) (hT : P.underlying T = some (.map K E)) (k : κ) (kt ty : TypeId) :
    ∃ w', (Builtin.delete_ #[T, kt] ty #[.map (some m), enc k]).run P w = .ok (.tuple #[]) w' ∧ IterAt enc venc w' it m (delL l k) (delL todo k) ∧ Chg [m] w w' ∧ w'.heap.size = w.heap.size := by
  obtain ⟨es, clock, seen, hb, he, hn, hit, htodo⟩ := h
  have hne : m ≠ it := fun e => by subst e; rw [hb] at hit; cases hit
  rcases M.looks he hn w k with ⟨h1, h2⟩ | ⟨j, e, v0, h1, h2, h3, h4, h5⟩
  · refine ⟨{ w with heap := w.heap.setIfInBounds m (.map es clock) }, ?_, ?_, Chg.putMap, by simp⟩
    · simp [Builtin.delete_, run_underlying hT, getMap hb, M.check, h1, setMap _ hb, Result.andThen]
    · have h0 : delL todo k = todo := List.filter_eq_self.2 fun q hq => by
        have hql : q ∈ l := by
          rw [← htodo] at hq
          obtain ⟨z, hz, rfl⟩ := List.mem_map.1 hq
          exact (List.of_mem_zip (List.mem_filter.1 hz).1).1
        have : q.1 ≠ k := fun e => mLook_none.1 h2 (List.mem_map.2 ⟨q, hql, e⟩)
        simp [this]
      exact ⟨_, _, seen, putMap_at hb, by rw [del_none h2]; exact he, nodup_del _ hn, by simp [hne, hit], by rw [del_none h2, h0]; exact htodo⟩
  · refine ⟨{ w with heap := w.heap.setIfInBounds m (.map (es.eraseIdxIfInBounds j) clock) }, ?_, ?_, Chg.putMap, by simp⟩
    · simp [Builtin.delete_, run_underlying hT, getMap hb, M.check, h1, setMap _ hb, Result.andThen]
    · have hl : (es.eraseIdxIfInBounds j).toList = es.toList.eraseIdx j := by simp
      refine ⟨_, _, seen, putMap_at hb, ⟨?_, ?_, ?_⟩, nodup_del _ hn, by simp [hne, hit], ?_⟩
      · rw [hl, ← eraseIdx_del hn h3, ← map_erase, ← map_erase, he.1]
      · rw [hl]
        exact he.2.1.sublist (List.Sublist.map _ (List.eraseIdx_sublist _ _))
      · intro x hx
        rw [hl] at hx
        exact he.2.2 x ((List.eraseIdx_sublist _ _).subset hx)
      · have hz : (l.zip es.toList)[j]? = some ((k, v0), e) := by
          rw [List.getElem?_zip_eq_some]; exact ⟨h3, h2⟩
        have hzn : ((l.zip es.toList).map (fun q => q.1.1)).Nodup := by
          have : (l.zip es.toList).map (fun q => q.1.1) = keysL l := by
            have := congrArg (List.map Prod.fst) (zip_fst l es.toList (ents_len he))
            rw [List.map_map] at this
            exact this
          rw [this]; exact hn
        rw [hl, ← eraseIdx_del hn h3, zip_erase, erase_filter (fun q => q.1.1) hzn hz, List.filter_filter, ← htodo]
        unfold delL
        rw [List.filter_map, List.filter_filter]
        congr 1
        exact List.filter_congr fun x _ => by simp [Bool.and_comm]

/-! ### at the operation -/
theorem wpL_range {w : World} {ops : Array Oper} {rest : List Oper} {o : Oper} {a : Act} {Q : Exit → Act → World → Prop}
    (hg : o.guard = none) (m : Operand) (t : TypeId) (hop : o.op = Op.range t m) (hT : P.underlying t = some (.map K E))
    {b : Nat} {l : List (κ × ν)} (h : MapAt enc venc w b l) (hm : a.eval m = .map (some b))
    (hK : ∀ ob, IterAt enc venc (w.alloc ob) w.heap.size b l l → wpList P ops Q rest (a.put o.dst (.pointer (some ⟨w.heap.size, 0, none⟩))) (w.alloc ob)) : wpList P ops Q (o :: rest) a w := by
  refine wpList_plain hg fun K' hK' => ?_
  obtain ⟨ob, hrun, r1⟩ := IterAt.start h hT
  unfold Oper.wp
  simp only [execOp, hop, hm, Sem.run_bind, hrun, Result.andThen]
  exact hK' _ _ (hK ob r1)
theorem wpL_next {w : World} {ops : Array Oper} {rest : List Oper} {o : Oper} {a : Act} {Q : Exit → Act → World → Prop}
    (hg : o.guard = none) (x : Operand) (hop : o.op = Op.next x false)
    {it m : Nat} {l todo : List (κ × ν)} (h : IterAt enc venc w it m l todo) (hx : a.eval x = .pointer (some ⟨it, 0, none⟩))
    (hK0 : todo = [] → wpList P ops Q rest (a.put o.dst (.tuple #[.bool false])) w)
    (hK1 : ∀ pre k v post w', todo = pre ++ (k, v) :: post → IterAt enc venc w' it m l (pre ++ post) → Chg [it] w w' → w'.heap.size = w.heap.size →
      (Instr.entry (.pointer (some ⟨it, 0, none⟩))).run P w' = .ok (.tuple #[enc k, venc v]) w' → wpList P ops Q rest (a.put o.dst (.tuple #[.bool true, enc k, venc v])) w') : wpList P ops Q (o :: rest) a w := by
  refine wpList_plain hg fun K' hK' => ?_
  rcases h.next (P := P) o.type with ⟨e, hrun⟩ | ⟨pre, k, v, post, w', e, hrun, r1, r2, r3, r4⟩
  · unfold Oper.wp
    simp only [execOp, hop, hx, Sem.run_bind, hrun, Result.andThen]
    exact hK' _ _ (hK0 e)
  · unfold Oper.wp
    simp only [execOp, hop, hx, Sem.run_bind, hrun, Result.andThen]
    exact hK' _ _ (hK1 pre k v post w' e r1 r2 r3 r4)
theorem wpL_entry {w : World} {ops : Array Oper} {rest : List Oper} {o : Oper} {a : Act} {Q : Exit → Act → World → Prop}
    (hg : o.guard = none) (x : Operand) (hop : o.op = Op.entry x) {it : Nat} {u : Value} (h : (Instr.entry (.pointer (some ⟨it, 0, none⟩))).run P w = .ok u w) (hx : a.eval x = .pointer (some ⟨it, 0, none⟩))
    (hK : wpList P ops Q rest (a.put o.dst u) w) : wpList P ops Q (o :: rest) a w := by
  refine wpList_plain hg fun K' hK' => ?_
  unfold Oper.wp
  simp only [execOp, hop, hx, Sem.run_bind, h, Result.andThen]
  exact hK' _ _ hK
theorem wpL_delete_it [DecidableEq κ] {w : World} {ops : Array Oper} {rest : List Oper} {o : Oper} {a : Act} {Q : Exit → Act → World → Prop}
    (hg : o.guard = none) (m x : Operand) (t kt : TypeId) (hop : o.op = Op.call { callee := Callee.builtin Builtin.delete, args := #[m, x], argTypes := #[t, kt] }) (M : MKey P K enc) (hT : P.underlying t = some (.map K E))
    {it b : Nat} {l todo : List (κ × ν)} (h : IterAt enc venc w it b l todo) (k : κ) (hm : a.eval m = .map (some b)) (hx : a.eval x = enc k)
    (hK : ∀ w', IterAt enc venc w' it b (delL l k) (delL todo k) → Chg [b] w w' → w'.heap.size = w.heap.size → wpList P ops Q rest (a.put o.dst (.tuple #[])) w') : wpList P ops Q (o :: rest) a w := by
  refine wpList_plain hg fun K' hK' => ?_
  obtain ⟨w', hrun, r1, r2, r3⟩ := h.delete M hT k kt o.type
  unfold Oper.wp
  simp [execOp, hop, resolve, invoke, builtin, hm, hx, hrun, Result.andThen]
  exact hK' _ _ (hK w' r1 r2 r3)
end block
end Go.Dm

/-
  Slices as lists of records: a slice's own row, read and appended to. Nothing of the program stands in it.
-/
namespace Go.Dm
open Go.RowKit

section
variable {α : Type}

/-- Each record takes sz cells. -/
structure REnc (sz : Nat) (renc : α → List Value) : Prop where
  len : ∀ a, (renc a).length = sz
  one : ∀ a, ∀ u ∈ renc a, u.oneCell' = true

theorem flat_len {sz : Nat} {renc : α → List Value} (R : REnc sz renc) : ∀ l : List α, (l.flatMap renc).length = l.length * sz
  | [] => by simp
  | a :: l => by
    rw [List.flatMap_cons, List.length_append, R.len, flat_len R l, List.length_cons, Nat.add_mul, Nat.one_mul, Nat.add_comm]
theorem flat_get {sz : Nat} {renc : α → List Value} (R : REnc sz renc) : ∀ (l : List α) (i j : Nat) (a : α), l[i]? = some a → j < sz → (l.flatMap renc)[i * sz + j]? = (renc a)[j]?
  | [], i, j, a, h, _ => by simp at h
  | b :: l, 0, j, a, h, hj => by
    simp at h
    subst h
    rw [List.flatMap_cons, Nat.zero_mul, Nat.zero_add, List.getElem?_append_left (by rw [R.len]; exact hj)]
  | b :: l, i + 1, j, a, h, hj => by
    rw [List.flatMap_cons, List.getElem?_append_right (by rw [R.len, Nat.add_mul]; omega), R.len]
    have : (i + 1) * sz + j - sz = i * sz + j := by rw [Nat.add_mul]; omega
    rw [this]
    exact flat_get R l i j a (by simpa using h) hj

/-- The slice value v owns a row of its own with these records. -/
def SlAt (e sz : Nat) (renc : α → List Value) (w : World) (v : Value) (l : List α) : Prop := w.ownsRow 0 e sz v l.length (l.flatMap renc)

variable {e sz : Nat} {renc : α → List Value} {w w' : World} {v : Value} {l : List α}

theorem SlAt.nil (e sz : Nat) (renc : α → List Value) (w : World) : SlAt e sz renc w (.slice none 0 0) [] := ⟨by simp, .inl ⟨rfl, rfl⟩⟩
theorem SlAt.empty {t e sz : Nat} {renc : α → List Value} {w : World} {g : Nat} (h : w.heap[g]? = some (.cells #[] e (0, 0))) (_ht : t = e) : SlAt e sz renc w (.slice (some ⟨g, 0, none⟩) 0 0) ([] : List α) :=
  ⟨by simp, .inr ⟨g, 0, #[], rfl, Nat.zero_le _, h, Nat.le_refl _, Nat.zero_le _, by simp, by simp⟩⟩
theorem SlAt.form (h : SlAt e sz renc w v l) : ∃ A c, v = .slice A l.length c ∧ (A = none ∨ ∃ g, A = some ⟨g, 0, none⟩) ∧ (0 < l.length → ∃ g, A = some ⟨g, 0, none⟩) := by
  rcases h.2 with ⟨rfl, h0⟩ | ⟨g, cap, cur, rfl, _⟩
  · exact ⟨none, 0, by rw [h0], .inl rfl, fun h => by omega⟩
  · exact ⟨_, cap, rfl, .inr ⟨g, rfl⟩, fun _ => ⟨g, rfl⟩⟩
theorem SlAt.at_ {g n c : Nat} (h : SlAt e sz renc w (.slice (some ⟨g, 0, none⟩) n c) l) (R : REnc sz renc) {i j : Nat} {a : α} (ha : l[i]? = some a) (hj : j < sz) : w.cell? ⟨g, i * sz + j, none⟩ = (renc a)[j]? := by
  rcases h.2 with ⟨h0, _⟩ | ⟨g', cap, cur, hv, _, hg, _, _, hs, ht⟩
  · cases h0
  · simp only [Value.slice.injEq, Option.some.injEq, Addr.mk.injEq, and_true] at hv
    obtain ⟨rfl, _, _⟩ := hv
    have h1 := flat_get R l i j a ha hj
    rw [← ht, List.getElem?_take] at h1
    have hil : i < l.length := (List.getElem?_eq_some_iff.1 ha).1
    have : i * sz + j < l.length * sz := by
      have := Nat.mul_le_mul_right sz (show i + 1 ≤ l.length by omega)
      rw [Nat.add_mul] at this
      omega
    rw [if_pos this] at h1
    rw [← h1]
    simp [World.cell?, hg]
theorem SlAt.free {g n c : Nat} (h : SlAt e sz renc w (.slice (some ⟨g, 0, none⟩) n c) l) (j : Nat) : w.frozen? ⟨g, j, none⟩ = false := by
  rcases h.2 with ⟨h0, _⟩ | ⟨g', cap, cur, hv, _, hg, _, _, hs, ht⟩
  · cases h0
  · simp only [Value.slice.injEq, Option.some.injEq, Addr.mk.injEq, and_true] at hv
    obtain ⟨rfl, _, _⟩ := hv
    simp [World.frozen?, hg]
theorem SlAt.typed (h : SlAt e sz renc w v l) {g : Nat} (hv : v.ownBlock = some g) : ∃ cur, w.heap[g]? = some (.cells cur e (0, 0)) := by
  rcases h.2 with ⟨rfl, _⟩ | ⟨g', cap, cur, rfl, _, hg, _⟩
  · simp [Value.ownBlock] at hv
  · simp [Value.ownBlock] at hv
    subst hv
    exact ⟨cur, hg⟩
theorem SlAt.lt (h : SlAt e sz renc w v l) {g : Nat} (hv : v.ownBlock = some g) : g < w.heap.size := by
  obtain ⟨_, hg⟩ := h.typed hv
  exact (Array.getElem?_eq_some_iff.1 hg).1
theorem SlAt.ne (h : SlAt e sz renc w v l) {r t : Nat} {cs : Array Value} {fr : Nat × Nat} (hr : w.heap[r]? = some (.cells cs t fr)) (ht : t ≠ e) : v.ownBlock ≠ some r := by
  intro hv
  obtain ⟨_, hg⟩ := h.typed hv
  rw [hr] at hg
  cases hg
  exact ht rfl
theorem SlAt.same (h : SlAt e sz renc w v l) (hb : ∀ g, v.ownBlock = some g → w'.heap[g]? = w.heap[g]?) : SlAt e sz renc w' v l := by
  refine ⟨h.1, ?_⟩
  rcases h.2 with hn | ⟨g, cap, cur, rfl, hb0, hg, r⟩
  · exact .inl hn
  · exact .inr ⟨g, cap, cur, rfl, hb0, (hb g (by simp [Value.ownBlock])).trans hg, r⟩
theorem SlAt.chg {S : List Nat} (h : SlAt e sz renc w v l) (hc : Chg S w w') (hn : ∀ g, v.ownBlock = some g → g ∉ S) : SlAt e sz renc w' v l :=
  h.same fun g hg => hc.block g (h.lt hg) (hn g hg)
theorem SlAt.len_le (h : SlAt e sz renc w v l) : l.length ≤ 9223372036854775807 := by
  rcases h.2 with ⟨_, h0⟩ | ⟨g, cap, cur, rfl, hb, hg, hn, hc, _⟩
  · omega
  · unfold maxLen at hc; omega

/-- The slice lies in a block from B on (or nowhere). -/
def Fresh (B : Nat) (v : Value) : Prop := ∀ g, v.ownBlock = some g → B ≤ g
theorem Fresh.not_in {B : Nat} {v : Value} (h : Fresh B v) {S : List Nat} (hS : ∀ k ∈ S, k < B) : ∀ g, v.ownBlock = some g → g ∉ S := fun g hg hm => by
  have := h g hg; have := hS g hm; omega
theorem Fresh.next {B : Nat} {v v' : Value} {w : World} (h : Fresh B v) (hB : B ≤ w.heap.size) (hl : v'.ownBlock = v.ownBlock ∨ v'.ownBlock = some w.heap.size) : Fresh B v' := by
  intro g hg
  rcases hl with hl | hl
  · exact h g (hl ▸ hg)
  · rw [hl] at hg; cases hg; exact hB
theorem Fresh.chg {B : Nat} {v : Value} {w w' : World} (h : Fresh B v) (hg : w.grownBy w' v.ownBlock) {w0 : World} (h0 : Chg [] w0 w) (hB : w0.heap.size ≤ B) : Chg [] w0 w' :=
  ⟨hg.os.trans h0.os, hg.tape.trans h0.tape, hg.output.trans h0.output, Nat.le_trans h0.size hg.size, fun k hk hn =>
    (hg.block k (Nat.lt_of_lt_of_le hk h0.size) (fun e => by have := h k e.symm; omega)).trans (h0.block k hk hn)⟩
theorem Fresh.of {B g n c : Nat} (h : B ≤ g) : Fresh B (.slice (some ⟨g, 0, none⟩) n c) := fun k hk => by simp [Value.ownBlock] at hk; omega
theorem Fresh.none {B n c : Nat} : Fresh B (.slice none n c) := fun k hk => by simp [Value.ownBlock] at hk
/-- What is appended: as many records, at an address. -/
def SrcAt (renc : α → List Value) (w : World) (u : Value) (l : List α) : Prop :=
  ∃ A c, u = .slice A l.length c ∧ (l = [] ∨ ∃ ad, A = some ad ∧ ∀ j x, (l.flatMap renc)[j]? = some x → w.cell? (ad.add j) = some x)

theorem add_lit' (g j : Nat) : (⟨g, 0, none⟩ : Addr).add j = ⟨g, j, none⟩ := by unfold Addr.add; split <;> simp_all
theorem SlAt.src (h : SlAt e sz renc w v l) : SrcAt renc w v l := by
  rcases h.2 with ⟨rfl, h0⟩ | ⟨g, cap, cur, rfl, hb, hg, hn, hc, hs, ht⟩
  · have : l = [] := by simpa using h0
    exact ⟨none, 0, by rw [h0], .inl this⟩
  · refine ⟨_, cap, rfl, .inr ⟨_, rfl, fun j x hx => ?_⟩⟩
    rw [add_lit', ← ht, List.getElem?_take] at *
    split at hx
    · simpa [World.cell?, hg] using hx
    · cases hx
theorem SrcAt.one {g t : Nat} {a : α} {fr : Nat × Nat} (h : w.heap[g]? = some (.cells (renc a).toArray t fr)) (c : Nat) : SrcAt renc w (.slice (some ⟨g, 0, none⟩) 1 c) [a] := by
  refine ⟨_, c, rfl, .inr ⟨_, rfl, fun j x hx => ?_⟩⟩
  rw [add_lit']
  simp only [List.flatMap_cons, List.flatMap_nil, List.append_nil] at hx
  simp [World.cell?, h, hx]
theorem SrcAt.chg {S : List Nat} {u : Value} (h : SrcAt renc w u l) (hc : Chg S w w') (hn : ∀ g, u.ownBlock = some g → g ∉ S) : SrcAt renc w' u l := by
  obtain ⟨A, c, rfl, h⟩ := h
  refine ⟨A, c, rfl, h.imp id ?_⟩
  rintro ⟨ad, rfl, h'⟩
  refine ⟨ad, rfl, fun j x hx => ?_⟩
  have hb : (ad.add j).block = ad.block := by unfold Addr.add; split <;> rfl
  have h1 := h' j x hx
  have hlt := World.block_lt_of_cell? w _ h1
  exact (World.cell?_of_block (hc.block _ hlt (by rw [hb]; exact hn _ (by simp [Value.ownBlock])))).trans h1

/-- append, whatever is appended. -/
theorem run_append_sl {P : Program} (t ty e : TypeId) (i : TypeInfo) (z : Value) (size bytes : Nat) {renc : α → List Value} (R : REnc size renc) (ht : P.underlying t = some (.slice e)) (hi : P.info? e = some i) (hz : i.zero = some z)
    (hsize : i.size = size) (hby : i.bytes = bytes) (hzs : z.cells.size = size) (hsz : 0 < size)
    {w : World} {v u : Value} {l l2 : List α} (h : SlAt e size renc w v l) (hs : SrcAt renc w u l2) (hlen : l.length + l2.length ≤ maxLen) (hbytes : (l.length + l2.length) * bytes ≤ 140737488355328) :
    ∃ v' w', (Builtin.append_ #[t, t] ty #[v, u]).run P w = .ok v' w' ∧ SlAt e size renc w' v' (l ++ l2) ∧ w.grownBy w' v.ownBlock ∧ (v'.ownBlock = v.ownBlock ∨ v'.ownBlock = some w.heap.size) := by
  obtain ⟨A, c, rfl, hs⟩ := hs
  rcases hs with rfl | ⟨ad, rfl, hs⟩
  · refine ⟨v, w, ?_, by simpa using h, ⟨rfl, rfl, rfl, Nat.le_refl _, fun _ _ _ => rfl⟩, .inl rfl⟩
    have hv : ∃ base n cap, v = .slice base n cap ∧ n ≤ cap := by
      rcases h.2 with ⟨rfl, _⟩ | ⟨g, cap, cur, rfl, _, _, hc, _⟩
      · exact ⟨_, _, _, rfl, Nat.le_refl _⟩
      · exact ⟨_, _, _, rfl, hc⟩
    obtain ⟨base, n, cap, rfl, hn⟩ := hv
    have hf : ∀ A, (Builtin.firstCells i.size 0 (.slice A 0 c)).run P w = .ok #[] w := by
      intro A
      cases A <;> simp [Builtin.firstCells, loadCells, loadCellsFrom]
    cases base <;> simp [Builtin.append_, run_underlying ht, sizeOf, typeInfo, hi, Builtin.lenOf, hn, hf, Result.andThen, storeCells]
  · have hlen2 := flat_len R l2
    obtain ⟨v', w', hrun, h1, h2, _, h4⟩ := run_append_own_at (P := P) w 0 t ty e i z size bytes ht hi hz hsize hby hzs hsz v l.length (l.flatMap renc) h ad l2.length c (l2.flatMap renc) hlen2 hs
      (fun u hu => by obtain ⟨a, _, ha⟩ := List.mem_flatMap.1 hu; exact R.one a u ha) hlen hbytes (Nat.zero_le _)
    refine ⟨v', w', hrun, ?_, h2, h4⟩
    unfold SlAt
    rw [List.length_append, List.flatMap_append]
    exact h1

theorem maxOk {n : Nat} (h : n ≤ 1000000) : n ≤ maxLen := by unfold maxLen; omega
/-- The element type's row of the table. -/
structure ElemIs (P : Program) (t e size bytes : Nat) : Prop where
  slice : P.underlying t = some (.slice e)
  info : ∃ i z, P.info? e = some i ∧ i.zero = some z ∧ i.size = size ∧ i.bytes = bytes ∧ z.cells.size = size
  pos : 0 < size

theorem wpL_append {P : Program} {ops : Array Oper} {rest : List Oper} {o : Oper} {a : Act} {Q : Exit → Act → World → Prop} (hg : o.guard = none) (s x : Operand) (t : TypeId)
    (hop : o.op = Op.call { callee := Callee.builtin Builtin.append, args := #[s, x], argTypes := #[t, t] }) {e size bytes : Nat} {renc : α → List Value} (R : REnc size renc) (E : ElemIs P t e size bytes)
    {w : World} {v u : Value} {l l2 : List α} (h : SlAt e size renc w v l) (hs : SrcAt renc w u l2) (hev : a.eval s = v) (heu : a.eval x = u) (hlen : l.length + l2.length ≤ maxLen) (hbytes : (l.length + l2.length) * bytes ≤ 140737488355328)
    (hK : ∀ v' w', SlAt e size renc w' v' (l ++ l2) → w.grownBy w' v.ownBlock → (v'.ownBlock = v.ownBlock ∨ v'.ownBlock = some w.heap.size) → wpList P ops Q rest (a.put o.dst v') w') : wpList P ops Q (o :: rest) a w := by
  refine wpList_plain hg fun K' hK' => ?_
  obtain ⟨i, z, h1, h2, h3, h4, h5⟩ := E.info
  obtain ⟨v', w', hrun, r1, r2, r3⟩ := run_append_sl t o.type e i z size bytes R E.slice h1 h2 h3 h4 h5 E.pos h hs hlen hbytes
  unfold Oper.wp
  simp [execOp, hop, resolve, invoke, builtin, hev, heu, hrun, Result.andThen]
  exact hK' _ _ (hK v' w' r1 r2 r3)

theorem Fresh.chg' {S : List Nat} {B : Nat} {v : Value} {w w' : World} (h : Fresh B v) (hg : w.grownBy w' v.ownBlock) {w0 : World} (h0 : Chg S w0 w) (hB : w0.heap.size ≤ B) : Chg S w0 w' :=
  ⟨hg.os.trans h0.os, hg.tape.trans h0.tape, hg.output.trans h0.output, Nat.le_trans h0.size hg.size, fun k hk hn =>
    (hg.block k (Nat.lt_of_lt_of_le hk h0.size) (fun e => by have := h k e.symm; omega)).trans (h0.block k hk hn)⟩
/-- .. to a slice that lies in blocks laid since w0. -/
theorem wpL_append' {P : Program} {ops : Array Oper} {rest : List Oper} {o : Oper} {a : Act} {Q : Exit → Act → World → Prop} (hg : o.guard = none) (s x : Operand) (t : TypeId)
    (hop : o.op = Op.call { callee := Callee.builtin Builtin.append, args := #[s, x], argTypes := #[t, t] }) {e size bytes : Nat} {renc : α → List Value} (R : REnc size renc) (E : ElemIs P t e size bytes)
    {w w0 : World} {S : List Nat} (h0 : Chg S w0 w) {v u : Value} {l l2 : List α} (h : SlAt e size renc w v l) (hF : Fresh w0.heap.size v) (hs : SrcAt renc w u l2) (hev : a.eval s = v) (heu : a.eval x = u)
    (hlen : l.length + l2.length ≤ 1000000) (hbytes : bytes ≤ 1000)
    (hK : ∀ v' w', SlAt e size renc w' v' (l ++ l2) → Chg S w0 w' → Fresh w0.heap.size v' → w.grownBy w' v.ownBlock → wpList P ops Q rest (a.put o.dst v') w') : wpList P ops Q (o :: rest) a w :=
  wpL_append hg s x t hop R E h hs hev heu (maxOk hlen) (Nat.le_trans (Nat.mul_le_mul hlen hbytes) (by omega)) fun v' w' h1 h2 h3 => hK v' w' h1 (hF.chg' h2 h0 (Nat.le_refl _)) (hF.next h0.size h3) h2

theorem flat_take {renc : α → List Value} (l : List α) (k : Nat) {j : Nat} {x : Value} (h : ((l.take k).flatMap renc)[j]? = some x) : (l.flatMap renc)[j]? = some x := by
  have : l.flatMap renc = (l.take k).flatMap renc ++ (l.drop k).flatMap renc := by rw [← List.flatMap_append, List.take_append_drop]
  rw [this, List.getElem?_append_left (List.getElem?_eq_some_iff.1 h).1]
  exact h
theorem flat_drop {sz : Nat} {renc : α → List Value} (R : REnc sz renc) (l : List α) (k : Nat) (hk : k ≤ l.length) {j : Nat} {x : Value} (h : ((l.drop k).flatMap renc)[j]? = some x) : (l.flatMap renc)[k * sz + j]? = some x := by
  have e : l.flatMap renc = (l.take k).flatMap renc ++ (l.drop k).flatMap renc := by rw [← List.flatMap_append, List.take_append_drop]
  have hl : ((l.take k).flatMap renc).length = k * sz := by rw [flat_len R, List.length_take, Nat.min_eq_left hk]
  rw [e, List.getElem?_append_right (by omega), hl]
  have : k * sz + j - k * sz = j := by omega
  rw [this]
  exact h
theorem SlAt.src_take {g n c : Nat} (h : SlAt e sz renc w (.slice (some ⟨g, 0, none⟩) n c) l) {k : Nat} (hk : k ≤ l.length) (c' : Nat) : SrcAt renc w (.slice (some ⟨g, 0, none⟩) k c') (l.take k) := by
  obtain ⟨A, c1, he, hs⟩ := h.src
  simp only [Value.slice.injEq] at he
  obtain ⟨rfl, _, _⟩ := he
  refine ⟨some ⟨g, 0, none⟩, c', by simp [hk], ?_⟩
  rcases hs with rfl | ⟨ad, had, hs⟩
  · exact .inl (by simp)
  · cases had
    exact .inr ⟨_, rfl, fun j x hx => hs j x (flat_take l k hx)⟩
theorem add_lit3 (g o j : Nat) : (⟨g, o, none⟩ : Addr).add j = ⟨g, o + j, none⟩ := by unfold Addr.add; split <;> simp_all
theorem SlAt.src_drop {g n c : Nat} (h : SlAt e sz renc w (.slice (some ⟨g, 0, none⟩) n c) l) (R : REnc sz renc) {k : Nat} (hk : k ≤ l.length) (c' m : Nat) (hm : m = l.length - k) : SrcAt renc w (.slice (some ⟨g, k * sz, none⟩) m c') (l.drop k) := by
  obtain ⟨A, c1, he, hs⟩ := h.src
  simp only [Value.slice.injEq] at he
  obtain ⟨rfl, _, _⟩ := he
  refine ⟨some ⟨g, k * sz, none⟩, c', by simp [hm], ?_⟩
  rcases hs with rfl | ⟨ad, had, hs⟩
  · exact .inl (by simp)
  · cases had
    refine .inr ⟨_, rfl, fun j x hx => ?_⟩
    have := hs _ x (flat_drop R l k hk hx)
    rw [add_lit'] at this
    rw [add_lit3]
    exact this
theorem SrcAt.nil {A : Option Addr} {c : Nat} : SrcAt renc w (.slice A 0 c) [] := ⟨A, c, rfl, .inl rfl⟩

theorem step_append' {P : Program} {ops : Array Oper} {o : Oper} {a : Act} {K : Act → World → Prop} {Q : Exit → Act → World → Prop} {E' : Prop} (hg : o.guard = none) (s x : Operand) (t : TypeId)
    (hop : o.op = Op.call { callee := Callee.builtin Builtin.append, args := #[s, x], argTypes := #[t, t] }) {e size bytes : Nat} {renc : α → List Value} (R : REnc size renc) (E : ElemIs P t e size bytes)
    {w w0 : World} {S : List Nat} (h0 : Chg S w0 w) {v u : Value} {l l2 : List α} (h : SlAt e size renc w v l) (hF : Fresh w0.heap.size v) (hs : SrcAt renc w u l2) (hev : a.eval s = v) (heu : a.eval x = u)
    (hlen : l.length + l2.length ≤ 1000000) (hbytes : bytes ≤ 1000)
    (hK : ∀ v' w', SlAt e size renc w' v' (l ++ l2) → Chg S w0 w' → Fresh w0.heap.size v' → w.grownBy w' v.ownBlock → K (a.put o.dst v') w') :
    if Region.wanted o (yielded ops a.tmps) = true then Oper.wp P o a w K Q else E' := by
  have hw : Region.wanted o (yielded ops a.tmps) = true := by simp [Region.wanted, hg]
  rw [if_pos hw]
  obtain ⟨i, z, h1, h2, h3, h4, h5⟩ := E.info
  obtain ⟨v', w', hrun, r1, r2, r3⟩ := run_append_sl t o.type e i z size bytes R E.slice h1 h2 h3 h4 h5 E.pos h hs (maxOk hlen) (Nat.le_trans (Nat.mul_le_mul hlen hbytes) (by omega))
  unfold Oper.wp
  simp [execOp, hop, resolve, invoke, builtin, hev, heu, hrun, Result.andThen]
  exact hK v' w' r1 (hF.chg' r2 h0 (Nat.le_refl _)) (hF.next h0.size r3) r2
theorem blk_set {w : World} {g : Nat} {t : TypeId} {cs : Array Value} {fr : Nat × Nat} (h : w.heap[g]? = some (.cells cs t fr)) (i : Nat) (u : Value) : (w.setCell ⟨g, i, none⟩ u).heap[g]? = some (.cells (cs.setIfInBounds i u) t fr) := by
  simp [World.setCell, Array.getElem?_modify, h]

theorem Fresh.mono {B B' : Nat} {v : Value} (h : Fresh B v) (hb : B' ≤ B) : Fresh B' v := fun g hg => Nat.le_trans hb (h g hg)
theorem SlAt.cap {A : Option Addr} {n c : Nat} (h : SlAt e sz renc w (.slice A n c) l) : n = l.length ∧ l.length ≤ c ∧ (A = none → c = 0 ∧ l = []) ∧ ∀ x, A = some x → ∃ g, x = ⟨g, 0, none⟩ := by
  rcases h.2 with ⟨h0, hn⟩ | ⟨g, cap, cur, hv, _, _, hc, _⟩
  · simp only [Value.slice.injEq] at h0
    obtain ⟨rfl, rfl, rfl⟩ := h0
    have : l = [] := by simpa using hn
    subst this
    exact ⟨rfl, Nat.le_refl _, fun _ => ⟨rfl, rfl⟩, (fun x hx => by cases hx)⟩
  · simp only [Value.slice.injEq] at hv
    obtain ⟨rfl, rfl, rfl⟩ := hv
    exact ⟨rfl, hc, (fun h => by cases h), (fun x hx => by cases hx; exact ⟨g, rfl⟩)⟩
end
end Go.Dm

/-
  copy between slices of records; a record laid into a row. Nothing of the program stands in it.
-/
namespace Go.Dm
open Go.RowKit

/-- A row with other cells from o on. -/
def cutIn (cur : Array Value) (o : Nat) (cs : List Value) : Array Value := (cur.toList.take o ++ cs ++ cur.toList.drop (o + cs.length)).toArray
theorem cutIn_size {cur : Array Value} {o : Nat} {cs : List Value} (h : o + cs.length ≤ cur.size) : (cutIn cur o cs).size = cur.size := by
  simp [cutIn]; omega

theorem Chg.setRow {w : World} {g : Nat} (cs : Array Value) : Chg [g] w (w.setRow g cs) :=
  ⟨rfl, rfl, rfl, by simp [World.setRow], fun k _ hn => by
    have : g ≠ k := fun e => hn (by simp [e])
    simp [World.setRow, Array.getElem?_modify, this]⟩
theorem setRow_at {w : World} {g : Nat} {cur cs : Array Value} {t : TypeId} {fr : Nat × Nat} (h : w.heap[g]? = some (.cells cur t fr)) : (w.setRow g cs).heap[g]? = some (.cells cs t fr) := by
  simp [World.setRow, Array.getElem?_modify, h]

/-- copy, into the block g. -/
theorem copy_law {P : Program} (w : World) (dT sT ty elem : TypeId) (sz : Nat) (g o dLen dCap : Nat) (a : Addr) (sLen sCap : Nat) (cur : Array Value) (t : TypeId) (cs : List Value)
    (hu : P.underlying dT = some (.slice elem)) (hs : (P.info? elem).map (·.size) = some sz)
    (hg : w.heap[g]? = some (.cells cur t (0, 0))) (hn : cs.length = Nat.min sLen dLen * sz)
    (hsrc : ∀ j v, cs[j]? = some v → w.cell? (a.add j) = some v) (hfit : o + cs.length ≤ cur.size) (h1 : ∀ v ∈ cs, v.oneCell' = true) :
    (Builtin.copy_ #[dT, sT] ty #[.slice (some ⟨g, o, none⟩) dLen dCap, .slice (some a) sLen sCap]).run P w = .ok (goInt (Nat.min sLen dLen)) (w.setRow g (cutIn cur o cs)) := by
  have hl := run_loadCells_list (P := P) w a cs hsrc
  have hst := run_storeCells_at P g o t cs 0 cur w hg (by simpa using hfit) h1
  cases hq : P.info? elem with
  | none => simp [hq] at hs
  | some i =>
    have hi : i.size = sz := by simpa [hq] using hs
    simp [Builtin.copy_, run_underlying hu, Builtin.lenOf, Builtin.firstCells, sizeOf, typeInfo, hq, hi, ← hn, hl, hst, cutIn]

theorem wpL_copy {P : Program} {ops : Array Oper} {rest : List Oper} {o : Oper} {a : Act} {Q : Exit → Act → World → Prop} (hg : o.guard = none) (s x : Operand) (t t' : TypeId)
    (hop : o.op = Op.call { callee := Callee.builtin Builtin.copy, args := #[s, x], argTypes := #[t, t'] }) {w w' : World} {u v n : Value} (hev : a.eval s = u) (heu : a.eval x = v)
    (hrun : (Builtin.copy_ #[t, t'] o.type #[u, v]).run P w = .ok n w') (hK : wpList P ops Q rest (a.put o.dst n) w') : wpList P ops Q (o :: rest) a w := by
  refine wpList_plain hg fun K' hK' => ?_
  unfold Oper.wp
  simp [execOp, hop, resolve, invoke, builtin, hev, heu, hrun, Result.andThen]
  exact hK' _ _ hK
theorem wpL_appendRun {P : Program} {ops : Array Oper} {rest : List Oper} {o : Oper} {a : Act} {Q : Exit → Act → World → Prop} (hg : o.guard = none) (s x : Operand) (t t' : TypeId)
    (hop : o.op = Op.call { callee := Callee.builtin Builtin.append, args := #[s, x], argTypes := #[t, t'] }) {w w' : World} {u v n : Value} (hev : a.eval s = u) (heu : a.eval x = v)
    (hrun : (Builtin.append_ #[t, t'] o.type #[u, v]).run P w = .ok n w') (hK : wpList P ops Q rest (a.put o.dst n) w') : wpList P ops Q (o :: rest) a w := by
  refine wpList_plain hg fun K' hK' => ?_
  unfold Oper.wp
  simp [execOp, hop, resolve, invoke, builtin, hev, heu, hrun, Result.andThen]
  exact hK' _ _ hK

/-- The cells ahead stay, those behind move on, the new ones come between. -/
theorem ins_row {V : Type} (cur A B X : List V) (hcur : cur.take (A.length + B.length) = A ++ B) (hlen : A.length + B.length + X.length ≤ cur.length) :
    ∃ R, cur.take (A.length + X.length) ++ B ++ cur.drop (A.length + X.length + B.length) = A ++ R ∧ R.drop X.length = B ++ cur.drop (A.length + X.length + B.length) ∧ X.length ≤ R.length := by
  refine ⟨(cur.take (A.length + X.length)).drop A.length ++ B ++ cur.drop (A.length + X.length + B.length), ?_, ?_, ?_⟩
  · have h1 : cur.take A.length = A := by
      have := congrArg (List.take A.length) hcur
      rw [List.take_take, Nat.min_eq_left (by omega)] at this
      rw [this, List.take_left]
    have h2 : cur.take (A.length + X.length) = A ++ (cur.take (A.length + X.length)).drop A.length := by
      have h3 : (cur.take (A.length + X.length)).take A.length = A := by rw [List.take_take, Nat.min_eq_left (by omega), h1]
      conv => lhs; rw [← List.take_append_drop A.length (cur.take (A.length + X.length)), h3]
    rw [List.append_assoc, List.append_assoc, ← List.append_assoc A, ← h2]
  · have h3 : ((cur.take (A.length + X.length)).drop A.length).length = X.length := by simp; omega
    rw [List.append_assoc, List.drop_left' h3]
  · simp; omega
theorem ins_row2 {V : Type} (A R X S : List V) (hR : R.drop X.length = S) (_hl : X.length ≤ R.length) : (A ++ R).take A.length ++ X ++ (A ++ R).drop (A.length + X.length) = A ++ X ++ S := by
  rw [List.take_left, List.drop_append, ← hR]
  simp

section
variable {α : Type} {e sz : Nat} {renc : α → List Value}
theorem SlAt.mk {w : World} {g n cap : Nat} {cur : Array Value} {l : List α} (R : REnc sz renc) (hg : w.heap[g]? = some (.cells cur e (0, 0))) (hn : n = l.length) (hc : l.length ≤ cap) (hm : cap ≤ maxLen) (hs : cur.size = cap * sz) (ht : cur.toList.take (l.length * sz) = l.flatMap renc) : SlAt e sz renc w (.slice (some ⟨g, 0, none⟩) n cap) l := by
  subst hn
  exact ⟨flat_len R l, .inr ⟨g, cap, cur, rfl, Nat.zero_le _, hg, hc, hm, hs, ht⟩⟩
theorem SlAt.row {w : World} {g n c : Nat} {l : List α} (h : SlAt e sz renc w (.slice (some ⟨g, 0, none⟩) n c) l) : ∃ cur, w.heap[g]? = some (.cells cur e (0, 0)) ∧ n = l.length ∧ l.length ≤ c ∧ c ≤ maxLen ∧ cur.size = c * sz ∧ cur.toList.take (l.length * sz) = l.flatMap renc := by
  rcases h.2 with ⟨h0, _⟩ | ⟨g', cap, cur, hv, _, hg, hn, hm, hs, ht⟩
  · cases h0
  · simp only [Value.slice.injEq, Option.some.injEq, Addr.mk.injEq, and_true] at hv
    obtain ⟨rfl, rfl, rfl⟩ := hv
    exact ⟨cur, hg, rfl, hn, hm, hs, ht⟩
/-- x laid in at i. -/
def insL (l : List α) (i : Nat) (x : α) : List α := l.take i ++ x :: l.drop i
theorem insL_length (l : List α) (i : Nat) (x : α) (hi : i ≤ l.length) : (insL l i x).length = l.length + 1 := by simp [insL]; omega
theorem insL_end (l : List α) (x : α) : insL l l.length x = l ++ [x] := by simp [insL]
theorem flat_ins (l : List α) (i : Nat) (x : α) : (insL l i x).flatMap renc = (l.take i).flatMap renc ++ renc x ++ (l.drop i).flatMap renc := by
  simp [insL]
end
end Go.Dm

/-
  A region that draws its order, cut: the operations ahead of number n in any order, the others behind them in theirs. Nothing of the program stands in it.
-/
namespace Go.Dm
open Go

section
variable {P : Program} {ops : Array Oper} {md : Region.Mode}

/-- What is asked of the list: guards and edges point backward, the head's operations are waited for, the tail is a chain. -/
def backB (md : Region.Mode) (ops : Array Oper) (n : Nat) : Bool :=
  (List.range n).all fun j => ((ops[j]?).map fun o => o.after.all (fun e => !Region.binds md e || decide (e.on < j)) && (match o.guard with | some (g, _) => decide (g < n) | none => true)).getD true
def cutB (md : Region.Mode) (ops : Array Oper) (n : Nat) : Bool :=
  decide (n < ops.size) && Region.sinkB md ops n && Region.chainB md ops n && backB md ops n && Region.seqB md ops (ops.size - n) n (Array.replicate n true ++ Array.replicate (ops.size - n) false)

theorem backB_spec {n j : Nat} {o : Oper} (h : backB md ops n = true) (hj : j < n) (ho : ops[j]? = some o) :
    (∀ e ∈ o.after, Region.binds md e = true → e.on < j) ∧ ∀ g b, o.guard = some (g, b) → g < n := by
  have h1 := List.all_eq_true.1 h j (List.mem_range.2 hj)
  rw [ho] at h1
  simp only [Option.map_some, Option.getD_some, Bool.and_eq_true] at h1
  refine ⟨fun e he hb => ?_, fun g b hg => ?_⟩
  · obtain ⟨i, hi, rfl⟩ := Array.mem_iff_getElem.1 he
    have := Array.all_eq_true.1 h1.1 i hi
    rw [hb] at this
    simpa using this
  · have h2 := h1.2
    rw [hg] at h2
    simpa using h2

theorem wpAny_more {Q : Exit → Act → World → Prop} : ∀ (f : Nat) (listed : Array Bool) (a : Act) (w : World), wpAny P md ops Q f listed a w → wpAny P md ops Q (f + 1) listed a w
  | 0, _, _, _, h => ⟨fun _ => h.2, fun i hi => by rw [h.1] at hi; cases hi⟩
  | f + 1, _, _, _, h => ⟨h.1, fun i hi => wpOp_mono (fun a' w' h' => wpAny_more f _ a' w' h') (h.2 i hi)⟩
theorem wpAny_more' {Q : Exit → Act → World → Prop} (k : Nat) {f : Nat} {listed : Array Bool} {a : Act} {w : World} (h : wpAny P md ops Q f listed a w) : wpAny P md ops Q (k + f) listed a w := by
  induction k with
  | zero => rw [Nat.zero_add]; exact h
  | succ k ih => rw [Nat.add_right_comm]; exact wpAny_more _ _ _ _ ih

/-- What is owed behind the head: the tail. -/
def cutQ (P : Program) (ops : Array Oper) (Q : Exit → Act → World → Prop) (tail : List Oper) : Exit → Act → World → Prop
  | .normal, a, w => wpList P ops Q tail a w
  | e, a, w => Q e a w

theorem cutQ_lets {Q : Exit → Act → World → Prop} {tail : List Oper} : LetsOut (cutQ P ops Q tail) ↔ LetsOut Q := Iff.rfl

theorem wp_cutQ {o : Oper} {a : Act} {w : World} {K : Act → World → Prop} {Q : Exit → Act → World → Prop} {tail : List Oper} (h : o.wp P a w K (cutQ P ops Q tail)) : o.wp P a w K Q := by
  unfold Oper.wp at *
  generalize (execOp a.eval o).run P w = r at *
  cases r with
  | ok n w' =>
    cases n <;> simp only [Oper.upon] at h ⊢ <;>
      first
        | exact h
        | exact Calls.mono h (fun e w'' he => by cases e <;> exact he)
  | halt x w' => cases x <;> simp only [Oper.upon] at h ⊢ <;> exact h

theorem wanted_cut {n : Nat} {o : Oper} {tmps : Array Value} (hg : ∀ g b, o.guard = some (g, b) → g < n) : Region.wanted o (yielded (ops.toList.take n).toArray tmps) = Region.wanted o (yielded ops tmps) := by
  cases ho : o.guard with
  | none => simp [Region.wanted, ho]
  | some p =>
    obtain ⟨g, b⟩ := p
    have := hg g b ho
    have e : (ops.toList.take n).toArray[g]? = ops[g]? := by simp [this]
    simp only [Region.wanted, ho, yielded, e]

theorem head_at {n i : Nat} (hi : i < n) : (ops.toList.take n).toArray[i]? = ops[i]? := by simp [hi]
theorem head_none {n i : Nat} (hi : n ≤ i) : (ops.toList.take n).toArray[i]? = none := by simp; omega

theorem any_cut {n : Nat} {Q : Exit → Act → World → Prop} (hn : n < ops.size) (hs : Region.sinkB md ops n = true) (hc : Region.chainB md ops n = true) (hb : backB md ops n = true)
    (hq : Region.seqB md ops (ops.size - n) n (Array.replicate n true ++ Array.replicate (ops.size - n) false) = true) :
    ∀ (f : Nat) (H L : Array Bool) (a : Act) (w : World), H.size = n → HeadInv md ops n L → (∀ j, j < n → L[j]? = H[j]?) →
      wpAny P md (ops.toList.take n).toArray (cutQ P ops Q (ops.toList.drop n)) f H a w → wpAny P md ops Q (f + (ops.size - n)) L a w := by
  have hsz : (ops.toList.take n).toArray.size = n := by simp; omega
  -- whatever is ready
  have rdy : ∀ (H L : Array Bool), H.size = n → (∀ j, j < n → L[j]? = H[j]?) → ∀ i, i < n → (i ∈ Region.ready md ops L ↔ i ∈ Region.ready md (ops.toList.take n).toArray H) := by
    intro H L hH hL i hi
    rw [mem_ready, mem_ready, head_at hi]
    have e1 : L.getD i true = H.getD i true := by simp [Array.getD_eq_getD_getElem?, hL i hi]
    rw [e1]
    refine and_congr_right fun _ => ⟨?_, ?_⟩
    · rintro ⟨o, ho, h⟩
      refine ⟨o, ho, fun e he hbd => ?_⟩
      have hlt : e.on < n := Nat.lt_trans ((backB_spec hb hi ho).1 e he hbd) hi
      have := h e he hbd
      rw [Array.getD_eq_getD_getElem?, hL _ hlt, ← Array.getD_eq_getD_getElem?] at this
      exact this
    · rintro ⟨o, ho, h⟩
      refine ⟨o, ho, fun e he hbd => ?_⟩
      have hlt : e.on < n := Nat.lt_trans ((backB_spec hb hi ho).1 e he hbd) hi
      have := h e he hbd
      rw [Array.getD_eq_getD_getElem?, ← hL _ hlt, ← Array.getD_eq_getD_getElem?] at this
      exact this
  -- the least that is not listed is ready
  have least : ∀ (H L : Array Bool), H.size = n → (∀ j, j < n → L[j]? = H[j]?) → ∀ i, i < n → L.getD i true = false → Region.ready md (ops.toList.take n).toArray H ≠ [] := by
    intro H L hH hL i
    induction i using Nat.strongRecOn with
    | _ i ih =>
      intro hi hun h0
      obtain ⟨o, ho⟩ : ∃ o, ops[i]? = some o := ⟨ops[i]'(by omega), by simp [show i < ops.size by omega]⟩
      have hno : i ∉ Region.ready md ops L := fun hm => by
        have := (rdy H L hH hL i hi).1 hm
        rw [h0] at this; cases this
      apply hno
      rw [mem_ready]
      refine ⟨hun, o, ho, fun e he hbd => ?_⟩
      have hlt := (backB_spec hb hi ho).1 e he hbd
      cases hl : L.getD e.on true with
      | false => exact absurd h0 (ih e.on hlt (by omega) hl)
      | true =>
        have hsz2 : e.on < L.size := by
          have h1 := hL e.on (by omega)
          rw [Array.getElem?_eq_getElem (xs := H) (by omega)] at h1
          exact (Array.getElem?_eq_some_iff.1 h1).1
        simp [hsz2] at hl ⊢
        exact hl
  intro f
  induction f with
  | zero =>
    intro H L a w hH inv hL h
    rw [Nat.zero_add]
    have hall : ∀ i, i < n → L.getD i true = true := fun i hi => by
      cases hl : L.getD i true with
      | true => rfl
      | false => exact absurd h.1 (least H L hH hL i hi hl)
    have hLe : L = Array.replicate n true ++ Array.replicate (ops.size - n) false := by
      apply Array.ext
      · simp [inv.size]; omega
      · intro i h1 h2
        by_cases hi : i < n
        · have := hall i hi
          simp [h1] at this
          rw [this, Array.getElem_append_left (by simpa using hi)]
          simp
        · have := inv.tail i (by omega) (by rw [← inv.size]; exact h1)
          simp [h1] at this
          rw [this, Array.getElem_append_right (by simp; omega)]
          simp
    have h2 := h.2
    have hlen : (ops.toList.drop n).length = ops.size - n := by simp
    rw [← hlen]
    refine wpAny_of_seq (ops.toList.drop n) n L a w (fun j => by simp) ?_ h2
    rw [hlen, hLe]; exact hq
  | succ f ih =>
    intro H L a w hH inv hL h
    by_cases hall : ∀ i, i < n → L.getD i true = true
    · -- all of the head have come up
      have hr : Region.ready md (ops.toList.take n).toArray H = [] := by
        cases hr : Region.ready md (ops.toList.take n).toArray H with
        | nil => rfl
        | cons i l =>
          have hm : i ∈ Region.ready md (ops.toList.take n).toArray H := by rw [hr]; simp
          rw [mem_ready] at hm
          obtain ⟨hun, o, ho, _⟩ := hm
          have hi : i < n := by
            rcases Nat.lt_or_ge i n with h' | h'
            · exact h'
            · rw [head_none h'] at ho; cases ho
          have := hall i hi
          rw [Array.getD_eq_getD_getElem?, hL i hi, ← Array.getD_eq_getD_getElem?, hun] at this
          cases this
      have := ih H L a w hH inv hL (by
        cases f with
        | zero => exact ⟨hr, h.1 hr⟩
        | succ f => exact ⟨fun _ => h.1 hr, fun i hi => by rw [hr] at hi; cases hi⟩)
      rw [Nat.add_right_comm]
      exact wpAny_more _ _ _ _ this
    · have hex : ∃ i, i < n ∧ L.getD i true = false := by
        refine Classical.byContradiction fun hno => hall fun i hi => ?_
        cases hl : L.getD i true with
        | true => rfl
        | false => exact absurd ⟨i, hi, hl⟩ hno
      obtain ⟨i0, hi0, hun0⟩ := hex
      rw [Nat.add_right_comm]
      have hno := tail_waits hs hc hn inv _ i0 rfl hi0 hun0
      refine ⟨fun h0 => ?_, fun i hi => ?_⟩
      · have h1 := least H L hH hL i0 hi0 hun0
        cases hr : Region.ready md (ops.toList.take n).toArray H with
        | nil => exact absurd hr h1
        | cons i l =>
          have hm : i ∈ Region.ready md (ops.toList.take n).toArray H := by rw [hr]; simp
          have hi : i < n := by
            obtain ⟨_, o, ho, _⟩ := mem_ready.1 hm
            rcases Nat.lt_or_ge i n with h' | h'
            · exact h'
            · rw [head_none h'] at ho; cases ho
          have := (rdy H L hH hL i hi).2 hm
          rw [h0] at this; cases this
      · have hin : i < n := by
          rcases Nat.lt_or_ge i n with h' | h'
          · exact h'
          · exact absurd hi (hno i h')
        have h1 := h.2 i ((rdy H L hH hL i hin).1 hi)
        have inv' := inv.set hi hin
        have hstep : ∀ a' w', wpAny P md (ops.toList.take n).toArray (cutQ P ops Q (ops.toList.drop n)) f (H.setIfInBounds i true) a' w' → wpAny P md ops Q (f + (ops.size - n)) (L.setIfInBounds i true) a' w' := fun a' w' h' => by
          refine ih _ _ a' w' (by simpa using hH) inv' (fun j hj => ?_) h'
          have e := hL j hj
          by_cases hij : i = j
          · subst hij
            have hL2 : i < L.size := by rw [inv.size]; omega
            simp [hL2, hH, hin]
          · rw [Array.getElem?_setIfInBounds_ne hij, Array.getElem?_setIfInBounds_ne hij]; exact e
        obtain ⟨_, o, ho, _⟩ := mem_ready.1 hi
        have hw := wanted_cut (ops := ops) (tmps := a.tmps) (backB_spec hb hin ho).2
        unfold wpOp at h1 ⊢
        rw [head_at hin, ho] at h1
        rw [ho]
        simp only at h1 ⊢
        rw [hw] at h1
        split
        · rename_i hwt
          rw [if_pos hwt] at h1
          rcases h1 with h1 | h1
          · exact .inl (Oper.wp_mono hstep (wp_cutQ h1))
          · exact .inr ⟨h1.1, h1.2⟩
        · rename_i hwt
          rw [if_neg hwt] at h1
          exact hstep _ _ h1

/-- The head in any order, S kept in it; then the tail in its order. -/
theorem wp_cutR {id : Nat} {Q : Exit → Act → World → Prop} {a : Act} {w : World} {l : List Oper} (S : World → Prop) (n : Nat) (hm : P.follows .mixedOrders = true) (hB : cutB .any l.toArray n = true)
    (hS : ∀ W, Chg [] w W → S W)
    (h : ∀ W, Chg [] w W → S W → wpAnyH P .any (l.take n).toArray (cutQ P l.toArray Q (l.drop n)) S n (Array.replicate n false) a W) : (Code.region id l.toArray true).wp P Q a w := by
  simp only [cutB, Bool.and_eq_true, decide_eq_true_eq] at hB
  obtain ⟨⟨⟨⟨hn, hs⟩, hc⟩, hb⟩, hq⟩ := hB
  refine wp_region_any hm ?_
  have h1 := wpAny_of_held _ _ _ _ (h w.drew (Chg.drew [] w) (hS _ (Chg.drew [] w)))
  have h2 := any_cut (P := P) (Q := Q) hn hs hc hb hq n (Array.replicate n false) (Array.replicate l.toArray.size false) a w.drew (by simp)
    ⟨by simp, fun j oj _ hl => (by rw [getD_replicate_false] at hl; cases hl), fun t _ ht => getD_in (by simpa using ht) (getD_replicate_false _ _)⟩
    (fun j hj => by
      have hj2 : j < l.toArray.size := by omega
      have hj3 : j < l.length := by simpa using hj2
      simp [hj, hj3]) (by simpa using h1)
  rw [show n + (l.toArray.size - n) = l.toArray.size by omega] at h2
  exact h2

/-- .. where the head is one walk: every operation that comes up is taken in its turn. -/
theorem takeH {Q : Exit → Act → World → Prop} {S : World → Prop} (i : Nat) {oi : Oper} {v : Value} {fuel : Nat} {listed : Array Bool} {a : Act} {w : World} (hi : ops[i]? = some oi)
    (hs : Region.noSelect ops = true) (hf : Region.free md ops listed i = true) (hr : (Region.ready md ops listed).contains i = true)
    (hQ : ∀ c a w, Q (.panic c) (a.put oi.dst v) w → Q (.panic c) a w) (hw : Region.wanted oi (yielded ops a.tmps) = true) (hy : ∀ W, S W → (execOp a.eval oi).run P W = .ok (.value v) W) (hS : S w)
    (h : wpAnyH P md ops Q S fuel (listed.setIfInBounds i true) (a.put oi.dst v) w) : wpAnyH P md ops Q S (fuel + 1) listed a w :=
  wpAnyH_take hi hs hf hr hQ (.inl ⟨hw, hy⟩) hS h
end
end Go.Dm

/-
  A region that draws its order within a round of a range over a function: walked as a quiet region outside of one. Nothing of the program stands in it.
-/
namespace Go.Dm
open Go

theorem wide_fn (f : FuncId) : Fence.wide.fn f = True := rfl
def noDefer (o : Oper) : Bool := match o.op with | .defer _ => false | _ => true
theorem noDefer_spec {o : Oper} (h : noDefer o = true) : ∀ c, o.op ≠ .defer c := fun c e => by
  unfold noDefer at h; rw [e] at h; cases h

section
variable {n l : Nat} {P : Program} {Q : Exit → Act → World → Prop}
theorem op_round {o : Oper} {a : Act} {w : World} {K : Act → World → Prop} (hd : noDefer o = true) (h : o.wpIn Fence.wide n P a w K Q) : o.wpIn (Fence.wide.inRound l) n P a w K Q := by
  refine ⟨h.1, ?_⟩
  have h2 := h.2
  rw [Oper.semAt_eq _ _ _ (noDefer_spec hd)] at h2 ⊢
  exact h2
theorem opAt_round {ops : Array Oper} {i : Nat} {a : Act} {w : World} {K : Act → World → Prop} (hd : ops.all noDefer = true) (h : wpOpIn Fence.wide n P ops Q i K a w) : wpOpIn (Fence.wide.inRound l) n P ops Q i K a w := by
  unfold wpOpIn at *
  cases ho : ops[i]? with
  | none => rw [ho] at h; exact h
  | some o =>
    rw [ho] at h
    simp only at h ⊢
    obtain ⟨hi, he⟩ := Array.getElem?_eq_some_iff.1 ho
    have hd1 : noDefer o = true := by
      rw [Array.all_eq_true] at hd
      rw [← he]; exact hd i hi
    split
    · rename_i hw; rw [if_pos hw] at h; exact op_round hd1 h
    · rename_i hw; rw [if_neg hw] at h; exact h
theorem any_round {ops : Array Oper} {md : Region.Mode} (hd : ops.all noDefer = true) : ∀ (k : Nat) (listed : Array Bool) (a : Act) (w : World), wpAnyIn Fence.wide n P md ops Q k listed a w → wpAnyIn (Fence.wide.inRound l) n P md ops Q k listed a w
  | 0, _, _, _, h => h
  | k + 1, _, _, _, h => ⟨h.1, fun i hi => opAt_round hd (wpOpIn_mono (fun a w h => any_round hd k _ a w h) (h.2 i hi))⟩
/-- One walk in the text's order, outside of the round, serves a region that draws within one. -/
theorem region_round {id : Nat} {ops : List Oper} {a : Act} {w : World} (hm : P.follows .mixedOrders = true) (hB : Region.lexB .any ops.toArray = true) (hd : ops.toArray.all noDefer = true)
    (h : wpQuietIn Fence.wide n P ops.toArray (fun w' => ∃ n, w' = w.drewN n) (fun a' => ∀ w', (∃ n, w' = w.drewN n) → Q .normal a' w') ops a) : (Code.region id ops.toArray true).wpIn (Fence.wide.inRound l) n P Q a w := by
  refine wpIn_region_any hm (any_round hd _ _ _ _ ?_)
  simp only [Region.lexB, Bool.and_eq_true] at hB
  refine wpAnyIn_of_quiet (F := Fence.wide) (C := fun w' => ∃ n, w' = w.drewN n) (Q := fun a' => ∀ w', (∃ n, w' = w.drewN n) → Q .normal a' w') rfl (fun _ w' hw' h => h w' hw') _ _ _ _ ⟨1, rfl⟩ ?_
  have := wpAnyQIn_lex (F := Fence.wide) (n := n) (P := P) (C := fun w' => ∃ n, w' = w.drewN n) (md := .any) hB.1 ops 0 (Array.replicate ops.toArray.size false) a (by simp) (by simpa using hB.2) h
  simpa using this

/-! ### quiet operations, then a tail in one order, at the wide fence -/
theorem still_wide {o : Oper} {a : Act} {w : World} {K : Act → Prop} {K' : Act → World → Prop} (h : ∀ a, K a → K' a w) (hs : o.still P a w K) : o.wpIn Fence.wide n P a w K' Q := by
  refine ⟨fun _ _ => trivial, ?_⟩
  rw [show Fence.wide.round = none from rfl, Oper.semAt_none]
  unfold Oper.still at hs
  cases hr : (execOp a.eval o).run P w with
  | halt x w' => rw [hr] at hs; exact hs.elim
  | ok x w' =>
    rw [hr] at hs
    cases x with
    | value v => obtain ⟨rfl, h2⟩ := hs; exact h _ h2
    | skip => obtain ⟨rfl, h2⟩ := hs; exact h _ h2
    | enter f args =>
      obtain ⟨rfl, v, hc, h2⟩ := hs
      refine ⟨fun hd => (by cases hd), callsIn_wide.2 ?_⟩
      refine hc.mono ?_
      rintro e w'' ⟨rfl, rfl⟩
      exact h _ h2
    | _ => exact hs.elim
theorem stillAt_wide {ops : Array Oper} {i : Nat} {a : Act} {w : World} {K : Act → Prop} {K' : Act → World → Prop} (h : ∀ a, K a → K' a w) (hs : stOp P ops w i K a) : wpOpIn Fence.wide n P ops Q i K' a w := by
  unfold stOp at hs
  unfold wpOpIn
  cases ho : ops[i]? with
  | none => rw [ho] at hs; exact h _ hs
  | some o =>
    rw [ho] at hs
    simp only at hs ⊢
    split
    · rename_i hw; rw [if_pos hw] at hs; exact still_wide h hs
    · rename_i hw; rw [if_neg hw] at hs; exact ⟨fun _ _ => trivial, h _ hs⟩
theorem head_wide {ops : Array Oper} {md : Region.Mode} {w : World} {k g : Nat} {L : Array Bool → Act → Prop} (hL : ∀ listed a, L listed a → wpAnyIn Fence.wide n P md ops Q g listed a w) :
    ∀ (f : Nat) (listed : Array Bool) (a : Act), wpAnyL P md ops w k L f listed a → wpAnyIn Fence.wide n P md ops Q (f + g) listed a w
  | 0, listed, a, h => by rw [Nat.zero_add]; exact hL _ _ h
  | f + 1, listed, a, h => by
    rw [Nat.add_right_comm]
    exact ⟨fun h0 => absurd h0 h.1, fun i hi => stillAt_wide (fun a' h' => head_wide hL f _ a' h') (h.2 i hi).2⟩
theorem seq_wide {ops : Array Oper} {md : Region.Mode} : ∀ (l : List Oper) (k : Nat) (listed : Array Bool) (a : Act) (w : World), (∀ j, l[j]? = ops[k + j]?) →
    Region.seqB md ops l.length k listed = true → wpListIn Fence.wide n P ops Q l a w → wpAnyIn Fence.wide n P md ops Q l.length listed a w
  | [], _, _, _, _, _, hB, h => ⟨by simpa [Region.seqB] using hB, h⟩
  | o :: l, k, listed, a, w, hl, hB, h => by
    have h0 : ops[k]? = some o := by simpa using (hl 0).symm
    simp only [List.length_cons, Region.seqB, Bool.and_eq_true, decide_eq_true_eq] at hB
    refine ⟨fun h1 => (by rw [hB.1] at h1; cases h1), fun i hi => ?_⟩
    rw [hB.1] at hi
    obtain rfl : i = k := by simpa using hi
    have hw : wpOpIn Fence.wide n P ops Q i (wpListIn Fence.wide n P ops Q l) a w := by unfold wpOpIn; rw [h0]; exact h
    exact wpOpIn_mono (fun a' w' h' => seq_wide l (i + 1) _ a' w' (fun j => by have := hl (j + 1); simpa [Nat.add_assoc, Nat.add_comm 1 j] using this) hB.2 h') hw
theorem tail_wide {id : Nat} {a : Act} {w : World} {l : List Oper} (k : Nat) (hm : P.follows .mixedOrders = true) (hB : Region.lexTailB .any l.toArray k = true)
    (h : wpStill P l.toArray w.drew (fun a' => wpListIn Fence.wide n P l.toArray Q (l.drop k) a' w.drew) (l.take k) a) : (Code.region id l.toArray true).wpIn Fence.wide n P Q a w := by
  simp only [Region.lexTailB, Bool.and_eq_true, decide_eq_true_eq] at hB
  obtain ⟨⟨⟨⟨hsel, hn⟩, hs⟩, hc⟩, hlex⟩ := hB
  have hn' : k < l.length := by simpa using hn
  have htl : (l.take k).length = k := by simp; omega
  have hdl : (l.drop k).length = l.toArray.size - k := by simp
  have inv0 : HeadInv .any l.toArray k (Array.replicate l.toArray.size false) :=
    ⟨by simp, fun j oj _ hl => (by rw [getD_replicate_false] at hl; cases hl), fun t _ ht => getD_in (by simpa using ht) (getD_replicate_false _ _)⟩
  have H := wpAnyL_lex (md := .any) (g := l.toArray.size - k) hsel hs hc hn (l.take k) 0 _ a (fun j hj => by
    have hj' : j < k := by rw [htl] at hj; exact hj
    simp [hj']) (by simpa using htl) inv0 (by rw [htl]; exact hlex) h
  refine wpIn_region_any hm ?_
  have := head_wide (n := n) (Q := Q) (g := l.toArray.size - k) (fun listed a' hL => by
    have := seq_wide (n := n) (md := .any) (Q := Q) (l.drop k) k listed a' w.drew (fun j => by simp [List.getElem?_drop]) (by rw [hdl]; exact hL.1) hL.2
    rwa [hdl] at this) _ _ _ H
  rw [htl, show k + (l.toArray.size - k) = l.toArray.size by omega] at this
  exact this
end
end Go.Dm

/-
  A range over a function whose iterator ranges over functions itself: a law of the loop for iterators that want more of what the loop keeps. Nothing of the program stands in it.
-/
namespace Go.Dm
open Go Go.RowKit

section
variable {α : Type} {P : Program} {n : Nat}

/-- The iterator's word: for whatever J, Jx that abide the turn of blocks (none of cells) laid since it was called. -/
def SeqO (n : Nat) (P : Program) (g : Nat) (lb : Array Value) (encs : α → Array Value) (T : List Nat) (S Sp : List α → Prop) (N : Nat) (w : World) : Prop :=
  ∀ (l : Nat) (J Jx : List α → World → Prop) (W : World), Below w.heap.size w W → (∀ k ∈ T, k < W.heap.size) → OwnFrom W.heap.size J → OwnFrom W.heap.size Jx →
    (∀ pre x W1, J pre W1 → pre.length < N → YieldAt Fence.wide (n - 1) P l (encs x) W1 fun e W' =>
      (e = .returned (.bool true) ∧ J (pre ++ [x]) W' ∧ Chg T W1 W') ∨ (e = .returned (.bool false) ∧ Jx (pre ++ [x]) W' ∧ Chg T W1 W')) →
    J [] W →
    CallsIn Fence.wide n P g (#[.func (.yield l) #[] #[]] ++ lb) W fun e W' => (∃ v, e = .returned v) ∧ ((∃ xs, S xs ∧ J xs W') ∨ (∃ pre, Sp pre ∧ Jx pre W'))

/-- How a round's body may be left: it has turned blocks of T alone. -/
def roundO (T : List Nat) (I : List α → World → Prop) (Ix : Code → List α → World → Prop) (xs : List α) (W : World) : Exit → Act → World → Prop
  | .normal, _, W' => Chg T W W' ∧ I xs W'
  | .ret, _, W' => Chg T W W' ∧ Ix .ret xs W'
  | .exit id, _, W' => Chg T W W' ∧ Ix (.exit id) xs W'
  | .goto t, _, W' => Chg T W W' ∧ Ix (.goto t) xs W'
  | .panic _, _, _ => False
  | .outgrown, _, _ => False

theorem Chg.putObj {S : List Nat} (W : World) (l : Nat) (o : Obj) (hl : l ∈ S) : Chg S W (W.putObj l o) :=
  ⟨rfl, rfl, rfl, by simp, fun k _ hn => World.putObj_heap_other (fun e => hn (e ▸ hl))⟩

theorem rangeO {g : Operand} {ps : Array Tmp} {assign body : Code} {Q : Exit → Act → World → Prop} {a : Act} {w : World}
    {gf : Nat} {lb : Array Value} (hg : a.eval g = .func (.func gf) #[] lb) (eg : ∀ args w, (callFunc gf args).run P w = .ok (.enter gf args) w)
    {encs : α → Array Value} {T : List Nat} {S Sp : List α → Prop} {N : Nat} {w0 : World} (hT : ∀ k ∈ T, k < w.heap.size)
    (hseq : SeqO (n - 1) P gf lb encs ((w.heap.size + 1) :: T) S Sp N w0) (hb0 : Below w0.heap.size w0 w) (hps : ∀ x, (encs x).size = ps.size)
    (I : List α → World → Prop) (Ix : Code → List α → World → Prop) (hI : OwnFrom w.heap.size I) (hIx : ∀ c, OwnFrom w.heap.size (Ix c)) (h0 : I [] w) (Ax : α → Act → World → Prop) (hAx : ∀ x a', OwnFrom w.heap.size (fun (_ : Unit) W => Ax x a' W))
    (hassign : ∀ (l : Nat) (pre : List α) (x : α) (W : World) (K : Act → World → Prop), I pre W → (∀ a' W', Chg [] W W' → I pre W' → Ax x a' W' → K a' W') →
      assign.wpIn (Fence.wide.inRound l) (n - 1 - 1) P (Exit.then K (fun _ _ _ => False)) { tmps := (ps.zip (encs x)).foldl (fun t (p, v) => t.setIfInBounds p v) a.tmps, defers := [] } W)
    (hbody : ∀ (l : Nat) (pre : List α) (x : α) (a' : Act) (W : World), I pre W → Ax x a' W → pre.length < N → body.wpIn (Fence.wide.inRound l) (n - 1 - 1) P (roundO T I Ix (pre ++ [x]) W) a' W)
    (hdone : ∀ (D : Nat) (xs : List α) (W : World), w.heap.size ≤ D → S xs → I xs W → W.heap[D]? = some (.deferred (some [])) → Q .normal { a with defers := { target := .collected D, args := #[] } :: a.defers } W)
    (hstop : ∀ (D : Nat) (c : Code) (pre : List α) (W : World), w.heap.size ≤ D → Sp pre → Ix c pre W → W.heap[D]? = some (.deferred (some [])) → c.wpIn Fence.wide n P Q { a with defers := { target := .collected D, args := #[] } :: a.defers } W) :
    (Code.rangeFunc g ps assign body).wpIn Fence.wide n P Q a w := by
  refine wpIn_rangeFunc fun fn hfn => ?_
  -- the loop's record, in each of its states
  obtain ⟨rc, hrc⟩ : ∃ rc : LoopState → Option Code → Loop, rc = fun st pe => { state := st, pending := pe, fn, tmps := a.tmps, params := ps, assign, body, defers := w.heap.size } := ⟨_, rfl⟩
  obtain ⟨W1, hW1⟩ : ∃ W1, W1 = (w.alloc (.deferred (some []))).alloc (.loop (rc .ready none)) := ⟨_, rfl⟩
  have hz : W1.heap.size = w.heap.size + 2 := by rw [hW1]; simp
  have hl1 : W1.heap[w.heap.size + 1]? = some (.loop (rc .ready none)) := by
    rw [hW1]; have := World.alloc_heap_new (w.alloc (.deferred (some []))) (.loop (rc .ready none)); rwa [World.size_alloc] at this
  have hd1 : W1.heap[w.heap.size]? = some (.deferred (some [])) := by
    rw [hW1]; exact (Chg.alloc [] _ _).at_ (World.alloc_heap_new w _) (by simp)
  have hB1 : Below w0.heap.size w0 W1 := by
    rw [hW1]; exact hb0.trans ((((Below.refl _ w).alloc (Nat.le_refl _) _).alloc (by simp) _).mono hb0.size)
  have hI1 : I [] W1 := by rw [hW1]; exact hI.alloc _ (hI.alloc _ h0)
  -- blocks of book-keeping are none of T
  have nR : w.heap.size + 1 ∉ T := fun h => by have := hT _ h; omega
  have nD : w.heap.size ∉ T := fun h => by have := hT _ h; omega
  refine ⟨w.heap.size + 1, [{ target := .collected w.heap.size, args := #[] }], W1, { target := .fn (.func gf) lb, args := #[.func (.yield (w.heap.size + 1)) #[] #[]] }, W1, gf,
    #[.func (.yield (w.heap.size + 1)) #[] #[]] ++ lb, W1, by rw [hW1, hrc]; exact run_enterLoop_outer _ _ _ _ _, by simp only [resolve, hg]; simp [go_sem], fun _ _ => trivial, by simp [invoke, go_sem, eg], (fun h => by cases h), ?_⟩
  -- what lies between two rounds
  let J : List α → World → Prop := fun pre W => I pre W ∧ W.heap[w.heap.size + 1]? = some (.loop (rc .ready none)) ∧ W.heap[w.heap.size]? = some (.deferred (some []))
  let Jx : List α → World → Prop := fun pre W => ∃ c, Ix c pre W ∧ W.heap[w.heap.size + 1]? = some (.loop (rc .done (some c))) ∧ W.heap[w.heap.size]? = some (.deferred (some []))
  have far : ∀ {A B : World} {row : Option Nat} {k : Nat} {o : Obj}, A.grownBy B row → (∀ r, row = some r → W1.heap.size ≤ r) → k < W1.heap.size → A.heap[k]? = some o → B.heap[k]? = some o := fun hgr hr hk ho =>
    (hgr.block _ (Array.getElem?_eq_some_iff.1 ho).1 (fun e => by have := hr _ e.symm; omega)).trans ho
  have lift : ∀ {A : World} {row : Option Nat}, (∀ r, row = some r → W1.heap.size ≤ r ∧ ∃ o : Obj, A.heap[r]? = some o ∧ o.isCells = false) → (∀ r, row = some r → w.heap.size ≤ r ∧ ∃ o : Obj, A.heap[r]? = some o ∧ o.isCells = false) :=
    fun hr r e => ⟨by have := (hr r e).1; omega, (hr r e).2⟩
  have hJ : OwnFrom W1.heap.size J := fun s A B row hs hgr hr =>
    ⟨hI s A B row hs.1 hgr (lift hr), far hgr (fun r e => (hr r e).1) (by omega) hs.2.1, far hgr (fun r e => (hr r e).1) (by omega) hs.2.2⟩
  have hJx : OwnFrom W1.heap.size Jx := fun s A B row ⟨c, hc, h2, h3⟩ hgr hr =>
    ⟨c, hIx c s A B row hc hgr (lift hr), far hgr (fun r e => (hr r e).1) (by omega) h2, far hgr (fun r e => (hr r e).1) (by omega) h3⟩
  refine (hseq (w.heap.size + 1) J Jx W1 hB1 (fun k hk => by
    rcases List.mem_cons.1 hk with rfl | hk
    · omega
    · have := hT k hk; omega) hJ hJx ?_ ⟨hI1, hl1, hd1⟩).mono ?_
  · -- one round
    rintro pre x W ⟨hi, hl, hd⟩ hlen
    have hy := run_yield (P := P) (args := encs x) hl (by rw [hrc]; exact hps x)
    rw [hrc] at hy
    refine ⟨fn, _, assign, body, hy, roundIn_of_wpIn hfn (hassign _ pre x W _ hi fun a' Wa hCa hia hax => ?_)⟩
    have hla := hCa.at_ hl (by simp)
    have hda := hCa.at_ hd (by simp)
    have hlt : w.heap.size + 1 < Wa.heap.size := (Array.getElem?_eq_some_iff.1 hla).1
    refine ⟨_, run_beginRound hla (by rw [hrc]), ?_⟩
    obtain ⟨Wb, hWb⟩ : ∃ Wb, Wb = Wa.putObj (w.heap.size + 1) (.loop { rc .ready none with state := .busy }) := ⟨_, rfl⟩
    have hlb : Wb.heap[w.heap.size + 1]? = some (.loop { rc .ready none with state := .busy }) := by rw [hWb]; exact World.putObj_heap_same hlt
    have hdb : Wb.heap[w.heap.size]? = some (.deferred (some [])) := by rw [hWb]; exact (World.putObj_heap_other (by omega)).trans hda
    have hCb : Chg ((w.heap.size + 1) :: T) W Wb := by rw [hWb]; exact hCa.nil.trans (Chg.putObj _ _ _ (by simp))
    have hib : I pre Wb := by rw [hWb]; exact hI.putObj _ hia (by omega) hla rfl
    have haxb : Ax x a' Wb := by rw [hWb]; exact (hAx x a').putObj (s := ()) _ hax (by omega) hla rfl
    rw [← hWb]
    -- the end of a round, whichever way
    have fin : ∀ (jump : Option Code) (W3 : World), Chg T Wb W3 → ∃ W4, (Instr.endRound (w.heap.size + 1) jump).run P W3 = .ok (.bool jump.isNone) W4 ∧
        W4 = W3.putObj (w.heap.size + 1) (.loop (rc (if jump.isNone then .ready else .done) jump)) ∧ W4.heap[w.heap.size + 1]? = some (.loop (rc (if jump.isNone then .ready else .done) jump)) ∧ W4.heap[w.heap.size]? = some (.deferred (some [])) ∧
        W3.heap[w.heap.size + 1]? = some (.loop { rc .ready none with state := .busy }) ∧ Chg ((w.heap.size + 1) :: T) W W4 := fun jump W3 hC3 => by
      have hl3 := hC3.at_ hlb nR
      have hrun := run_endRound (P := P) jump hl3
      refine ⟨W3.putObj (w.heap.size + 1) (.loop (rc (if jump.isNone then .ready else .done) jump)), ?_, rfl, World.putObj_heap_same (Array.getElem?_eq_some_iff.1 hl3).1, (World.putObj_heap_other (by omega)).trans (hC3.at_ hdb nD), hl3, ?_⟩
      · rw [hrc] at hrun ⊢; exact hrun
      · exact (hCb.trans (hC3.mono (fun k hk => .inl (List.mem_cons_of_mem _ hk)))).trans (Chg.putObj _ _ _ (by simp))
    refine wpIn_mono (hbody _ pre x a' Wb hib haxb hlen) fun e a3 W3 hp => ?_
    have leave : ∀ (c : Code), Chg T Wb W3 → Ix c (pre ++ [x]) W3 → ∃ v W4, (Instr.endRound (w.heap.size + 1) (some c)).run P W3 = .ok v W4 ∧
        ((Ending.returned v = .returned (.bool true) ∧ J (pre ++ [x]) W4 ∧ Chg ((w.heap.size + 1) :: T) W W4) ∨ (Ending.returned v = .returned (.bool false) ∧ Jx (pre ++ [x]) W4 ∧ Chg ((w.heap.size + 1) :: T) W W4)) := fun c hC3 hi3 => by
      obtain ⟨W4, hr, he, h4, h5, h6, h7⟩ := fin (some c) W3 hC3
      exact ⟨_, W4, hr, .inr ⟨rfl, ⟨c, by rw [he]; exact (hIx c).putObj _ hi3 (by omega) h6 rfl, h4, h5⟩, h7⟩⟩
    cases e with
    | normal =>
      obtain ⟨hC3, hi3⟩ := hp
      obtain ⟨W4, hr, he, h4, h5, h6, h7⟩ := fin none W3 hC3
      exact ⟨_, W4, hr, .inl ⟨rfl, ⟨by rw [he]; exact hI.putObj _ hi3 (by omega) h6 rfl, h4, h5⟩, h7⟩⟩
    | ret => exact leave .ret hp.1 hp.2
    | exit id => exact leave (.exit id) hp.1 hp.2
    | goto t => exact leave (.goto t) hp.1 hp.2
    | panic ch => exact hp.elim
    | outgrown => exact hp.elim
  · -- behind the iterator
    rintro e W2 ⟨⟨v, rfl⟩, h⟩
    rcases h with ⟨xs, hS, hi, hl, hd⟩ | ⟨pre, hSp, c, hi, hl, hd⟩
    · have hr := run_endLoop (P := P) hl (by rw [hrc]; simp)
      rw [show (rc .ready none).pending = none by rw [hrc]] at hr
      exact ⟨none, _, hr, hdone _ xs _ (Nat.le_refl _) hS (hI.putObj _ hi (by omega) hl rfl) ((World.putObj_heap_other (by omega)).trans hd)⟩
    · have hr := run_endLoop (P := P) hl (by rw [hrc]; simp)
      rw [show (rc .done (some c)).pending = some c by rw [hrc]] at hr
      exact ⟨some c, _, hr, hstop _ c pre _ (Nat.le_refl _) hSp ((hIx c).putObj _ hi (by omega) hl rfl) ((World.putObj_heap_other (by omega)).trans hd)⟩
end
end Go.Dm

/-
  A region that draws its order within a round of a range over a function, with calls that lay blocks: walked as one outside, cut. Nothing of the program stands in it.
-/
namespace Go.Dm
open Go

section
variable {n l0 : Nat} {P : Program} {Q : Exit → Act → World → Prop}
theorem rows_wide {row : String} {args : Array Value} {w : World} {R : Value → World → Prop} (h : Rows P row args w R) : RowsIn Fence.wide n P row args w R :=
  fun c cs _ => let ⟨v, w', r, s⟩ := h c cs; ⟨v, w', r, stepsIn_wide.2 s⟩
theorem op_wide {o : Oper} {a : Act} {w : World} {K : Act → World → Prop} (h : o.wp P a w K Q) : o.wpIn Fence.wide n P a w K Q := by
  refine ⟨fun _ _ => trivial, ?_⟩
  rw [show Fence.wide.round = none from rfl, Oper.semAt_none]
  unfold Oper.wp at h
  generalize (execOp a.eval o).run P w = r at h ⊢
  cases r with
  | halt x w' => cases x <;> exact h
  | ok x w' =>
    cases x with
    | value v => exact h
    | skip => exact h
    | defer d => exact h
    | enter f args => exact ⟨fun hd => (by cases hd), callsIn_wide.2 h⟩
    | row r args => exact ⟨fun hd => (by cases hd), rows_wide h⟩
    | _ => exact h.elim
theorem opAt_wide {ops : Array Oper} {i : Nat} {a : Act} {w : World} {K : Act → World → Prop} (hl : ¬ LetsOut Q) (h : wpOp P ops Q i K a w) : wpOpIn Fence.wide n P ops Q i K a w := by
  unfold wpOp at h
  unfold wpOpIn
  cases ho : ops[i]? with
  | none => rw [ho] at h; exact h
  | some o =>
    rw [ho] at h
    simp only at h ⊢
    split
    · rename_i hw; rw [if_pos hw] at h
      rcases h with h | h
      · exact op_wide h
      · exact absurd h.2 hl
    · rename_i hw; rw [if_neg hw] at h; exact ⟨fun _ _ => trivial, h⟩
theorem any_wide {ops : Array Oper} {md : Region.Mode} (hl : ¬ LetsOut Q) : ∀ (k : Nat) (listed : Array Bool) (a : Act) (w : World), wpAny P md ops Q k listed a w → wpAnyIn Fence.wide n P md ops Q k listed a w
  | 0, _, _, _, h => h
  | k + 1, _, _, _, h => ⟨h.1, fun i hi => opAt_wide hl (wpOp_mono (fun a w h => any_wide hl k _ a w h) (h.2 i hi))⟩
/-- The head in any order, S kept in it; then the tail in its order: within a round. -/
theorem cutR_round {id : Nat} {a : Act} {w : World} {l : List Oper} (S : World → Prop) (k : Nat) (hm : P.follows .mixedOrders = true) (hd : l.toArray.all noDefer = true) (hl : ¬ LetsOut Q) (hB : cutB .any l.toArray k = true)
    (hS : ∀ W, Chg [] w W → S W)
    (h : ∀ W, Chg [] w W → S W → wpAnyH P .any (l.take k).toArray (cutQ P l.toArray Q (l.drop k)) S k (Array.replicate k false) a W) : (Code.region id l.toArray true).wpIn (Fence.wide.inRound l0) n P Q a w := by
  simp only [cutB, Bool.and_eq_true, decide_eq_true_eq] at hB
  obtain ⟨⟨⟨⟨hn, hs⟩, hc⟩, hb⟩, hq⟩ := hB
  refine wpIn_region_any hm (any_round hd _ _ _ _ (any_wide hl _ _ _ _ ?_))
  have h1 := wpAny_of_held _ _ _ _ (h w.drew (Chg.drew [] w) (hS _ (Chg.drew [] w)))
  have h2 := any_cut (P := P) (Q := Q) hn hs hc hb hq k (Array.replicate k false) (Array.replicate l.toArray.size false) a w.drew (by simp)
    ⟨by simp, fun j oj _ hl => (by rw [getD_replicate_false] at hl; cases hl), fun t _ ht => getD_in (by simpa using ht) (getD_replicate_false _ _)⟩
    (fun j hj => by
      have hj2 : j < l.toArray.size := by omega
      have hj3 : j < l.length := by simpa using hj2
      simp [hj, hj3]) (by simpa using h1)
  rw [show k + (l.toArray.size - k) = l.toArray.size by omega] at h2
  exact h2
end
end Go.Dm
