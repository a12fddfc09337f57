/-
  Maps as lists of pairs, for whatever key type has an enumeration of its keys ('MKey'): what a mLook-up, a store and a delete do. Nothing of the program stands in it.
-/
import Derived.WalkKit
import Derived.Maps.Keyed
import Derived.Deep.QuietTactic
import Derived.StillTailTactics
import Derived.BigQuiet
import Derived.WalkSpells
import Derived.Lib.Hide
import Derived.Maps.OwnSet
namespace Go.Dm
open Go.MapKept
open Go.RowKit

/-- What may have changed: blocks of S alone (and new ones). -/
structure Chg (S : List Nat) (w w' : World) : Prop where
  os : w'.os = w.os
  tape : w'.tape = w.tape
  output : w'.output = w.output
  size : w.heap.size ≤ w'.heap.size
  block : ∀ k, k < w.heap.size → k ∉ S → w'.heap[k]? = w.heap[k]?

theorem Chg.refl (S : List Nat) (w : World) : Chg S w w := ⟨rfl, rfl, rfl, Nat.le_refl _, fun _ _ _ => rfl⟩
theorem Chg.trans {S : List Nat} {a b c : World} (h : Chg S a b) (k : Chg S b c) : Chg S a c :=
  ⟨k.os.trans h.os, k.tape.trans h.tape, k.output.trans h.output, Nat.le_trans h.size k.size, fun i hi hn => (k.block i (Nat.lt_of_lt_of_le hi h.size) hn).trans (h.block i hi hn)⟩
theorem Chg.mono {S T : List Nat} {a b : World} (h : Chg S a b) (hs : ∀ k, k ∈ S → k ∈ T ∨ a.heap.size ≤ k) : Chg T a b :=
  ⟨h.os, h.tape, h.output, h.size, fun i hi hn => h.block i hi (fun hm => by rcases hs i hm with hs | hs; exact hn hs; omega)⟩
theorem Chg.trans' {S T U : List Nat} {a b c : World} (h : Chg S a b) (k : Chg T b c) (hs : ∀ i, i ∈ S → i ∈ U ∨ a.heap.size ≤ i) (ht : ∀ i, i ∈ T → i ∈ U ∨ a.heap.size ≤ i) : Chg U a c :=
  ⟨k.os.trans h.os, k.tape.trans h.tape, k.output.trans h.output, Nat.le_trans h.size k.size, fun i hi hn =>
    (k.block i (Nat.lt_of_lt_of_le hi h.size) (fun hm => by rcases ht i hm with h' | h'; exact hn h'; omega)).trans
      (h.block i hi (fun hm => by rcases hs i hm with h' | h'; exact hn h'; omega))⟩
theorem Chg.of_grown {w w' : World} {row : Option Nat} (h : w.grownBy w' row) {S : List Nat} (hr : ∀ k, row = some k → k ∈ S ∨ w.heap.size ≤ k) : Chg S w w' :=
  ⟨h.os, h.tape, h.output, h.size, fun k hk hn => h.block k hk (fun e => by rcases hr k e.symm with h' | h'; exact hn h'; omega)⟩
theorem Chg.of_below {w w' : World} (h : Below w.heap.size w w') (S : List Nat) : Chg S w w' := ⟨h.os, h.tape, h.output, h.size, fun k hk _ => h.block k hk⟩
theorem Chg.below {S : List Nat} {w w' : World} (h : Chg S w w') {B : Nat} (hB : B ≤ w.heap.size) (hs : ∀ k, k ∈ S → B ≤ k) : Below B w w' :=
  ⟨h.os, h.tape, h.output, h.size, fun k hk => h.block k (by omega) (fun hm => by have := hs k hm; omega)⟩
theorem Chg.drewN (S : List Nat) (w : World) (n : Nat) : Chg S w (w.drewN n) := ⟨rfl, rfl, rfl, Nat.le_refl _, fun _ _ _ => rfl⟩
theorem Chg.drew (S : List Nat) (w : World) : Chg S w w.drew := ⟨rfl, rfl, rfl, Nat.le_refl _, fun _ _ _ => rfl⟩
theorem Chg.alloc (S : List Nat) (w : World) (o : Obj) : Chg S w (w.alloc o) := ⟨rfl, rfl, rfl, by simp, fun k hk _ => Below.heap_alloc w o k hk⟩
theorem Chg.setCell {S : List Nat} (w : World) (p : Addr) (u : Value) (hp : p.block ∈ S ∨ w.heap.size ≤ p.block) : Chg S w (w.setCell p u) :=
  ⟨rfl, rfl, rfl, by simp [World.setCell], fun k hk hn => Below.heap_setCell _ _ _ _ (fun e => by subst e; rcases hp with h | h; exact hn h; omega)⟩

theorem Chg.at_ {S : List Nat} {w w' : World} (h : Chg S w w') {b : Nat} {o : Obj} (ho : w.heap[b]? = some o) (hb : b ∉ S) : w'.heap[b]? = some o :=
  (h.block b (Array.getElem?_eq_some_iff.1 ho).1 hb).trans ho

theorem Chg.cell {S : List Nat} {w w' : World} (h : Chg S w w') {a : Addr} {v : Value} (hc : w.cell? a = some v) (hn : a.block ∉ S) : w'.cell? a = some v :=
  (World.cell?_of_block (h.block _ (World.block_lt_of_cell? w _ hc) hn)).trans hc
theorem Chg.nil {S : List Nat} {w w' : World} (h : Chg [] w w') : Chg S w w' := h.mono (by simp)

/-! ### lists of pairs -/
section lists
variable {κ ν : Type}

def mLook [DecidableEq κ] : List (κ × ν) → κ → Option ν
  | [], _ => none
  | p :: l, k => if p.1 = k then some p.2 else mLook l k
def putL [DecidableEq κ] (l : List (κ × ν)) (k : κ) (v : ν) : List (κ × ν) := if (mLook l k).isSome then l.map (fun p => if p.1 = k then (k, v) else p) else l ++ [(k, v)]
def delL [DecidableEq κ] (l : List (κ × ν)) (k : κ) : List (κ × ν) := l.filter (fun p => decide (p.1 ≠ k))
def keysL (l : List (κ × ν)) : List κ := l.map (·.1)

theorem mLook_none [DecidableEq κ] {l : List (κ × ν)} {k : κ} : mLook l k = none ↔ k ∉ keysL l := by
  induction l with
  | nil => simp [mLook, keysL]
  | cons p l ih =>
    simp only [mLook, keysL, List.map_cons, List.mem_cons, not_or]
    by_cases h : p.1 = k
    · simp [h]
    · have : k ≠ p.1 := fun e => h e.symm
      simp only [h, if_false, this, not_false_eq_true, true_and]
      exact ih
theorem mLook_at [DecidableEq κ] {l : List (κ × ν)} (hn : (keysL l).Nodup) {j : Nat} {k : κ} {v : ν} (h : l[j]? = some (k, v)) : mLook l k = some v := by
  induction l generalizing j with
  | nil => simp at h
  | cons p l ih =>
    simp only [keysL, List.map_cons, List.nodup_cons] at hn
    cases j with
    | zero => simp at h; subst h; simp [mLook]
    | succ j =>
      simp only [List.getElem?_cons_succ] at h
      have hm : k ∈ l.map (·.1) := List.mem_map.2 ⟨_, List.mem_of_getElem? h, rfl⟩
      have hne : p.1 ≠ k := fun e => hn.1 (e ▸ hm)
      simp only [mLook, hne, if_false]
      exact ih hn.2 h
theorem mLook_mem [DecidableEq κ] {l : List (κ × ν)} {k : κ} {v : ν} (h : mLook l k = some v) : (k, v) ∈ l := by
  induction l with
  | nil => simp [mLook] at h
  | cons p l ih =>
    simp only [mLook] at h
    split at h
    · rename_i e
      subst e
      simp only [Option.some.injEq] at h
      subst h
      exact List.mem_cons_self
    · exact List.mem_cons_of_mem _ (ih h)
theorem mLook_app [DecidableEq κ] {l : List (κ × ν)} {k x : κ} {v : ν} : mLook (l ++ [(k, v)]) x = (mLook l x).or (if k = x then some v else none) := by
  induction l with
  | nil => simp [mLook]
  | cons p l ih =>
    simp only [List.cons_append, mLook]
    split
    · simp
    · exact ih
theorem mLook_set [DecidableEq κ] (l : List (κ × ν)) (s t : κ) (c : ν) : mLook (l.map fun p => if p.1 = s then (s, c) else p) t = if s = t then (mLook l s).map (fun _ => c) else mLook l t := by
  induction l with
  | nil => by_cases e : s = t <;> simp [mLook, e]
  | cons p l ih =>
    simp only [List.map_cons, mLook, ih]
    by_cases hp : p.1 = s
    · by_cases e : s = t <;> simp [hp, e]
    · by_cases e : s = t
      · subst e; simp [hp]
      · simp [hp, e]
theorem mLook_put [DecidableEq κ] (l : List (κ × ν)) (s t : κ) (c : ν) : mLook (putL l s c) t = if s = t then some c else mLook l t := by
  unfold putL
  by_cases h : (mLook l s).isSome
  · obtain ⟨v, hv⟩ := Option.isSome_iff_exists.1 h
    rw [if_pos h, mLook_set, hv]
    simp
  · have h0 : mLook l s = none := by simpa using h
    simp only [h0, Option.isSome_none, Bool.false_eq_true, if_false, mLook_app]
    by_cases e : s = t
    · subst e; simp [h0]
    · cases mLook l t <;> simp [e]
theorem mLook_filter [DecidableEq κ] (l : List (κ × ν)) (q : κ → Bool) (t : κ) : mLook (l.filter fun p => q p.1) t = if q t then mLook l t else none := by
  induction l with
  | nil => simp [mLook]
  | cons p l ih =>
    by_cases hq : q p.1 = true
    · simp only [List.filter_cons, hq, if_true, mLook, ih]
      by_cases e : p.1 = t
      · subst e; simp [hq]
      · simp [e]
    · have hq0 : q p.1 = false := by simpa using hq
      simp only [List.filter_cons, hq0, Bool.false_eq_true, if_false, mLook, ih]
      by_cases e : p.1 = t
      · subst e; simp [hq0]
      · simp [e]
theorem mLook_del [DecidableEq κ] (l : List (κ × ν)) (s t : κ) : mLook (delL l s) t = if s = t then none else mLook l t := by
  have := mLook_filter l (fun k => decide (k ≠ s)) t
  unfold delL
  rw [this]
  by_cases e : s = t
  · subst e; simp
  · have : t ≠ s := fun h => e h.symm
    simp [e, this]
end lists

/-! ### the block -/
theorem getMap {P : Program} {w : World} {r : Nat} {es : Array MapEntry} {clock : Nat} (hb : w.heap[r]? = some (.map es clock)) : (getObj r).run P w = .ok (.map es clock) w := by
  simp [getObj, Sem.run, hb]
theorem setMap {P : Program} {w : World} {r : Nat} {es : Array MapEntry} {clock : Nat} (o : Obj) (hb : w.heap[r]? = some (.map es clock)) : (setObj r o).run P w = .ok () { w with heap := w.heap.setIfInBounds r o } := by
  simp [setObj, Sem.run, hb]
/-- The entries of a map's block, in the order in which they came. -/
def EntsAre (es : Array MapEntry) (clock : Nat) (l : List (Value × Value)) : Prop :=
  es.toList.map (fun e => (e.key, e.val)) = l ∧ (es.toList.map (·.born)).Pairwise (· < ·) ∧ ∀ e ∈ es.toList, e.born < clock

/-- What a key type needs. -/
structure MKey {κ : Type} (P : Program) (K : TypeId) (enc : κ → Value) : Prop where
  check : ∀ (w : World) (em : Bool) (k : κ), (Instr.checkKey em 10000 K (enc k)).run P w = .ok () w
  find : ∀ (w : World) (k : κ) (es : List MapEntry) (ks : List κ), es.map (·.key) = ks.map enc →
    ((Instr.findKey K (enc k) es).run P w = .ok none w ∧ k ∉ ks) ∨ ∃ j e, (Instr.findKey K (enc k) es).run P w = .ok (some (j, e.val)) w ∧ es[j]? = some e ∧ ks[j]? = some k
  stays : ∀ (w : World) (k : κ), (Instr.keyThatStays (enc k) (enc k)).run P w = .ok (enc k) w

section block
variable {κ ν : Type} {P : Program} {K E T : TypeId} {enc : κ → Value} {venc : ν → Value}

/-- Block b is a map of these pairs; no key stands twice. -/
def MapAt (enc : κ → Value) (venc : ν → Value) (w : World) (b : Nat) (l : List (κ × ν)) : Prop :=
  ∃ es clock, w.heap[b]? = some (.map es clock) ∧ EntsAre es clock (l.map fun p => (enc p.1, venc p.2)) ∧ (keysL l).Nodup

theorem MapAt.nodup {w : World} {b : Nat} {l : List (κ × ν)} (h : MapAt enc venc w b l) : (keysL l).Nodup := by
  obtain ⟨_, _, _, _, h⟩ := h; exact h
theorem MapAt.lt {w : World} {b : Nat} {l : List (κ × ν)} (h : MapAt enc venc w b l) : b < w.heap.size := by
  obtain ⟨_, _, h, _⟩ := h; exact (Array.getElem?_eq_some_iff.1 h).1
theorem MapAt.same {w w' : World} {b : Nat} {l : List (κ × ν)} (h : MapAt enc venc w b l) (hb : w'.heap[b]? = w.heap[b]?) : MapAt enc venc w' b l := by
  obtain ⟨es, c, h1, h2⟩ := h; exact ⟨es, c, hb.trans h1, h2⟩
theorem MapAt.chg {w w' : World} {b : Nat} {l : List (κ × ν)} {S : List Nat} (h : MapAt enc venc w b l) (hc : Chg S w w') (hb : b ∉ S) : MapAt enc venc w' b l :=
  h.same (hc.block b h.lt hb)
theorem MapAt.new (w : World) : MapAt enc venc (w.alloc (.map #[] 0)) w.heap.size ([] : List (κ × ν)) :=
  ⟨#[], 0, heap_alloc_new w _, ⟨by simp, by simp, by simp⟩, by simp [keysL]⟩

theorem ents_keys {es : Array MapEntry} {clock : Nat} {l : List (κ × ν)} (h : EntsAre es clock (l.map fun p => (enc p.1, venc p.2))) : es.toList.map (·.key) = (keysL l).map enc := by
  have := congrArg (List.map Prod.fst) h.1
  simpa [keysL, List.map_map, Function.comp_def] using this
theorem ents_at {es : Array MapEntry} {clock : Nat} {l : List (κ × ν)} (h : EntsAre es clock (l.map fun p => (enc p.1, venc p.2))) {j : Nat} {e : MapEntry} (he : es.toList[j]? = some e) :
    ∃ p, l[j]? = some p ∧ e.key = enc p.1 ∧ e.val = venc p.2 := by
  have h1 : (es.toList.map (fun e => (e.key, e.val)))[j]? = some (e.key, e.val) := by rw [List.getElem?_map, he]; rfl
  rw [h.1, List.getElem?_map, Option.map_eq_some_iff] at h1
  obtain ⟨p, hp, e1⟩ := h1
  simp only [Prod.mk.injEq] at e1
  exact ⟨p, hp, e1.1.symm, e1.2.symm⟩

/-- What a key finds. -/
theorem MKey.looks [DecidableEq κ] (M : MKey P K enc) {es : Array MapEntry} {clock : Nat} {l : List (κ × ν)} (h : EntsAre es clock (l.map fun p => (enc p.1, venc p.2))) (hn : (keysL l).Nodup) (w : World) (k : κ) :
    ((Instr.findKey K (enc k) es.toList).run P w = .ok none w ∧ mLook l k = none) ∨
    ∃ j e v, (Instr.findKey K (enc k) es.toList).run P w = .ok (some (j, venc v)) w ∧ es.toList[j]? = some e ∧ l[j]? = some (k, v) ∧ mLook l k = some v ∧ e.key = enc k := by
  rcases M.find w k es.toList (keysL l) (ents_keys h) with ⟨h1, h2⟩ | ⟨j, e, h1, h2, h3⟩
  · exact .inl ⟨h1, mLook_none.2 h2⟩
  · obtain ⟨p, hp, hk, hv⟩ := ents_at h h2
    have h4 : p.1 = k := by
      simp only [keysL, List.getElem?_map, hp, Option.map_some, Option.some.injEq] at h3
      exact h3
    obtain ⟨a, v⟩ := p
    subst h4
    exact .inr ⟨j, e, v, by rw [h1, hv], h2, hp, mLook_at hn hp, hk⟩

def found (venc : ν → Value) (z : Value) : Option ν → Value
  | some v => venc v
  | none => z

theorem MapAt.lookup [DecidableEq κ] {w : World} {b : Nat} {l : List (κ × ν)} (h : MapAt enc venc w b l) (M : MKey P K enc) (hT : P.underlying T = some (.map K E)) {z : Value} (hz : ∀ w, (zeroValue E).run P w = .ok z w) (k : κ) (c : Bool) :
    (Instr.lookup T (.map (some b)) (enc k) c).run P w = .ok (if c then .tuple #[found venc z (mLook l k), .bool (mLook l k).isSome] else found venc z (mLook l k)) w := by
  obtain ⟨es, clock, hb, he, hn⟩ := h
  rcases M.looks he hn w k with ⟨h1, h2⟩ | ⟨j, e, v, h1, h2, h3, h4, _⟩
  · cases c <;> simp [Instr.lookup, run_underlying hT, getMap hb, M.check, h1, hz, h2, found, Result.andThen]
  · cases c <;> simp [Instr.lookup, run_underlying hT, getMap hb, M.check, h1, h4, found, Result.andThen]

/-- The world with another object in block b. -/
theorem Chg.putMap {w : World} {b : Nat} {o : Obj} : Chg [b] w { w with heap := w.heap.setIfInBounds b o } :=
  ⟨rfl, rfl, rfl, by simp, fun k _ hn => by
    have : b ≠ k := fun e => hn (by simp [e])
    simp [this]⟩
theorem putMap_at {w : World} {b : Nat} {o o' : Obj} (h : w.heap[b]? = some o') : ({ w with heap := w.heap.setIfInBounds b o } : World).heap[b]? = some o := by
  have := (Array.getElem?_eq_some_iff.1 h).1
  simp [this]

theorem keys_put_some [DecidableEq κ] {l : List (κ × ν)} {k : κ} {v : ν} (h : (mLook l k).isSome) : keysL (putL l k v) = keysL l := by
  simp only [putL, h, if_true, keysL, List.map_map]
  refine List.map_congr_left fun p _ => ?_
  simp only [Function.comp_apply]
  split
  · rename_i e; exact e.symm
  · rfl
theorem nodup_put [DecidableEq κ] {l : List (κ × ν)} (k : κ) (v : ν) (hn : (keysL l).Nodup) : (keysL (putL l k v)).Nodup := by
  by_cases h : (mLook l k).isSome
  · rw [keys_put_some h]; exact hn
  · have h0 : mLook l k = none := by simpa using h
    simp only [putL, h0, Option.isSome_none, Bool.false_eq_true, if_false, keysL, List.map_append, List.map_cons, List.map_nil]
    refine List.nodup_append.2 ⟨hn, by simp, ?_⟩
    intro a ha b hb
    simp only [List.mem_singleton] at hb
    subst hb
    intro e
    subst e
    exact mLook_none.1 h0 ha
theorem nodup_del [DecidableEq κ] {l : List (κ × ν)} (k : κ) (hn : (keysL l).Nodup) : (keysL (delL l k)).Nodup := by
  unfold keysL delL
  exact hn.sublist (List.Sublist.map _ List.filter_sublist)

theorem map_modify_at {l : List (κ × ν)} [DecidableEq κ] {j : Nat} {k : κ} {v v' : ν} (hn : (keysL l).Nodup) (h : l[j]? = some (k, v)) :
    l.map (fun p => if p.1 = k then (k, v') else p) = l.modify j (fun _ => (k, v')) := by
  induction l generalizing j with
  | nil => simp at h
  | cons p l ih =>
    simp only [keysL, List.map_cons, List.nodup_cons] at hn
    cases j with
    | zero =>
      simp at h
      subst h
      simp only [List.map_cons, if_true, List.modify_zero_cons, List.cons.injEq, true_and]
      conv => rhs; rw [← List.map_id l]
      refine List.map_congr_left fun q hq => ?_
      have : q.1 ≠ k := fun e => hn.1 (List.mem_map.2 ⟨q, hq, e⟩)
      simp [this]
    | succ j =>
      simp only [List.getElem?_cons_succ] at h
      have hm : k ∈ l.map (·.1) := List.mem_map.2 ⟨_, List.mem_of_getElem? h, rfl⟩
      have hne : p.1 ≠ k := fun e => hn.1 (e ▸ hm)
      simp only [List.map_cons, hne, if_false, List.modify_succ_cons, List.cons.injEq, true_and]
      exact ih hn.2 h

theorem MapAt.update [DecidableEq κ] {w : World} {b : Nat} {l : List (κ × ν)} (h : MapAt enc venc w b l) (M : MKey P K enc) (hT : P.underlying T = some (.map K E)) (k : κ) (v : ν) :
    ∃ w', (Instr.mapUpdate T (.map (some b)) (enc k) (venc v)).run P w = .ok () w' ∧ MapAt enc venc w' b (putL l k v) ∧ Chg [b] w w' ∧ w'.heap.size = w.heap.size := by
  obtain ⟨es, clock, hb, he, hn⟩ := h
  rcases M.looks he hn w k with ⟨h1, h2⟩ | ⟨j, e, v0, h1, h2, h3, h4, h5⟩
  · refine ⟨{ w with heap := w.heap.setIfInBounds b (.map (es.push { key := enc k, val := venc v, born := clock }) (clock + 1)) }, ?_, ?_, Chg.putMap, by simp⟩
    · simp [Instr.mapUpdate, run_underlying hT, getMap hb, M.check, h1, setMap _ hb, Result.andThen]
    · refine ⟨_, _, putMap_at hb, ⟨?_, ?_, ?_⟩, nodup_put _ _ hn⟩
      · simp only [Array.toList_push, List.map_append, he.1, putL, h2, Option.isSome_none, Bool.false_eq_true, if_false, List.map_cons, List.map_nil]
      · simp only [Array.toList_push, List.map_append, List.map_cons, List.map_nil]
        refine List.pairwise_append.2 ⟨he.2.1, by simp, ?_⟩
        intro a ha c hc
        simp only [List.mem_singleton] at hc
        obtain ⟨x, hx, rfl⟩ := List.mem_map.1 ha
        subst hc
        exact he.2.2 x hx
      · intro x hx
        simp only [Array.toList_push, List.mem_append, List.mem_singleton] at hx
        rcases hx with hx | rfl
        · exact Nat.lt_succ_of_lt (he.2.2 x hx)
        · exact Nat.lt_succ_self _
  · have hes : es[j]? = some e := by simpa using h2
    have hkey : ((es[j]?).map (·.key)).getD (enc k) = enc k := by rw [hes]; exact h5
    refine ⟨{ w with heap := w.heap.setIfInBounds b (.map (es.modify j fun e => { e with key := enc k, val := venc v }) clock) }, ?_, ?_, Chg.putMap, by simp⟩
    · simp only [Instr.mapUpdate, Sem.run_bind, run_underlying hT, getMap hb, M.check, h1, hkey, M.stays, setMap _ hb, Result.andThen]
    · have hborn : (es.modify j fun e => { e with key := enc k, val := venc v }).toList.map (·.born) = es.toList.map (·.born) := by
        rw [Array.toList_modify]
        refine List.ext_getElem? fun i => ?_
        simp only [List.getElem?_map, List.getElem?_modify]
        split
        · cases es.toList[i]? <;> rfl
        · cases es.toList[i]? <;> rfl
      refine ⟨_, _, putMap_at hb, ⟨?_, ?_, ?_⟩, nodup_put _ _ hn⟩
      · have hs : (mLook l k).isSome := by rw [h4]; rfl
        simp only [putL, hs, if_true, map_modify_at hn h3, Array.toList_modify]
        refine List.ext_getElem? fun i => ?_
        have hi := congrArg (fun l => l[i]?) he.1
        simp only [List.getElem?_map] at hi
        simp only [List.getElem?_map, List.getElem?_modify]
        by_cases hji : j = i
        · subst hji
          simp only [if_true, h2, h3, Option.map_some, Functor.map]
        · simp only [hji, if_false, Functor.map]
          simpa using hi
      · rw [hborn]; exact he.2.1
      · intro x hx
        have : x.born ∈ (es.modify j fun e => { e with key := enc k, val := venc v }).toList.map (·.born) := List.mem_map.2 ⟨x, hx, rfl⟩
        rw [hborn] at this
        obtain ⟨y, hy, e1⟩ := List.mem_map.1 this
        rw [← e1]
        exact he.2.2 y hy

theorem map_erase {α β : Type} (f : α → β) : ∀ (l : List α) (j : Nat), (l.map f).eraseIdx j = (l.eraseIdx j).map f
  | [], _ => by simp
  | _ :: _, 0 => by simp
  | _ :: l, j + 1 => by simp [map_erase f l j]
theorem eraseIdx_del [DecidableEq κ] {l : List (κ × ν)} {j : Nat} {k : κ} {v : ν} (hn : (keysL l).Nodup) (h : l[j]? = some (k, v)) : l.eraseIdx j = delL l k := by
  induction l generalizing j with
  | nil => simp at h
  | cons p l ih =>
    simp only [keysL, List.map_cons, List.nodup_cons] at hn
    cases j with
    | zero =>
      simp at h
      subst h
      have : l.filter (fun p => decide (p.1 ≠ k)) = l := List.filter_eq_self.2 fun q hq => by
        have : q.1 ≠ k := fun e => hn.1 (List.mem_map.2 ⟨q, hq, e⟩)
        simp [this]
      have h2 : delL ((k, v) :: l) k = l.filter (fun p => decide (p.1 ≠ k)) := by simp [delL]
      rw [h2, this]; rfl
    | succ j =>
      simp only [List.getElem?_cons_succ] at h
      have hm : k ∈ l.map (·.1) := List.mem_map.2 ⟨_, List.mem_of_getElem? h, rfl⟩
      have hne : p.1 ≠ k := fun e => hn.1 (e ▸ hm)
      have := ih hn.2 h
      simp only [List.eraseIdx_cons_succ, this]
      simp [delL, hne]
theorem del_none [DecidableEq κ] {l : List (κ × ν)} {k : κ} (h : mLook l k = none) : delL l k = l :=
  List.filter_eq_self.2 fun q hq => by
    have : q.1 ≠ k := fun e => mLook_none.1 h (List.mem_map.2 ⟨q, hq, e⟩)
    simp [this]

theorem MapAt.delete [DecidableEq κ] {w : World} {b : Nat} {l : List (κ × ν)} (h : MapAt enc venc w b l) (M : MKey P K enc) (hT : P.underlying T = some (.map K E)) (k : κ) (kt ty : TypeId) :
    ∃ w', (Builtin.delete_ #[T, kt] ty #[.map (some b), enc k]).run P w = .ok (.tuple #[]) w' ∧ MapAt enc venc w' b (delL l k) ∧ Chg [b] w w' ∧ w'.heap.size = w.heap.size := by
  obtain ⟨es, clock, hb, he, hn⟩ := h
  rcases M.looks he hn w k with ⟨h1, h2⟩ | ⟨j, e, v0, h1, h2, h3, h4, h5⟩
  · refine ⟨{ w with heap := w.heap.setIfInBounds b (.map es clock) }, ?_, ?_, Chg.putMap, by simp⟩
    · simp [Builtin.delete_, run_underlying hT, getMap hb, M.check, h1, setMap _ hb, Result.andThen]
    · exact ⟨_, _, putMap_at hb, by rw [del_none h2]; exact he, nodup_del _ hn⟩
  · refine ⟨{ w with heap := w.heap.setIfInBounds b (.map (es.eraseIdxIfInBounds j) clock) }, ?_, ?_, Chg.putMap, by simp⟩
    · simp [Builtin.delete_, run_underlying hT, getMap hb, M.check, h1, setMap _ hb, Result.andThen]
    · have hl : (es.eraseIdxIfInBounds j).toList = es.toList.eraseIdx j := by simp
      refine ⟨_, _, putMap_at hb, ⟨?_, ?_, ?_⟩, nodup_del _ hn⟩
      · rw [hl, ← eraseIdx_del hn h3, ← map_erase, ← map_erase, he.1]
      · rw [hl]
        exact he.2.1.sublist (List.Sublist.map _ (List.eraseIdx_sublist _ _))
      · intro x hx
        rw [hl] at hx
        exact he.2.2 x ((List.eraseIdx_sublist _ _).subset hx)

/-! ### two kinds of keys -/
/-- An integer of whatever kind. -/
theorem mkey_int {q : IntKind} (hK : P.underlying K = some (.int q)) : MKey P K (fun n : Int => .int q n) where
  check w em k := run_checkKey hK (by simp [IsKey]) em 9999
  stays w k := run_keyThatStays (d := .int q) (by simp [IsKey])
  find w k es ks h := by
    have hk : ∀ x ∈ es, IsKey (.int q) x.key := fun x hx => by
      have : x.key ∈ ks.map (fun n : Int => Value.int q n) := by rw [← h]; exact List.mem_map.2 ⟨x, hx, rfl⟩
      obtain ⟨n, _, e⟩ := List.mem_map.1 this
      rw [← e]; simp [IsKey]
    rcases findNow_spec (d := .int q) (k := .int q k) (by simp [IsKey]) es 0 hk with ⟨h1, h2⟩ | ⟨j, e, h1, h2, h3⟩
    · refine .inl ⟨run_findKey hK h1, fun hm => ?_⟩
      have : Value.int q k ∈ es.map (·.key) := by rw [h]; exact List.mem_map.2 ⟨k, hm, rfl⟩
      obtain ⟨x, hx, e⟩ := List.mem_map.1 this
      exact h2 x hx e
    · refine .inr ⟨j, e, by simpa using run_findKey hK h1, h2, ?_⟩
      have h4 : (es.map (·.key))[j]? = some (.int q k) := by rw [List.getElem?_map, h2]; simp [h3]
      rw [h, List.getElem?_map, Option.map_eq_some_iff] at h4
      obtain ⟨n, hn, e⟩ := h4
      rw [hn]; simpa using e

/-- What is told apart by '==' in the model, one key behind the other. -/
theorem mkey_asking {κ : Type} [DecidableEq κ] {enc : κ → Value} {d : TypeDesc} (hK : P.underlying K = some d) (hslow : ∀ a b : κ, Instr.sameNow d (enc a) (enc b) = none)
    (heq : ∀ (w : World) (a b : κ), (Op.equal K (enc a) (enc b)).run P w = .ok (decide (a = b)) w)
    (hc : ∀ (w : World) (em : Bool) (k : κ), (Instr.checkKey em 10000 K (enc k)).run P w = .ok () w) (hs : ∀ (w : World) (k : κ), (Instr.keyThatStays (enc k) (enc k)).run P w = .ok (enc k) w) : MKey P K enc where
  check := hc
  stays := hs
  find w k es ks h := by
    have ask : ∀ (es : List MapEntry) (ks : List κ) (i : Nat), es.map (·.key) = ks.map enc →
        ((Instr.findAsking K (enc k) es i).run P w = .ok none w ∧ k ∉ ks) ∨ ∃ j e, (Instr.findAsking K (enc k) es i).run P w = .ok (some (i + j, e.val)) w ∧ es[j]? = some e ∧ ks[j]? = some k := by
      intro es
      induction es with
      | nil =>
        intro ks i h
        cases ks with
        | nil => exact .inl ⟨by simp [Instr.findAsking], by simp⟩
        | cons _ _ => simp at h
      | cons e es ih =>
        intro ks i h
        cases ks with
        | nil => simp at h
        | cons x ks =>
          simp only [List.map_cons, List.cons.injEq] at h
          by_cases hx : k = x
          · subst hx
            exact .inr ⟨0, e, by simp [Instr.findAsking, h.1, heq, Result.andThen], by simp, by simp⟩
          · rcases ih ks (i + 1) h.2 with ⟨h1, h2⟩ | ⟨j, e', h1, h2, h3⟩
            · exact .inl ⟨by simp [Instr.findAsking, h.1, heq, hx, Result.andThen, h1], by simp [hx, h2]⟩
            · exact .inr ⟨j + 1, e', by simp [Instr.findAsking, h.1, heq, hx, Result.andThen, h1]; omega, by simpa using h2, by simpa using h3⟩
    have now : ∀ (es : List MapEntry) (ks : List κ) (i : Nat), es.map (·.key) = ks.map enc → Instr.findNow d (enc k) es i = (if es = [] then some none else none) := by
      intro es ks i h
      cases es with
      | nil => simp [Instr.findNow]
      | cons e es =>
        cases ks with
        | nil => simp at h
        | cons x ks =>
          simp only [List.map_cons, List.cons.injEq] at h
          simp [Instr.findNow, h.1, hslow]
    cases es with
    | nil =>
      cases ks with
      | nil => exact .inl ⟨by simp [Instr.findKey, run_underlying hK, now [] [] 0 rfl, Result.andThen], by simp⟩
      | cons _ _ => simp at h
    | cons e es =>
      have h0 : (Instr.findKey K (enc k) (e :: es)).run P w = (Instr.findAsking K (enc k) (e :: es) 0).run P w := by
        simp [Instr.findKey, run_underlying hK, now _ _ 0 h, Result.andThen]
      rw [h0]
      simpa using ask (e :: es) ks 0 h

/-! ### at the operation -/
theorem wpL_lookup [DecidableEq κ] {w : World} {ops : Array Oper} {rest : List Oper} {o : Oper} {a : Act} {Q : Exit → Act → World → Prop}
    (hg : o.guard = none) (m x : Operand) (t : TypeId) (c : Bool) (hop : o.op = Op.lookup t m x c) (M : MKey P K enc) (hT : P.underlying t = some (.map K E)) {z : Value} (hz : ∀ w, (zeroValue E).run P w = .ok z w)
    {b : Nat} {l : List (κ × ν)} (h : MapAt enc venc w b l) (k : κ) (hm : a.eval m = .map (some b)) (hx : a.eval x = enc k)
    (hK : wpList P ops Q rest (a.put o.dst (if c then .tuple #[found venc z (mLook l k), .bool (mLook l k).isSome] else found venc z (mLook l k))) w) : wpList P ops Q (o :: rest) a w := by
  refine wpList_plain hg fun K' hK' => ?_
  have hrun := h.lookup M hT hz k c
  unfold Oper.wp
  simp only [execOp, hop, hm, hx, Sem.run_bind, hrun, Result.andThen]
  exact hK' _ _ hK
theorem wpL_update [DecidableEq κ] {w : World} {ops : Array Oper} {rest : List Oper} {o : Oper} {a : Act} {Q : Exit → Act → World → Prop}
    (hg : o.guard = none) (m x v : Operand) (t : TypeId) (hop : o.op = Op.mapUpdate t m x v) (M : MKey P K enc) (hT : P.underlying t = some (.map K E))
    {b : Nat} {l : List (κ × ν)} (h : MapAt enc venc w b l) (k : κ) (v' : ν) (hm : a.eval m = .map (some b)) (hx : a.eval x = enc k) (hv : a.eval v = venc v')
    (hK : ∀ w', MapAt enc venc w' b (putL l k v') → Chg [b] w w' → w'.heap.size = w.heap.size → wpList P ops Q rest (a.put o.dst undef) w') : wpList P ops Q (o :: rest) a w := by
  refine wpList_plain hg fun K' hK' => ?_
  obtain ⟨w', hrun, r1, r2, r3⟩ := h.update M hT k v'
  unfold Oper.wp
  simp only [execOp, hop, hm, hx, hv, Sem.run_bind, hrun, Result.andThen]
  exact hK' _ _ (hK w' r1 r2 r3)
theorem wpL_delete [DecidableEq κ] {w : World} {ops : Array Oper} {rest : List Oper} {o : Oper} {a : Act} {Q : Exit → Act → World → Prop}
    (hg : o.guard = none) (m x : Operand) (t kt : TypeId) (hop : o.op = Op.call { callee := Callee.builtin Builtin.delete, args := #[m, x], argTypes := #[t, kt] }) (M : MKey P K enc) (hT : P.underlying t = some (.map K E))
    {b : Nat} {l : List (κ × ν)} (h : MapAt enc venc w b l) (k : κ) (hm : a.eval m = .map (some b)) (hx : a.eval x = enc k)
    (hK : ∀ w', MapAt enc venc w' b (delL l k) → Chg [b] w w' → w'.heap.size = w.heap.size → wpList P ops Q rest (a.put o.dst (.tuple #[])) w') : wpList P ops Q (o :: rest) a w := by
  refine wpList_plain hg fun K' hK' => ?_
  obtain ⟨w', hrun, r1, r2, r3⟩ := h.delete M hT k kt o.type
  unfold Oper.wp
  simp [execOp, hop, resolve, invoke, builtin, hm, hx, hrun, Result.andThen]
  exact hK' _ _ (hK w' r1 r2 r3)

end block

/-! ### a region that draws: quiet operations, then a tail in one order -/
theorem wp_tail {P : Program} {id : Nat} {Q : Exit → Act → World → Prop} {a : Act} {w : World} {l : List Oper} (n : Nat) (hm : P.follows .mixedOrders = true) (hB : Region.lexTailB .any l.toArray n = true)
    (h : ∀ W : World, Chg [] w W → wpStill P l.toArray W (fun a' => wpList P l.toArray Q (l.drop n) a' W) (l.take n) a) : (Code.region id l.toArray true).wp P Q a w :=
  wp_region_still_tail n hm hB (h _ (Chg.drew [] w))

theorem wrapOk {n : Int} (h0 : -9223372036854775808 ≤ n) (h1 : n ≤ 9223372036854775807) : IntKind.i64.wrap n = n := IntWalk.i64_in _ (by omega)
theorem wrapV {n m : Int} (h : n = m) (h0 : -9223372036854775808 ≤ n) (h1 : n ≤ 9223372036854775807) : Value.int .i64 (IntKind.i64.wrap n) = .int .i64 m := by rw [wrapOk h0 h1, h]
theorem blk1 {w : World} {b : Nat} {u : Value} {t : TypeId} {fr : Nat × Nat} (h : w.heap[b]? = some (.cells #[u] t fr)) : w.cell? ⟨b, 0, none⟩ = some u := by
  simp [World.cell?, h]
theorem blk2 {w : World} {b : Nat} {u v : Value} {t : TypeId} {fr : Nat × Nat} (h : w.heap[b]? = some (.cells #[u, v] t fr)) : w.cell? ⟨b, 0, none⟩ = some u ∧ w.cell? ⟨b, 1, none⟩ = some v := by
  simp [World.cell?, h]
theorem blk_lt {w : World} {b : Nat} {o : Obj} (h : w.heap[b]? = some o) : b < w.heap.size := (Array.getElem?_eq_some_iff.1 h).1
end Go.Dm
