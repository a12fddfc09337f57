/-
  A map that is ranged over in whatever order: which of its pairs are still to come. Nothing of the program stands in it.
-/
import Derived.Test.YtdcjfaplgpeonaaM
namespace Go.Dm
open Go.MapKept
open Go.RowKit
section block
variable {κ ν : Type} {P : Program} {K E T : TypeId} {enc : κ → Value} {venc : ν → Value}

/-! ### a map that is ranged over: any order; what is left of it -/
/-- Block it is an iterator over the map in block m, whose pairs are l; todo: those that are still to come. -/
def IterAt (enc : κ → Value) (venc : ν → Value) (w : World) (it m : Nat) (l todo : List (κ × ν)) : Prop :=
  ∃ es c seen, w.heap[m]? = some (.map es c) ∧ EntsAre es c (l.map fun p => (enc p.1, venc p.2)) ∧ (keysL l).Nodup ∧ w.heap[it]? = some (.mapIter (some m) c seen c) ∧
    ((l.zip es.toList).filter (fun q => !seen.contains q.2.born)).map (·.1) = todo

theorem IterAt.map {w : World} {it m : Nat} {l todo : List (κ × ν)} (h : IterAt enc venc w it m l todo) : MapAt enc venc w m l := by
  obtain ⟨es, c, seen, h1, h2, h3, _⟩ := h
  exact ⟨es, c, h1, h2, h3⟩
theorem IterAt.chg {w w' : World} {it m : Nat} {l todo : List (κ × ν)} {S : List Nat} (h : IterAt enc venc w it m l todo) (hc : Chg S w w') (h1 : it ∉ S) (h2 : m ∉ S) : IterAt enc venc w' it m l todo := by
  obtain ⟨es, c, seen, a1, a2, a3, a4, a5⟩ := h
  exact ⟨es, c, seen, hc.at_ a1 h2, a2, a3, hc.at_ a4 h1, a5⟩
theorem ents_len {es : Array MapEntry} {c : Nat} {l : List (κ × ν)} (h : EntsAre es c (l.map fun p => (enc p.1, venc p.2))) : es.toList.length = l.length := by
  have := congrArg List.length h.1
  simpa using this
theorem zip_fst {α β : Type} : ∀ (l : List α) (l' : List β), l'.length = l.length → (l.zip l').map (·.1) = l
  | [], _, _ => by simp
  | a :: l, [], h => by simp at h
  | a :: l, b :: l', h => by simp [zip_fst l l' (by simpa using h)]

theorem newObj_run (o : Obj) (w : World) : (newObj o).run P w = .ok w.heap.size (w.alloc o) := rfl
theorem getIter {w : World} {r c d : Nat} {m : Option Nat} {seen : Array Nat} (h : w.heap[r]? = some (.mapIter m c seen d)) : (getObj r).run P w = .ok (.mapIter m c seen d) w := by
  simp only [getObj, Sem.run, h]
theorem setIter {w : World} {r c d : Nat} {m : Option Nat} {seen : Array Nat} (o : Obj) (h : w.heap[r]? = some (.mapIter m c seen d)) : (setObj r o).run P w = .ok () { w with heap := w.heap.setIfInBounds r o } := by
  simp only [setObj, Sem.run, h]
theorem IterAt.start {w : World} {m : Nat} {l : List (κ × ν)} (h : MapAt enc venc w m l) (hT : P.underlying T = some (.map K E)) :
    ∃ o, (Instr.range T (.map (some m))).run P w = .ok (.pointer (some ⟨w.heap.size, 0, none⟩)) (w.alloc o) ∧ IterAt enc venc (w.alloc o) w.heap.size m l l := by
  obtain ⟨es, c, h1, h2, h3⟩ := h
  have hlt := (Array.getElem?_eq_some_iff.1 h1).1
  refine ⟨.mapIter (some m) c #[] c, ?_, es, c, #[], ?_, h2, h3, heap_alloc_new w _, ?_⟩
  · simp only [Instr.range, Sem.run_bind, run_underlying hT, getMap h1, Result.andThen, newObj_run]
    rfl
  · exact (Below.heap_alloc w _ m hlt).trans h1
  · have : (l.zip es.toList).filter (fun q => !(#[] : Array Nat).contains q.2.born) = l.zip es.toList := List.filter_eq_self.2 fun _ _ => by simp
    rw [this, zip_fst _ _ (ents_len h2)]

theorem choose_any {P : Program} {α : Type} (n : Nat) (hn : 0 < n) (k : Nat → Sem α) (w : World) : ∃ i w', i < n ∧ w'.heap = w.heap ∧ Chg [] w w' ∧ ((choose (.mapNext n)).bind k).run P w = (k i).run P w' := by
  by_cases h : n ≤ 1
  · refine ⟨0, w, hn, rfl, Chg.refl _ _, ?_⟩
    show (if Question.forced (.mapNext n) = true then (k 0).run P w else _) = _
    rw [if_pos (by simpa [Question.forced] using h)]
  · refine ⟨w.tape w.drawn (.mapNext n) % n, w.drew, Nat.mod_lt _ hn, rfl, Chg.drew _ _, ?_⟩
    show (if Question.forced (.mapNext n) = true then (k 0).run P w else _) = _
    rw [if_neg (by simpa [Question.forced] using h)]
    rfl

theorem zip_nodup {α β γ : Type} (f : β → γ) : ∀ (l : List α) (l' : List β), (l'.map f).Nodup → ((l.zip l').map (fun q => f q.2)).Nodup
  | [], _, _ => by simp
  | _ :: _, [], _ => by simp
  | a :: l, b :: l', h => by
    simp only [List.map_cons, List.nodup_cons] at h
    simp only [List.zip_cons_cons, List.map_cons, List.nodup_cons]
    refine ⟨fun hm => h.1 ?_, zip_nodup f l l' h.2⟩
    obtain ⟨q, hq, e⟩ := List.mem_map.1 hm
    exact List.mem_map.2 ⟨q.2, (List.of_mem_zip hq).2, e⟩
theorem filter_seen {α : Type} (L : List (α × MapEntry)) (seen : Array Nat) (pre post : List (α × MapEntry)) (q : α × MapEntry) (hn : (L.map (fun q => q.2.born)).Nodup)
    (h : L.filter (fun q => !seen.contains q.2.born) = pre ++ q :: post) : L.filter (fun x => !(seen.push q.2.born).contains x.2.born) = pre ++ post := by
  have h1 : L.filter (fun x => !(seen.push q.2.born).contains x.2.born) = (L.filter (fun x => !seen.contains x.2.born)).filter (fun x => !(x.2.born == q.2.born)) := by
    rw [List.filter_filter]
    refine List.filter_congr fun x _ => ?_
    rw [Array.contains_push]
    cases (x.2.born == q.2.born) <;> cases seen.contains x.2.born <;> rfl
  have h2 : ((pre ++ q :: post).map (fun q => q.2.born)).Nodup := by rw [← h]; exact hn.sublist (List.Sublist.map _ List.filter_sublist)
  rw [h1, h, List.filter_append, List.filter_cons]
  simp only [List.map_append, List.map_cons] at h2
  have h3 := List.nodup_append.1 h2
  have h4 := List.nodup_cons.1 h3.2.1
  have e1 : pre.filter (fun x => !(x.2.born == q.2.born)) = pre := List.filter_eq_self.2 fun x hx => by
    have : x.2.born ≠ q.2.born := h3.2.2 _ (List.mem_map.2 ⟨x, hx, rfl⟩) _ (List.mem_cons_self)
    simp [this]
  have e2 : post.filter (fun x => !(x.2.born == q.2.born)) = post := List.filter_eq_self.2 fun x hx => by
    have : x.2.born ≠ q.2.born := fun e => h4.1 (List.mem_map.2 ⟨x, hx, e⟩)
    simp [this]
  simp [e1, e2]

theorem IterAt.next {w : World} {it m : Nat} {l todo : List (κ × ν)} (h : IterAt enc venc w it m l todo) (ty : TypeId) :
    (todo = [] ∧ (Instr.next (.pointer (some ⟨it, 0, none⟩)) false ty).run P w = .ok (.tuple #[.bool false]) w) ∨
    ∃ pre k v post w', todo = pre ++ (k, v) :: post ∧ (Instr.next (.pointer (some ⟨it, 0, none⟩)) false ty).run P w = .ok (.tuple #[.bool true, enc k, venc v]) w' ∧
      IterAt enc venc w' it m l (pre ++ post) ∧ Chg [it] w w' ∧ w'.heap.size = w.heap.size ∧ (Instr.entry (.pointer (some ⟨it, 0, none⟩))).run P w' = .ok (.tuple #[enc k, venc v]) w' := by
  obtain ⟨es, c, seen, h1, h2, h3, h4, h5⟩ := h
  have hlen := ents_len h2
  have hborn : (es.toList.map (·.born)).Nodup := h2.2.1.imp (fun h e => by omega)
  have hall : (!seen.isEmpty && !es.isEmpty && es.all (fun e => decide (e.born ≥ c))) = false := by
    cases hes : es.toList with
    | nil => have : es = #[] := by simpa using congrArg List.toArray hes
             simp [this]
    | cons e l' =>
      have he : e ∈ es.toList := by rw [hes]; exact List.mem_cons_self
      have hlt := h2.2.2 e he
      have hf : es.all (fun e => decide (e.born ≥ c)) = false := by
        rw [Bool.eq_false_iff]
        intro ha
        have := Array.all_eq_true'.1 ha e (by simpa using he)
        simp at this
        omega
      rw [hf, Bool.and_false]
  have hold : (es.filter fun e => !seen.contains e.born).filter (fun e => decide (e.born < c)) = es.filter fun e => !seen.contains e.born :=
    Array.filter_eq_self.2 fun x hx => by
      have : x ∈ es.toList := by simpa using (Array.mem_filter.1 hx).1
      simpa using h2.2.2 x this
  have hnew : (es.filter fun e => !seen.contains e.born).filter (fun e => decide (e.born ≥ c)) = #[] := by
    rw [Array.filter_eq_empty_iff]
    intro x hx
    have : x ∈ es.toList := by simpa using (Array.mem_filter.1 hx).1
    have := h2.2.2 x this
    simp; omega
  have hleft : (es.filter fun e => !seen.contains e.born).toList = ((l.zip es.toList).filter (fun q => !seen.contains q.2.born)).map (·.2) := by
    have hz : ∀ (l : List (κ × ν)) (es : List MapEntry), es.length = l.length → es.filter (fun e => !seen.contains e.born) = ((l.zip es).filter (fun q => !seen.contains q.2.born)).map (·.2) := by
      intro l
      induction l with
      | nil => intro es h; have : es = [] := by simpa using h
               simp [this]
      | cons p l ih =>
        intro es h
        cases es with
        | nil => simp at h
        | cons e es =>
          have := ih es (by simpa using h)
          simp only [List.zip_cons_cons, List.filter_cons]
          split
          · rw [List.map_cons, ← this]
          · exact this
    rw [Array.toList_filter]
    exact hz l es.toList hlen
  generalize hL : es.filter (fun e => !seen.contains e.born) = L at hold hnew hleft
  generalize hZ : (l.zip es.toList).filter (fun q => !seen.contains q.2.born) = Z at hleft h5
  cases Z with
  | nil =>
    have hL0 : L = #[] := by simpa using congrArg List.toArray hleft
    subst hL0
    refine .inl ⟨by simpa using h5.symm, ?_⟩
    simp only [Instr.next, Sem.run_bind, getIter h4, getMap h1, Result.andThen, hall, Bool.false_eq_true, if_false, hL, hold, hnew, Array.append_empty, Array.isEmpty_empty, if_true, Array.map_empty]
    rfl
  | cons q0 Z0 =>
    have hpos : 0 < L.size := by
      have := congrArg List.length hleft
      simp at this
      omega
    have hne : L.isEmpty = false := by
      rw [Array.isEmpty_eq_false_iff]; intro e; rw [e] at hpos; simp at hpos
    right
    obtain ⟨i, w1, hi, hw1, hc1, hch⟩ := choose_any (P := P) L.size hpos (fun i => do
      match (L.map some)[i]? with
      | some (some e) =>
        setObj it (.mapIter (some m) c (seen.push e.born) c)
        pure (Value.tuple #[.bool true, e.key, e.val])
      | some none => pure (Value.tuple #[.bool false])
      | none => stuck "Next: no such candidate") w
    have hLi : L[i]? = some L[i] := by simp [hi]
    have hZi : (q0 :: Z0)[i]?.map (·.2) = some L[i] := by
      rw [← List.getElem?_map, ← hleft]; simp [hi]
    obtain ⟨q, hq, hqe⟩ := Option.map_eq_some_iff.1 hZi
    obtain ⟨hlt, hqi⟩ := List.getElem?_eq_some_iff.1 hq
    have hsplit : q0 :: Z0 = (q0 :: Z0).take i ++ q :: (q0 :: Z0).drop (i + 1) := by
      rw [← hqi]
      exact (List.take_append_drop i (q0 :: Z0)).symm.trans (by rw [List.drop_eq_getElem_cons hlt])
    have hmem : q ∈ l.zip es.toList := by
      have : q ∈ (l.zip es.toList).filter (fun q => !seen.contains q.2.born) := by rw [hZ]; exact List.mem_of_getElem? hq
      exact (List.mem_filter.1 this).1
    obtain ⟨j, hj, hje⟩ := List.mem_iff_getElem.1 hmem
    have hjl : j < l.length := by simp at hj; omega
    have hje' : j < es.toList.length := by simp at hj; simp; omega
    simp only [List.getElem_zip] at hje
    have hent : es.toList[j]? = some q.2 := by rw [← hje]; simp
    have hlj : l[j]? = some q.1 := by rw [← hje]; simp [hjl]
    obtain ⟨p, hp, hk, hv⟩ := ents_at h2 hent
    have hpq : p = q.1 := by rw [hlj] at hp; simpa using hp.symm
    subst hpq
    have hit1 : w1.heap[it]? = some (.mapIter (some m) c seen c) := by rw [hw1]; exact h4
    have hm1 : w1.heap[m]? = some (.map es c) := by rw [hw1]; exact h1
    have hmne : m ≠ it := fun e => by subst e; rw [h1] at h4; cases h4
    have hlt1 := (Array.getElem?_eq_some_iff.1 hit1).1
    refine ⟨((q0 :: Z0).take i).map (·.1), q.1.1, q.1.2, ((q0 :: Z0).drop (i + 1)).map (·.1), { w1 with heap := w1.heap.setIfInBounds it (.mapIter (some m) c (seen.push q.2.born) c) }, ?_, ?_, ?_, ?_, by simp [hw1], ?_⟩
    · rw [← h5]
      conv => lhs; rw [hsplit]
      simp
    · have hset : (setObj it (.mapIter (some m) c (seen.push q.2.born) c)).run P w1 = .ok () { w1 with heap := w1.heap.setIfInBounds it (.mapIter (some m) c (seen.push q.2.born) c) } := by
        exact setIter _ hit1
      have e0 : (Instr.next (.pointer (some ⟨it, 0, none⟩)) false ty).run P w = ((choose (.mapNext L.size)).bind (fun i => do
          match (L.map some)[i]? with
          | some (some e) =>
            setObj it (.mapIter (some m) c (seen.push e.born) c)
            pure (Value.tuple #[.bool true, e.key, e.val])
          | some none => pure (Value.tuple #[.bool false])
          | none => stuck "Next: no such candidate")).run P w := by
        simp only [Instr.next, Sem.run_bind, getIter h4, getMap h1, Result.andThen, hall, Bool.false_eq_true, if_false, hL, hold, hnew, hne, Array.append_empty, Array.empty_append, Array.size_map]
        exact (Sem.run_bind P w (choose (.mapNext L.size)) _).symm
      rw [e0, hch]
      simp only [Array.getElem?_map, hLi, Option.map_some, ← hqe, Sem.run_bind, hset, Result.andThen, hk, hv]
      rfl
    · refine ⟨es, c, seen.push q.2.born, ?_, h2, h3, ?_, ?_⟩
      · simp [Ne.symm hmne, hm1]
      · simp [hlt1]
      · rw [filter_seen _ seen _ _ q (zip_nodup _ _ _ hborn) (hZ.trans hsplit), List.map_append]
    · exact (hc1.mono (by simp)).trans Chg.putMap
    · have hf : es.find? (fun e => e.born == q.2.born) = some q.2 := by
        rw [← Array.find?_toList]
        exact Go.find_born q.2 es.toList hborn (List.mem_of_getElem? hent)
      have g1 : ({ w1 with heap := w1.heap.setIfInBounds it (.mapIter (some m) c (seen.push q.2.born) c) } : World).heap[it]? = some (.mapIter (some m) c (seen.push q.2.born) c) := by simp [hlt1]
      have g2 : ({ w1 with heap := w1.heap.setIfInBounds it (.mapIter (some m) c (seen.push q.2.born) c) } : World).heap[m]? = some (.map es c) := by simp [Ne.symm hmne, hm1]
      simp only [Instr.entry, Sem.run_bind, getIter g1, getMap g2, Result.andThen, Array.back?_push, bne_self_eq_false, Bool.false_eq_true, if_false, hf, hk, hv]
      rfl

theorem zip_erase {α β : Type} : ∀ (l : List α) (l' : List β) (j : Nat), (l.eraseIdx j).zip (l'.eraseIdx j) = (l.zip l').eraseIdx j
  | [], l', j => by simp
  | _ :: _, [], j => by simp
  | _ :: _, _ :: _, 0 => by simp
  | a :: l, b :: l', j + 1 => by simp [zip_erase l l' j]
theorem erase_filter {α κ : Type} [DecidableEq κ] (f : α → κ) {Z : List α} {j : Nat} {q : α} (hn : (Z.map f).Nodup) (h : Z[j]? = some q) : Z.eraseIdx j = Z.filter (fun x => decide (f x ≠ f q)) := by
  induction Z generalizing j with
  | nil => simp at h
  | cons p Z ih =>
    simp only [List.map_cons, List.nodup_cons] at hn
    cases j with
    | zero =>
      simp at h
      subst h
      have : Z.filter (fun x => decide (f x ≠ f p)) = Z := List.filter_eq_self.2 fun x hx => by
        have : f x ≠ f p := fun e => hn.1 (List.mem_map.2 ⟨x, hx, e⟩)
        simp [this]
      have h2 : (p :: Z).filter (fun x => decide (f x ≠ f p)) = Z.filter (fun x => decide (f x ≠ f p)) := by simp
      rw [h2, this]; rfl
    | succ j =>
      simp only [List.getElem?_cons_succ] at h
      have hm : f q ∈ Z.map f := List.mem_map.2 ⟨q, List.mem_of_getElem? h, rfl⟩
      have hne : f p ≠ f q := fun e => hn.1 (e ▸ hm)
      have := ih hn.2 h
      simp only [List.eraseIdx_cons_succ, this]
      simp [hne]

theorem IterAt.delete [DecidableEq κ] {w : World} {it m : Nat} {l todo : List (κ × ν)} (h : IterAt enc venc w it m l todo) (M : MKey P K enc) (hT : P.underlying T = some (.map K E)) (k : κ) (kt ty : TypeId) :
    ∃ w', (Builtin.delete_ #[T, kt] ty #[.map (some m), enc k]).run P w = .ok (.tuple #[]) w' ∧ IterAt enc venc w' it m (delL l k) (delL todo k) ∧ Chg [m] w w' ∧ w'.heap.size = w.heap.size := by
  obtain ⟨es, clock, seen, hb, he, hn, hit, htodo⟩ := h
  have hne : m ≠ it := fun e => by subst e; rw [hb] at hit; cases hit
  rcases M.looks he hn w k with ⟨h1, h2⟩ | ⟨j, e, v0, h1, h2, h3, h4, h5⟩
  · refine ⟨{ w with heap := w.heap.setIfInBounds m (.map es clock) }, ?_, ?_, Chg.putMap, by simp⟩
    · simp [Builtin.delete_, run_underlying hT, getMap hb, M.check, h1, setMap _ hb, Result.andThen]
    · have h0 : delL todo k = todo := List.filter_eq_self.2 fun q hq => by
        have hql : q ∈ l := by
          rw [← htodo] at hq
          obtain ⟨z, hz, rfl⟩ := List.mem_map.1 hq
          exact (List.of_mem_zip (List.mem_filter.1 hz).1).1
        have : q.1 ≠ k := fun e => mLook_none.1 h2 (List.mem_map.2 ⟨q, hql, e⟩)
        simp [this]
      exact ⟨_, _, seen, putMap_at hb, by rw [del_none h2]; exact he, nodup_del _ hn, by simp [hne, hit], by rw [del_none h2, h0]; exact htodo⟩
  · refine ⟨{ w with heap := w.heap.setIfInBounds m (.map (es.eraseIdxIfInBounds j) clock) }, ?_, ?_, Chg.putMap, by simp⟩
    · simp [Builtin.delete_, run_underlying hT, getMap hb, M.check, h1, setMap _ hb, Result.andThen]
    · have hl : (es.eraseIdxIfInBounds j).toList = es.toList.eraseIdx j := by simp
      refine ⟨_, _, seen, putMap_at hb, ⟨?_, ?_, ?_⟩, nodup_del _ hn, by simp [hne, hit], ?_⟩
      · rw [hl, ← eraseIdx_del hn h3, ← map_erase, ← map_erase, he.1]
      · rw [hl]
        exact he.2.1.sublist (List.Sublist.map _ (List.eraseIdx_sublist _ _))
      · intro x hx
        rw [hl] at hx
        exact he.2.2 x ((List.eraseIdx_sublist _ _).subset hx)
      · have hz : (l.zip es.toList)[j]? = some ((k, v0), e) := by
          rw [List.getElem?_zip_eq_some]; exact ⟨h3, h2⟩
        have hzn : ((l.zip es.toList).map (fun q => q.1.1)).Nodup := by
          have : (l.zip es.toList).map (fun q => q.1.1) = keysL l := by
            have := congrArg (List.map Prod.fst) (zip_fst l es.toList (ents_len he))
            rw [List.map_map] at this
            exact this
          rw [this]; exact hn
        rw [hl, ← eraseIdx_del hn h3, zip_erase, erase_filter (fun q => q.1.1) hzn hz, List.filter_filter, ← htodo]
        unfold delL
        rw [List.filter_map, List.filter_filter]
        congr 1
        exact List.filter_congr fun x _ => by simp [Bool.and_comm]

/-! ### at the operation -/
theorem wpL_range {w : World} {ops : Array Oper} {rest : List Oper} {o : Oper} {a : Act} {Q : Exit → Act → World → Prop}
    (hg : o.guard = none) (m : Operand) (t : TypeId) (hop : o.op = Op.range t m) (hT : P.underlying t = some (.map K E))
    {b : Nat} {l : List (κ × ν)} (h : MapAt enc venc w b l) (hm : a.eval m = .map (some b))
    (hK : ∀ ob, IterAt enc venc (w.alloc ob) w.heap.size b l l → wpList P ops Q rest (a.put o.dst (.pointer (some ⟨w.heap.size, 0, none⟩))) (w.alloc ob)) : wpList P ops Q (o :: rest) a w := by
  refine wpList_plain hg fun K' hK' => ?_
  obtain ⟨ob, hrun, r1⟩ := IterAt.start h hT
  unfold Oper.wp
  simp only [execOp, hop, hm, Sem.run_bind, hrun, Result.andThen]
  exact hK' _ _ (hK ob r1)
theorem wpL_next {w : World} {ops : Array Oper} {rest : List Oper} {o : Oper} {a : Act} {Q : Exit → Act → World → Prop}
    (hg : o.guard = none) (x : Operand) (hop : o.op = Op.next x false)
    {it m : Nat} {l todo : List (κ × ν)} (h : IterAt enc venc w it m l todo) (hx : a.eval x = .pointer (some ⟨it, 0, none⟩))
    (hK0 : todo = [] → wpList P ops Q rest (a.put o.dst (.tuple #[.bool false])) w)
    (hK1 : ∀ pre k v post w', todo = pre ++ (k, v) :: post → IterAt enc venc w' it m l (pre ++ post) → Chg [it] w w' → w'.heap.size = w.heap.size →
      (Instr.entry (.pointer (some ⟨it, 0, none⟩))).run P w' = .ok (.tuple #[enc k, venc v]) w' → wpList P ops Q rest (a.put o.dst (.tuple #[.bool true, enc k, venc v])) w') : wpList P ops Q (o :: rest) a w := by
  refine wpList_plain hg fun K' hK' => ?_
  rcases h.next (P := P) o.type with ⟨e, hrun⟩ | ⟨pre, k, v, post, w', e, hrun, r1, r2, r3, r4⟩
  · unfold Oper.wp
    simp only [execOp, hop, hx, Sem.run_bind, hrun, Result.andThen]
    exact hK' _ _ (hK0 e)
  · unfold Oper.wp
    simp only [execOp, hop, hx, Sem.run_bind, hrun, Result.andThen]
    exact hK' _ _ (hK1 pre k v post w' e r1 r2 r3 r4)
theorem wpL_entry {w : World} {ops : Array Oper} {rest : List Oper} {o : Oper} {a : Act} {Q : Exit → Act → World → Prop}
    (hg : o.guard = none) (x : Operand) (hop : o.op = Op.entry x) {it : Nat} {u : Value} (h : (Instr.entry (.pointer (some ⟨it, 0, none⟩))).run P w = .ok u w) (hx : a.eval x = .pointer (some ⟨it, 0, none⟩))
    (hK : wpList P ops Q rest (a.put o.dst u) w) : wpList P ops Q (o :: rest) a w := by
  refine wpList_plain hg fun K' hK' => ?_
  unfold Oper.wp
  simp only [execOp, hop, hx, Sem.run_bind, h, Result.andThen]
  exact hK' _ _ hK
theorem wpL_delete_it [DecidableEq κ] {w : World} {ops : Array Oper} {rest : List Oper} {o : Oper} {a : Act} {Q : Exit → Act → World → Prop}
    (hg : o.guard = none) (m x : Operand) (t kt : TypeId) (hop : o.op = Op.call { callee := Callee.builtin Builtin.delete, args := #[m, x], argTypes := #[t, kt] }) (M : MKey P K enc) (hT : P.underlying t = some (.map K E))
    {it b : Nat} {l todo : List (κ × ν)} (h : IterAt enc venc w it b l todo) (k : κ) (hm : a.eval m = .map (some b)) (hx : a.eval x = enc k)
    (hK : ∀ w', IterAt enc venc w' it b (delL l k) (delL todo k) → Chg [b] w w' → w'.heap.size = w.heap.size → wpList P ops Q rest (a.put o.dst (.tuple #[])) w') : wpList P ops Q (o :: rest) a w := by
  refine wpList_plain hg fun K' hK' => ?_
  obtain ⟨w', hrun, r1, r2, r3⟩ := h.delete M hT k kt o.type
  unfold Oper.wp
  simp [execOp, hop, resolve, invoke, builtin, hm, hx, hrun, Result.andThen]
  exact hK' _ _ (hK w' r1 r2 r3)
end block
end Go.Dm
