/-
  Slices as lists of records: a slice's own row, read and appended to. Nothing of the program stands in it.
-/
import Derived.Test.YtdcjfaplgpeonaaM
import Derived.Maps.AppendAt
import Derived.Deep.AppendLies
import Derived.Deep.RegionHeld3
import Derived.Deep.DeepMust
namespace Go.Dm
open Go.RowKit

section
variable {α : Type}

/-- Each record takes sz cells. -/
structure REnc (sz : Nat) (renc : α → List Value) : Prop where
  len : ∀ a, (renc a).length = sz
  one : ∀ a, ∀ u ∈ renc a, u.oneCell' = true

theorem flat_len {sz : Nat} {renc : α → List Value} (R : REnc sz renc) : ∀ l : List α, (l.flatMap renc).length = l.length * sz
  | [] => by simp
  | a :: l => by
    rw [List.flatMap_cons, List.length_append, R.len, flat_len R l, List.length_cons, Nat.add_mul, Nat.one_mul, Nat.add_comm]
theorem flat_get {sz : Nat} {renc : α → List Value} (R : REnc sz renc) : ∀ (l : List α) (i j : Nat) (a : α), l[i]? = some a → j < sz → (l.flatMap renc)[i * sz + j]? = (renc a)[j]?
  | [], i, j, a, h, _ => by simp at h
  | b :: l, 0, j, a, h, hj => by
    simp at h
    subst h
    rw [List.flatMap_cons, Nat.zero_mul, Nat.zero_add, List.getElem?_append_left (by rw [R.len]; exact hj)]
  | b :: l, i + 1, j, a, h, hj => by
    rw [List.flatMap_cons, List.getElem?_append_right (by rw [R.len, Nat.add_mul]; omega), R.len]
    have : (i + 1) * sz + j - sz = i * sz + j := by rw [Nat.add_mul]; omega
    rw [this]
    exact flat_get R l i j a (by simpa using h) hj

/-- The slice value v owns a row of its own with these records. -/
def SlAt (e sz : Nat) (renc : α → List Value) (w : World) (v : Value) (l : List α) : Prop := w.ownsRow 0 e sz v l.length (l.flatMap renc)

variable {e sz : Nat} {renc : α → List Value} {w w' : World} {v : Value} {l : List α}

theorem SlAt.nil (e sz : Nat) (renc : α → List Value) (w : World) : SlAt e sz renc w (.slice none 0 0) [] := ⟨by simp, .inl ⟨rfl, rfl⟩⟩
theorem SlAt.empty {t e sz : Nat} {renc : α → List Value} {w : World} {g : Nat} (h : w.heap[g]? = some (.cells #[] e (0, 0))) (_ht : t = e) : SlAt e sz renc w (.slice (some ⟨g, 0, none⟩) 0 0) ([] : List α) :=
  ⟨by simp, .inr ⟨g, 0, #[], rfl, Nat.zero_le _, h, Nat.le_refl _, Nat.zero_le _, by simp, by simp⟩⟩
theorem SlAt.form (h : SlAt e sz renc w v l) : ∃ A c, v = .slice A l.length c ∧ (A = none ∨ ∃ g, A = some ⟨g, 0, none⟩) ∧ (0 < l.length → ∃ g, A = some ⟨g, 0, none⟩) := by
  rcases h.2 with ⟨rfl, h0⟩ | ⟨g, cap, cur, rfl, _⟩
  · exact ⟨none, 0, by rw [h0], .inl rfl, fun h => by omega⟩
  · exact ⟨_, cap, rfl, .inr ⟨g, rfl⟩, fun _ => ⟨g, rfl⟩⟩
theorem SlAt.at_ {g n c : Nat} (h : SlAt e sz renc w (.slice (some ⟨g, 0, none⟩) n c) l) (R : REnc sz renc) {i j : Nat} {a : α} (ha : l[i]? = some a) (hj : j < sz) : w.cell? ⟨g, i * sz + j, none⟩ = (renc a)[j]? := by
  rcases h.2 with ⟨h0, _⟩ | ⟨g', cap, cur, hv, _, hg, _, _, hs, ht⟩
  · cases h0
  · simp only [Value.slice.injEq, Option.some.injEq, Addr.mk.injEq, and_true] at hv
    obtain ⟨rfl, _, _⟩ := hv
    have h1 := flat_get R l i j a ha hj
    rw [← ht, List.getElem?_take] at h1
    have hil : i < l.length := (List.getElem?_eq_some_iff.1 ha).1
    have : i * sz + j < l.length * sz := by
      have := Nat.mul_le_mul_right sz (show i + 1 ≤ l.length by omega)
      rw [Nat.add_mul] at this
      omega
    rw [if_pos this] at h1
    rw [← h1]
    simp [World.cell?, hg]
theorem SlAt.free {g n c : Nat} (h : SlAt e sz renc w (.slice (some ⟨g, 0, none⟩) n c) l) (j : Nat) : w.frozen? ⟨g, j, none⟩ = false := by
  rcases h.2 with ⟨h0, _⟩ | ⟨g', cap, cur, hv, _, hg, _, _, hs, ht⟩
  · cases h0
  · simp only [Value.slice.injEq, Option.some.injEq, Addr.mk.injEq, and_true] at hv
    obtain ⟨rfl, _, _⟩ := hv
    simp [World.frozen?, hg]
theorem SlAt.typed (h : SlAt e sz renc w v l) {g : Nat} (hv : v.ownBlock = some g) : ∃ cur, w.heap[g]? = some (.cells cur e (0, 0)) := by
  rcases h.2 with ⟨rfl, _⟩ | ⟨g', cap, cur, rfl, _, hg, _⟩
  · simp [Value.ownBlock] at hv
  · simp [Value.ownBlock] at hv
    subst hv
    exact ⟨cur, hg⟩
theorem SlAt.lt (h : SlAt e sz renc w v l) {g : Nat} (hv : v.ownBlock = some g) : g < w.heap.size := by
  obtain ⟨_, hg⟩ := h.typed hv
  exact (Array.getElem?_eq_some_iff.1 hg).1
theorem SlAt.ne (h : SlAt e sz renc w v l) {r t : Nat} {cs : Array Value} {fr : Nat × Nat} (hr : w.heap[r]? = some (.cells cs t fr)) (ht : t ≠ e) : v.ownBlock ≠ some r := by
  intro hv
  obtain ⟨_, hg⟩ := h.typed hv
  rw [hr] at hg
  cases hg
  exact ht rfl
theorem SlAt.same (h : SlAt e sz renc w v l) (hb : ∀ g, v.ownBlock = some g → w'.heap[g]? = w.heap[g]?) : SlAt e sz renc w' v l := by
  refine ⟨h.1, ?_⟩
  rcases h.2 with hn | ⟨g, cap, cur, rfl, hb0, hg, r⟩
  · exact .inl hn
  · exact .inr ⟨g, cap, cur, rfl, hb0, (hb g (by simp [Value.ownBlock])).trans hg, r⟩
theorem SlAt.chg {S : List Nat} (h : SlAt e sz renc w v l) (hc : Chg S w w') (hn : ∀ g, v.ownBlock = some g → g ∉ S) : SlAt e sz renc w' v l :=
  h.same fun g hg => hc.block g (h.lt hg) (hn g hg)
theorem SlAt.len_le (h : SlAt e sz renc w v l) : l.length ≤ 9223372036854775807 := by
  rcases h.2 with ⟨_, h0⟩ | ⟨g, cap, cur, rfl, hb, hg, hn, hc, _⟩
  · omega
  · unfold maxLen at hc; omega

/-- The slice lies in a block from B on (or nowhere). -/
def Fresh (B : Nat) (v : Value) : Prop := ∀ g, v.ownBlock = some g → B ≤ g
theorem Fresh.not_in {B : Nat} {v : Value} (h : Fresh B v) {S : List Nat} (hS : ∀ k ∈ S, k < B) : ∀ g, v.ownBlock = some g → g ∉ S := fun g hg hm => by
  have := h g hg; have := hS g hm; omega
theorem Fresh.next {B : Nat} {v v' : Value} {w : World} (h : Fresh B v) (hB : B ≤ w.heap.size) (hl : v'.ownBlock = v.ownBlock ∨ v'.ownBlock = some w.heap.size) : Fresh B v' := by
  intro g hg
  rcases hl with hl | hl
  · exact h g (hl ▸ hg)
  · rw [hl] at hg; cases hg; exact hB
theorem Fresh.chg {B : Nat} {v : Value} {w w' : World} (h : Fresh B v) (hg : w.grownBy w' v.ownBlock) {w0 : World} (h0 : Chg [] w0 w) (hB : w0.heap.size ≤ B) : Chg [] w0 w' :=
  ⟨hg.os.trans h0.os, hg.tape.trans h0.tape, hg.output.trans h0.output, Nat.le_trans h0.size hg.size, fun k hk hn =>
    (hg.block k (Nat.lt_of_lt_of_le hk h0.size) (fun e => by have := h k e.symm; omega)).trans (h0.block k hk hn)⟩
theorem Fresh.of {B g n c : Nat} (h : B ≤ g) : Fresh B (.slice (some ⟨g, 0, none⟩) n c) := fun k hk => by simp [Value.ownBlock] at hk; omega
theorem Fresh.none {B n c : Nat} : Fresh B (.slice none n c) := fun k hk => by simp [Value.ownBlock] at hk
/-- What is appended: as many records, at an address. -/
def SrcAt (renc : α → List Value) (w : World) (u : Value) (l : List α) : Prop :=
  ∃ A c, u = .slice A l.length c ∧ (l = [] ∨ ∃ ad, A = some ad ∧ ∀ j x, (l.flatMap renc)[j]? = some x → w.cell? (ad.add j) = some x)

theorem add_lit' (g j : Nat) : (⟨g, 0, none⟩ : Addr).add j = ⟨g, j, none⟩ := by unfold Addr.add; split <;> simp_all
theorem SlAt.src (h : SlAt e sz renc w v l) : SrcAt renc w v l := by
  rcases h.2 with ⟨rfl, h0⟩ | ⟨g, cap, cur, rfl, hb, hg, hn, hc, hs, ht⟩
  · have : l = [] := by simpa using h0
    exact ⟨none, 0, by rw [h0], .inl this⟩
  · refine ⟨_, cap, rfl, .inr ⟨_, rfl, fun j x hx => ?_⟩⟩
    rw [add_lit', ← ht, List.getElem?_take] at *
    split at hx
    · simpa [World.cell?, hg] using hx
    · cases hx
theorem SrcAt.one {g t : Nat} {a : α} {fr : Nat × Nat} (h : w.heap[g]? = some (.cells (renc a).toArray t fr)) (c : Nat) : SrcAt renc w (.slice (some ⟨g, 0, none⟩) 1 c) [a] := by
  refine ⟨_, c, rfl, .inr ⟨_, rfl, fun j x hx => ?_⟩⟩
  rw [add_lit']
  simp only [List.flatMap_cons, List.flatMap_nil, List.append_nil] at hx
  simp [World.cell?, h, hx]
theorem SrcAt.chg {S : List Nat} {u : Value} (h : SrcAt renc w u l) (hc : Chg S w w') (hn : ∀ g, u.ownBlock = some g → g ∉ S) : SrcAt renc w' u l := by
  obtain ⟨A, c, rfl, h⟩ := h
  refine ⟨A, c, rfl, h.imp id ?_⟩
  rintro ⟨ad, rfl, h'⟩
  refine ⟨ad, rfl, fun j x hx => ?_⟩
  have hb : (ad.add j).block = ad.block := by unfold Addr.add; split <;> rfl
  have h1 := h' j x hx
  have hlt := World.block_lt_of_cell? w _ h1
  exact (World.cell?_of_block (hc.block _ hlt (by rw [hb]; exact hn _ (by simp [Value.ownBlock])))).trans h1

/-- append, whatever is appended. -/
theorem run_append_sl {P : Program} (t ty e : TypeId) (i : TypeInfo) (z : Value) (size bytes : Nat) {renc : α → List Value} (R : REnc size renc) (ht : P.underlying t = some (.slice e)) (hi : P.info? e = some i) (hz : i.zero = some z)
    (hsize : i.size = size) (hby : i.bytes = bytes) (hzs : z.cells.size = size) (hsz : 0 < size)
    {w : World} {v u : Value} {l l2 : List α} (h : SlAt e size renc w v l) (hs : SrcAt renc w u l2) (hlen : l.length + l2.length ≤ maxLen) (hbytes : (l.length + l2.length) * bytes ≤ 140737488355328) :
    ∃ v' w', (Builtin.append_ #[t, t] ty #[v, u]).run P w = .ok v' w' ∧ SlAt e size renc w' v' (l ++ l2) ∧ w.grownBy w' v.ownBlock ∧ (v'.ownBlock = v.ownBlock ∨ v'.ownBlock = some w.heap.size) := by
  obtain ⟨A, c, rfl, hs⟩ := hs
  rcases hs with rfl | ⟨ad, rfl, hs⟩
  · refine ⟨v, w, ?_, by simpa using h, ⟨rfl, rfl, rfl, Nat.le_refl _, fun _ _ _ => rfl⟩, .inl rfl⟩
    have hv : ∃ base n cap, v = .slice base n cap ∧ n ≤ cap := by
      rcases h.2 with ⟨rfl, _⟩ | ⟨g, cap, cur, rfl, _, _, hc, _⟩
      · exact ⟨_, _, _, rfl, Nat.le_refl _⟩
      · exact ⟨_, _, _, rfl, hc⟩
    obtain ⟨base, n, cap, rfl, hn⟩ := hv
    have hf : ∀ A, (Builtin.firstCells i.size 0 (.slice A 0 c)).run P w = .ok #[] w := by
      intro A
      cases A <;> simp [Builtin.firstCells, loadCells, loadCellsFrom]
    cases base <;> simp [Builtin.append_, run_underlying ht, sizeOf, typeInfo, hi, Builtin.lenOf, hn, hf, Result.andThen, storeCells]
  · have hlen2 := flat_len R l2
    obtain ⟨v', w', hrun, h1, h2, _, h4⟩ := run_append_own_at (P := P) w 0 t ty e i z size bytes ht hi hz hsize hby hzs hsz v l.length (l.flatMap renc) h ad l2.length c (l2.flatMap renc) hlen2 hs
      (fun u hu => by obtain ⟨a, _, ha⟩ := List.mem_flatMap.1 hu; exact R.one a u ha) hlen hbytes (Nat.zero_le _)
    refine ⟨v', w', hrun, ?_, h2, h4⟩
    unfold SlAt
    rw [List.length_append, List.flatMap_append]
    exact h1

theorem maxOk {n : Nat} (h : n ≤ 1000000) : n ≤ maxLen := by unfold maxLen; omega
/-- The element type's row of the table. -/
structure ElemIs (P : Program) (t e size bytes : Nat) : Prop where
  slice : P.underlying t = some (.slice e)
  info : ∃ i z, P.info? e = some i ∧ i.zero = some z ∧ i.size = size ∧ i.bytes = bytes ∧ z.cells.size = size
  pos : 0 < size

theorem wpL_append {P : Program} {ops : Array Oper} {rest : List Oper} {o : Oper} {a : Act} {Q : Exit → Act → World → Prop} (hg : o.guard = none) (s x : Operand) (t : TypeId)
    (hop : o.op = Op.call { callee := Callee.builtin Builtin.append, args := #[s, x], argTypes := #[t, t] }) {e size bytes : Nat} {renc : α → List Value} (R : REnc size renc) (E : ElemIs P t e size bytes)
    {w : World} {v u : Value} {l l2 : List α} (h : SlAt e size renc w v l) (hs : SrcAt renc w u l2) (hev : a.eval s = v) (heu : a.eval x = u) (hlen : l.length + l2.length ≤ maxLen) (hbytes : (l.length + l2.length) * bytes ≤ 140737488355328)
    (hK : ∀ v' w', SlAt e size renc w' v' (l ++ l2) → w.grownBy w' v.ownBlock → (v'.ownBlock = v.ownBlock ∨ v'.ownBlock = some w.heap.size) → wpList P ops Q rest (a.put o.dst v') w') : wpList P ops Q (o :: rest) a w := by
  refine wpList_plain hg fun K' hK' => ?_
  obtain ⟨i, z, h1, h2, h3, h4, h5⟩ := E.info
  obtain ⟨v', w', hrun, r1, r2, r3⟩ := run_append_sl t o.type e i z size bytes R E.slice h1 h2 h3 h4 h5 E.pos h hs hlen hbytes
  unfold Oper.wp
  simp [execOp, hop, resolve, invoke, builtin, hev, heu, hrun, Result.andThen]
  exact hK' _ _ (hK v' w' r1 r2 r3)

theorem Fresh.chg' {S : List Nat} {B : Nat} {v : Value} {w w' : World} (h : Fresh B v) (hg : w.grownBy w' v.ownBlock) {w0 : World} (h0 : Chg S w0 w) (hB : w0.heap.size ≤ B) : Chg S w0 w' :=
  ⟨hg.os.trans h0.os, hg.tape.trans h0.tape, hg.output.trans h0.output, Nat.le_trans h0.size hg.size, fun k hk hn =>
    (hg.block k (Nat.lt_of_lt_of_le hk h0.size) (fun e => by have := h k e.symm; omega)).trans (h0.block k hk hn)⟩
/-- .. to a slice that lies in blocks laid since w0. -/
theorem wpL_append' {P : Program} {ops : Array Oper} {rest : List Oper} {o : Oper} {a : Act} {Q : Exit → Act → World → Prop} (hg : o.guard = none) (s x : Operand) (t : TypeId)
    (hop : o.op = Op.call { callee := Callee.builtin Builtin.append, args := #[s, x], argTypes := #[t, t] }) {e size bytes : Nat} {renc : α → List Value} (R : REnc size renc) (E : ElemIs P t e size bytes)
    {w w0 : World} {S : List Nat} (h0 : Chg S w0 w) {v u : Value} {l l2 : List α} (h : SlAt e size renc w v l) (hF : Fresh w0.heap.size v) (hs : SrcAt renc w u l2) (hev : a.eval s = v) (heu : a.eval x = u)
    (hlen : l.length + l2.length ≤ 1000000) (hbytes : bytes ≤ 1000)
    (hK : ∀ v' w', SlAt e size renc w' v' (l ++ l2) → Chg S w0 w' → Fresh w0.heap.size v' → w.grownBy w' v.ownBlock → wpList P ops Q rest (a.put o.dst v') w') : wpList P ops Q (o :: rest) a w :=
  wpL_append hg s x t hop R E h hs hev heu (maxOk hlen) (Nat.le_trans (Nat.mul_le_mul hlen hbytes) (by omega)) fun v' w' h1 h2 h3 => hK v' w' h1 (hF.chg' h2 h0 (Nat.le_refl _)) (hF.next h0.size h3) h2

theorem flat_take {renc : α → List Value} (l : List α) (k : Nat) {j : Nat} {x : Value} (h : ((l.take k).flatMap renc)[j]? = some x) : (l.flatMap renc)[j]? = some x := by
  have : l.flatMap renc = (l.take k).flatMap renc ++ (l.drop k).flatMap renc := by rw [← List.flatMap_append, List.take_append_drop]
  rw [this, List.getElem?_append_left (List.getElem?_eq_some_iff.1 h).1]
  exact h
theorem flat_drop {sz : Nat} {renc : α → List Value} (R : REnc sz renc) (l : List α) (k : Nat) (hk : k ≤ l.length) {j : Nat} {x : Value} (h : ((l.drop k).flatMap renc)[j]? = some x) : (l.flatMap renc)[k * sz + j]? = some x := by
  have e : l.flatMap renc = (l.take k).flatMap renc ++ (l.drop k).flatMap renc := by rw [← List.flatMap_append, List.take_append_drop]
  have hl : ((l.take k).flatMap renc).length = k * sz := by rw [flat_len R, List.length_take, Nat.min_eq_left hk]
  rw [e, List.getElem?_append_right (by omega), hl]
  have : k * sz + j - k * sz = j := by omega
  rw [this]
  exact h
theorem SlAt.src_take {g n c : Nat} (h : SlAt e sz renc w (.slice (some ⟨g, 0, none⟩) n c) l) {k : Nat} (hk : k ≤ l.length) (c' : Nat) : SrcAt renc w (.slice (some ⟨g, 0, none⟩) k c') (l.take k) := by
  obtain ⟨A, c1, he, hs⟩ := h.src
  simp only [Value.slice.injEq] at he
  obtain ⟨rfl, _, _⟩ := he
  refine ⟨some ⟨g, 0, none⟩, c', by simp [hk], ?_⟩
  rcases hs with rfl | ⟨ad, had, hs⟩
  · exact .inl (by simp)
  · cases had
    exact .inr ⟨_, rfl, fun j x hx => hs j x (flat_take l k hx)⟩
theorem add_lit3 (g o j : Nat) : (⟨g, o, none⟩ : Addr).add j = ⟨g, o + j, none⟩ := by unfold Addr.add; split <;> simp_all
theorem SlAt.src_drop {g n c : Nat} (h : SlAt e sz renc w (.slice (some ⟨g, 0, none⟩) n c) l) (R : REnc sz renc) {k : Nat} (hk : k ≤ l.length) (c' m : Nat) (hm : m = l.length - k) : SrcAt renc w (.slice (some ⟨g, k * sz, none⟩) m c') (l.drop k) := by
  obtain ⟨A, c1, he, hs⟩ := h.src
  simp only [Value.slice.injEq] at he
  obtain ⟨rfl, _, _⟩ := he
  refine ⟨some ⟨g, k * sz, none⟩, c', by simp [hm], ?_⟩
  rcases hs with rfl | ⟨ad, had, hs⟩
  · exact .inl (by simp)
  · cases had
    refine .inr ⟨_, rfl, fun j x hx => ?_⟩
    have := hs _ x (flat_drop R l k hk hx)
    rw [add_lit'] at this
    rw [add_lit3]
    exact this
theorem SrcAt.nil {A : Option Addr} {c : Nat} : SrcAt renc w (.slice A 0 c) [] := ⟨A, c, rfl, .inl rfl⟩

theorem step_append' {P : Program} {ops : Array Oper} {o : Oper} {a : Act} {K : Act → World → Prop} {Q : Exit → Act → World → Prop} {E' : Prop} (hg : o.guard = none) (s x : Operand) (t : TypeId)
    (hop : o.op = Op.call { callee := Callee.builtin Builtin.append, args := #[s, x], argTypes := #[t, t] }) {e size bytes : Nat} {renc : α → List Value} (R : REnc size renc) (E : ElemIs P t e size bytes)
    {w w0 : World} {S : List Nat} (h0 : Chg S w0 w) {v u : Value} {l l2 : List α} (h : SlAt e size renc w v l) (hF : Fresh w0.heap.size v) (hs : SrcAt renc w u l2) (hev : a.eval s = v) (heu : a.eval x = u)
    (hlen : l.length + l2.length ≤ 1000000) (hbytes : bytes ≤ 1000)
    (hK : ∀ v' w', SlAt e size renc w' v' (l ++ l2) → Chg S w0 w' → Fresh w0.heap.size v' → w.grownBy w' v.ownBlock → K (a.put o.dst v') w') :
    if Region.wanted o (yielded ops a.tmps) = true then Oper.wp P o a w K Q else E' := by
  have hw : Region.wanted o (yielded ops a.tmps) = true := by simp [Region.wanted, hg]
  rw [if_pos hw]
  obtain ⟨i, z, h1, h2, h3, h4, h5⟩ := E.info
  obtain ⟨v', w', hrun, r1, r2, r3⟩ := run_append_sl t o.type e i z size bytes R E.slice h1 h2 h3 h4 h5 E.pos h hs (maxOk hlen) (Nat.le_trans (Nat.mul_le_mul hlen hbytes) (by omega))
  unfold Oper.wp
  simp [execOp, hop, resolve, invoke, builtin, hev, heu, hrun, Result.andThen]
  exact hK v' w' r1 (hF.chg' r2 h0 (Nat.le_refl _)) (hF.next h0.size r3) r2
theorem blk_set {w : World} {g : Nat} {t : TypeId} {cs : Array Value} {fr : Nat × Nat} (h : w.heap[g]? = some (.cells cs t fr)) (i : Nat) (u : Value) : (w.setCell ⟨g, i, none⟩ u).heap[g]? = some (.cells (cs.setIfInBounds i u) t fr) := by
  simp [World.setCell, Array.getElem?_modify, h]

theorem Fresh.mono {B B' : Nat} {v : Value} (h : Fresh B v) (hb : B' ≤ B) : Fresh B' v := fun g hg => Nat.le_trans hb (h g hg)
theorem SlAt.cap {A : Option Addr} {n c : Nat} (h : SlAt e sz renc w (.slice A n c) l) : n = l.length ∧ l.length ≤ c ∧ (A = none → c = 0 ∧ l = []) ∧ ∀ x, A = some x → ∃ g, x = ⟨g, 0, none⟩ := by
  rcases h.2 with ⟨h0, hn⟩ | ⟨g, cap, cur, hv, _, _, hc, _⟩
  · simp only [Value.slice.injEq] at h0
    obtain ⟨rfl, rfl, rfl⟩ := h0
    have : l = [] := by simpa using hn
    subst this
    exact ⟨rfl, Nat.le_refl _, fun _ => ⟨rfl, rfl⟩, (fun x hx => by cases hx)⟩
  · simp only [Value.slice.injEq] at hv
    obtain ⟨rfl, rfl, rfl⟩ := hv
    exact ⟨rfl, hc, (fun h => by cases h), (fun x hx => by cases hx; exact ⟨g, rfl⟩)⟩
end
end Go.Dm
