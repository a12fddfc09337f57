/-
  The program's book: what lies in memory; of, key, Fits, Room.
-/
import Derived.Test.YtdcjfaplgpeonaaQ7
import Derived.Test.YtdcjfaplgpeonaaQ2
import Derived.Test.YtdcjfaplgpeonaaQ4
namespace Go.Proofs.Ytdcjfaplgpeonaa
open Go.RowKit Go.Dm

/-- The blocks of a side, and of a book. -/
structure Sdb where
  l : Nat
  q : Nat
  n : Nat
  e : Nat
structure Bkb where
  b : Nat
  ar : Nat
  x : Nat
  m1 : Nat
  m2 : Nat
  s0 : Sdb
  s1 : Sdb

/-- The nodes of a queue, from the first to the last. -/
def Links (nf : Nat → Int) : List Nat → Prop
  | [] => True
  | [a] => nf (a * 3 + 1) = -1
  | a :: b :: r => nf (a * 3 + 1) = (b : Nat) ∧ Links nf (b :: r)
structure Qs (nf ef : Nat → Int) (lv : List Lvl) (m : Nat) : Prop where
  ends : ∀ x ∈ lv, ∃ a r, x.s = a :: r ∧ ef (x.u * 3) = (a : Nat) ∧ ef (x.u * 3 + 1) = ((a :: r).getLast (by simp) : Nat) ∧ Links nf (a :: r)
  loose : ∀ i, m ≤ i → i < 60 → Loose nf i
  fresh : ∀ u, lv.length ≤ u → u < 60 → ef (u * 3 + 1) = -1
/-- The levels of a side are those of its orders. -/
structure LvOk (sd : Int) (lv : List Lvl) (L : List Ord) : Prop where
  sorted : lv.Pairwise (fun a b => keyS sd a.p < keyS sd b.p)
  slots : ∀ x ∈ lv, ∀ i ∈ x.s, ∃ o, L[i]? = some o ∧ o 2 = sd ∧ o 3 = x.p
  all : ∀ (i : Nat) o, L[i]? = some o → o 2 = sd → ∃ x ∈ lv, i ∈ x.s
  nodup : (lv.flatMap (·.s)).Nodup
  queues : (lv.map (·.u)).Nodup
  qlt : ∀ x ∈ lv, x.u < lv.length
  full : ∀ x ∈ lv, x.s ≠ []
  qty : ∀ x ∈ lv, 0 ≤ x.q ∧ x.q ≤ L.length * 4294967296
  pr : LvPr lv

structure SdAt (w : World) (D : Nat) (sd : Int) (S : Sdb) (L : List Ord) (lv : List Lvl) (v : Value) : Prop where
  ld : LdBlk w S.l sd v (ones lv.length)
  sl : SlAt 167 4 lvE w v lv
  fr : Fresh D v
  ff : ∃ nf ef, FfAt w S.q S.n S.e nf ef ∧ Qs nf ef lv L.length
  ok : LvOk sd lv L
  dl : D ≤ S.l
  dq : D ≤ S.q
  dn : D ≤ S.n
  de : D ≤ S.e

def ptr (b : Nat) : Value := .pointer (some ⟨b, 0, none⟩)
structure PB (w : World) (D : Nat) (B : Bkb) (L : List Ord) (lv0 lv1 : List Lvl) (v0 v1 : Value) : Prop where
  blk : w.heap[B.b]? = some (.cells #[ptr B.ar, ptr B.s0.l, ptr B.s0.q, ptr B.s1.l, ptr B.s1.q, ptr B.x] 151 (0, 0))
  ar : ∃ c, ArAt w B.ar c ∧ Hold 60 L.length L c
  ix : ∃ il, XAt w B.x B.m1 B.m2 il ∧ (∀ id, (mLook il (0, id)).isSome = hasId L id) ∧ il.length ≤ L.length
  s0 : SdAt w D 0 B.s0 L lv0 v0
  s1 : SdAt w D 1 B.s1 L lv1 v1
  al : B.s0.l ≠ B.s1.l
  aq : B.s0.q ≠ B.s1.q
  an : B.s0.n ≠ B.s1.n
  ae : B.s0.e ≠ B.s1.e
  av : ∀ g, v0.ownBlock = some g → v1.ownBlock ≠ some g
  db : D ≤ B.b
  da : D ≤ B.ar
  dx : D ≤ B.x
  d1 : D ≤ B.m1
  d2 : D ≤ B.m2

/-- What a block is. -/
def KindIs (w : World) (b t : Nat) : Prop := ∃ cs, w.heap[b]? = some (.cells cs t (0, 0))
theorem KindIs.ne {w : World} {a b t u : Nat} (h : KindIs w a t) (k : KindIs w b u) (hn : t ≠ u) : a ≠ b := by
  rintro rfl
  obtain ⟨_, h⟩ := h
  obtain ⟨_, k⟩ := k
  rw [h] at k; cases k; exact hn rfl
def MapIs (w : World) (b : Nat) : Prop := ∃ es c, w.heap[b]? = some (.map es c)
theorem MapIs.ne {w : World} {a b t : Nat} (h : KindIs w a t) (k : MapIs w b) : a ≠ b := by
  rintro rfl
  obtain ⟨_, h⟩ := h
  obtain ⟨_, _, k⟩ := k
  rw [h] at k; cases k
theorem _root_.Go.Dm.IntsAt.kind {w : World} {b t N : Nat} {c : Nat → Int} (h : IntsAt w b t N c) : KindIs w b t := by
  obtain ⟨cs, h, _⟩ := h; exact ⟨cs, h⟩
theorem _root_.Go.Dm.MapAt.kind {κ ν : Type} {enc : κ → Value} {venc : ν → Value} {w : World} {b : Nat} {l : List (κ × ν)} (h : MapAt enc venc w b l) : MapIs w b := by
  obtain ⟨es, c, h, _⟩ := h; exact ⟨es, c, h⟩
theorem XAt.kind {w : World} {x m1 m2 : Nat} {l : IL} (h : XAt w x m1 m2 l) : KindIs w x 106 := ⟨_, h.blk⟩
theorem XAt.map1 {w : World} {x m1 m2 : Nat} {l : IL} (h : XAt w x m1 m2 l) : MapIs w m1 := h.ents.kind
theorem XAt.map2 {w : World} {x m1 m2 : Nat} {l : IL} (h : XAt w x m1 m2 l) : MapIs w m2 := by obtain ⟨m, h, _⟩ := h.many; exact h.kind
theorem _root_.Go.Dm.SlAt.kind {α : Type} {e sz : Nat} {renc : α → List Value} {w : World} {v : Value} {l : List α} (h : SlAt e sz renc w v l) {g : Nat} (hg : v.ownBlock = some g) : KindIs w g e := h.typed hg

theorem SdAt.chg {w w' : World} {D : Nat} {sd : Int} {S : Sdb} {L : List Ord} {lv : List Lvl} {v : Value} {T : List Nat} (h : SdAt w D sd S L lv v) (hC : Chg T w w') (h0 : S.l ∉ T) (h1 : S.q ∉ T) (h2 : S.n ∉ T) (h3 : S.e ∉ T) (h4 : ∀ g, v.ownBlock = some g → g ∉ T) : SdAt w' D sd S L lv v :=
  ⟨hC.at_ h.ld h0, h.sl.chg hC h4, h.fr, by obtain ⟨nf, ef, hf, hq⟩ := h.ff; exact ⟨nf, ef, hf.chg hC h1 h2 h3, hq⟩, h.ok, h.dl, h.dq, h.dn, h.de⟩

set_option maxHeartbeats 1000000 in
theorem of79_0 (w : World) (b : Nat) :
    Calls Try.prog 79 #[.pointer (some ⟨b, 0, none⟩), .int .i64 0] w fun e w' => e = .returned (.pointer (some ⟨b, 1, none⟩)) ∧ w = w' := by
  go_enter Try.func79, Try.ntmps79
  go_wp2
  go_ret
  exact ⟨rfl, rfl⟩
set_option maxHeartbeats 1000000 in
theorem of79_1 (w : World) (b : Nat) :
    Calls Try.prog 79 #[.pointer (some ⟨b, 0, none⟩), .int .i64 1] w fun e w' => e = .returned (.pointer (some ⟨b, 3, none⟩)) ∧ w = w' := by
  go_enter Try.func79, Try.ntmps79
  go_wp2
  go_ret
  exact ⟨rfl, rfl⟩
set_option maxHeartbeats 1000000 in
theorem of79_no (w : World) (b : Nat) (s : Int) (h0 : s ≠ 0) (h1 : s ≠ 1) :
    Calls Try.prog 79 #[.pointer (some ⟨b, 0, none⟩), .int .i64 s] w fun e w' => e = .returned (.pointer none) ∧ w = w' := by
  have t0 : (s == 0) = false := by simpa using h0
  have t1 : (s == 1) = false := by simpa using h1
  have t2 : (s != 0) = true := by simpa using h0
  have t3 : (s != 1) = true := by simpa using h1
  clear h0 h1
  go_enter Try.func79, Try.ntmps79
  go_wp2
  go_ret
  exact ⟨rfl, rfl⟩
set_option maxHeartbeats 1000000 in
theorem key80 (w : World) (id : Int) :
    Calls Try.prog 80 #[.int .i64 id] w fun e w' => e = .returned (.agg #[.int .i64 0, .int .i64 id]) ∧ Chg [] w w' := by
  go_enter Try.func80, Try.ntmps80
  go_wp2
  exact bodyPost_ret (v := .agg #[.int .i64 0, .int .i64 id]) (by simp [results, Try.f80, go_sem]) rfl ⟨rfl, Chg.alloc _ _ _⟩
end Go.Proofs.Ytdcjfaplgpeonaa

/-
  One more order in a side's levels and queues: the plain law.
-/
namespace Go.Proofs.Ytdcjfaplgpeonaa
open Go.RowKit Go.Dm

theorem insL_perm {α : Type} (l : List α) (i : Nat) (x : α) : (insL l i x).Perm (x :: l) := by
  unfold insL
  have h := List.perm_middle (a := x) (l₁ := l.take i) (l₂ := l.drop i)
  rw [List.take_append_drop] at h
  exact h
theorem insL_mem {α : Type} {l : List α} {i : Nat} {x y : α} : y ∈ insL l i x ↔ y = x ∨ y ∈ l := by
  rw [(insL_perm l i x).mem_iff, List.mem_cons]
theorem app_at {L : List Ord} {o : Ord} {i : Nat} {p : Ord} (h : (L ++ [o])[i]? = some p) : (i < L.length ∧ L[i]? = some p) ∨ (i = L.length ∧ p = o) := by
  rw [List.getElem?_append] at h
  split at h
  · rename_i hi; exact .inl ⟨hi, h⟩
  · rename_i hi
    have : i = L.length := by
      have := (List.getElem?_eq_some_iff.1 h).1
      simp at this; omega
    subst this
    simp at h
    exact .inr ⟨rfl, h.symm⟩
theorem app_old {L : List Ord} {o : Ord} {i : Nat} {p : Ord} (h : L[i]? = some p) : (L ++ [o])[i]? = some p := by
  rw [List.getElem?_append_left (List.getElem?_eq_some_iff.1 h).1]; exact h

theorem LvOk.lt {sd : Int} {lv : List Lvl} {L : List Ord} (h : LvOk sd lv L) {x : Lvl} (hx : x ∈ lv) {i : Nat} (hi : i ∈ x.s) : i < L.length := by
  obtain ⟨o, ho, _⟩ := h.slots x hx i hi
  exact (List.getElem?_eq_some_iff.1 ho).1
/-- An order of the other side. -/
theorem ok_other {sd : Int} {lv : List Lvl} {L : List Ord} {o : Ord} (h : LvOk sd lv L) (ho : o 2 ≠ sd) : LvOk sd lv (L ++ [o]) :=
  ⟨h.sorted, fun x hx i hi => by obtain ⟨p, hp, r⟩ := h.slots x hx i hi; exact ⟨p, app_old hp, r⟩,
   fun i p hp hs => by
    rcases app_at hp with ⟨_, h1⟩ | ⟨_, rfl⟩
    · exact h.all i p h1 hs
    · exact absurd hs ho,
   h.nodup, h.queues, h.qlt, h.full, fun x hx => ⟨(h.qty x hx).1, by have := (h.qty x hx).2; simp; omega⟩, h.pr⟩
theorem qs_other {nf ef : Nat → Int} {lv : List Lvl} {m : Nat} (h : Qs nf ef lv m) : Qs nf ef lv (m + 1) := ⟨h.ends, fun i hi h6 => h.loose i (by omega) h6, h.fresh⟩

theorem key_inj {sd a b : Int} (h : keyS sd a = keyS sd b) : a = b := by
  unfold keyS at h; split at h <;> omega
theorem ins_sorted {sd : Int} {lv : List Lvl} {x : Lvl} {i : Nat} (h : lv.Pairwise (fun a b => keyS sd a.p < keyS sd b.p)) (hp : IsPos sd lv (keyS sd x.p) i) (hno : ∀ y ∈ lv, y.p ≠ x.p) : (insL lv i x).Pairwise (fun a b => keyS sd a.p < keyS sd b.p) := by
  obtain ⟨hi, hlo, hhi⟩ := hp
  have h' := h
  rw [← List.take_append_drop i lv, List.pairwise_append] at h'
  unfold insL
  rw [List.pairwise_append]
  refine ⟨h'.1, ?_, ?_⟩
  · rw [List.pairwise_cons]
    refine ⟨fun y hy => ?_, h'.2.1⟩
    obtain ⟨j, hj⟩ := List.mem_iff_getElem?.1 hy
    rw [List.getElem?_drop] at hj
    have h1 := hhi _ y hj (by omega)
    have h2 := hno y (List.mem_of_getElem? hj)
    rcases Int.lt_or_eq_of_le h1 with h3 | h3
    · exact h3
    · exact absurd (key_inj h3).symm h2
  · intro a ha b hb
    rcases List.mem_cons.1 hb with rfl | hb
    · obtain ⟨j, hj⟩ := List.mem_iff_getElem?.1 ha
      rw [List.getElem?_take] at hj
      split at hj
      · exact hlo _ a hj (by omega)
      · cases hj
    · exact h'.2.2 a ha b hb

/-- A level more. -/
theorem ok_new {sd : Int} {lv : List Lvl} {L : List Ord} {o : Ord} {i : Nat} (h : LvOk sd lv L) (ho : o 2 = sd) (hk : okO o = true) (hp : IsPos sd lv (keyS sd (o 3)) i) (hno : ∀ y ∈ lv, y.p ≠ o 3) :
    LvOk sd (insL lv i ⟨o 3, o 4, 1, lv.length, [L.length]⟩) (L ++ [o]) := by
  have hlen : (insL lv i (⟨o 3, o 4, 1, lv.length, [L.length]⟩ : Lvl)).length = lv.length + 1 := insL_length _ _ _ hp.1
  simp only [okO, Bool.and_eq_true, decide_eq_true_eq] at hk
  refine ⟨ins_sorted h.sorted hp hno, ?_, ?_, ?_, ?_, ?_, ?_, ?_, ?_⟩
  · intro x hx j hj
    rcases insL_mem.1 hx with rfl | hx
    · simp at hj; subst hj; exact ⟨o, by simp, ho, rfl⟩
    · obtain ⟨p, hp, r⟩ := h.slots x hx j hj; exact ⟨p, app_old hp, r⟩
  · intro j p hj hs
    rcases app_at hj with ⟨_, h1⟩ | ⟨rfl, rfl⟩
    · obtain ⟨x, hx, hm⟩ := h.all j p h1 hs; exact ⟨x, insL_mem.2 (.inr hx), hm⟩
    · exact ⟨_, insL_mem.2 (.inl rfl), by simp⟩
  · have hpm := (insL_perm lv i (⟨o 3, o 4, 1, lv.length, [L.length]⟩ : Lvl)).flatMap_right (·.s)
    rw [hpm.nodup_iff]
    simp only [List.flatMap_cons, List.cons_append, List.nil_append, List.nodup_cons]
    refine ⟨fun hm => ?_, h.nodup⟩
    obtain ⟨x, hx, hm⟩ := List.mem_flatMap.1 hm
    have := h.lt hx hm
    omega
  · have hpm := (insL_perm lv i (⟨o 3, o 4, 1, lv.length, [L.length]⟩ : Lvl)).map (·.u)
    rw [hpm.nodup_iff]
    simp only [List.map_cons, List.nodup_cons]
    refine ⟨fun hm => ?_, h.queues⟩
    obtain ⟨x, hx, hm⟩ := List.mem_map.1 hm
    have := h.qlt x hx
    omega
  · intro x hx
    rw [hlen]
    rcases insL_mem.1 hx with rfl | hx
    · simp
    · have := h.qlt x hx; omega
  · intro x hx
    rcases insL_mem.1 hx with rfl | hx
    · simp
    · exact h.full x hx
  · intro x hx
    rcases insL_mem.1 hx with rfl | hx
    · simp; omega
    · have := h.qty x hx; simp; omega
  · intro x hx
    rcases insL_mem.1 hx with rfl | hx
    · exact ⟨hk.2.1.1.1, hk.2.1.1.2⟩
    · exact h.pr x hx

theorem set_mem {lv : List Lvl} {j : Nat} {x y z : Lvl} (_hx : lv[j]? = some x) (h : z ∈ lv.set j y) : z = y ∨ z ∈ lv := by
  have := List.mem_or_eq_of_mem_set h
  exact this.symm
theorem set_perm {lv : List Lvl} {j : Nat} {x y : Lvl} (hx : lv[j]? = some x) : ∃ r, lv.Perm (x :: r) ∧ (lv.set j y).Perm (y :: r) := by
  have hj := (List.getElem?_eq_some_iff.1 hx).1
  have he := (List.getElem?_eq_some_iff.1 hx).2
  refine ⟨lv.take j ++ lv.drop (j + 1), ?_, ?_⟩
  · have h1 : lv = lv.take j ++ x :: lv.drop (j + 1) := by
      rw [← he, List.getElem_cons_drop]; exact (List.take_append_drop j lv).symm
    conv => lhs; rw [h1]
    exact List.perm_middle
  · rw [List.set_eq_take_append_cons_drop, if_pos hj]
    exact List.perm_middle
/-- An order more in a level. -/
theorem ok_old {sd : Int} {lv : List Lvl} {L : List Ord} {o : Ord} {j : Nat} {x : Lvl} (h : LvOk sd lv L) (ho : o 2 = sd) (hk : okO o = true) (hx : lv[j]? = some x) (hp : x.p = o 3) :
    LvOk sd (lv.set j (more x (o 4) (x.s ++ [L.length]))) (L ++ [o]) := by
  have hxm := List.mem_of_getElem? hx
  simp only [okO, Bool.and_eq_true, decide_eq_true_eq] at hk
  obtain ⟨r, hr1, hr2⟩ := set_perm (y := more x (o 4) (x.s ++ [L.length])) hx
  refine ⟨?_, ?_, ?_, ?_, ?_, ?_, ?_, ?_, ?_⟩
  · have e : (lv.set j (more x (o 4) (x.s ++ [L.length]))).map (·.p) = lv.map (·.p) := by
      rw [List.map_set]
      apply List.ext_getElem?
      intro k
      rw [List.getElem?_set]
      split
      · rename_i hk; subst hk
        split
        · simp [hx, more]
        · rename_i hl; rw [List.getElem?_eq_none (by simpa using hl)]
      · rfl
    have h1 := h.sorted
    rw [← List.pairwise_map (f := fun (x : Lvl) => x.p) (R := fun a b => keyS sd a < keyS sd b)] at h1 ⊢
    rw [e]; exact h1
  · intro y hy i hi
    rcases set_mem hx hy with rfl | hy
    · simp only [more, List.mem_append, List.mem_singleton] at hi
      rcases hi with hi | rfl
      · obtain ⟨p, hp1, r⟩ := h.slots x hxm i hi; exact ⟨p, app_old hp1, r⟩
      · exact ⟨o, by simp, ho, hp.symm⟩
    · obtain ⟨p, hp1, r⟩ := h.slots y hy i hi; exact ⟨p, app_old hp1, r⟩
  · intro i p hi hs
    have hmem : ∀ y ∈ lv, y = x ∨ y ∈ r := fun y hy => List.mem_cons.1 (hr1.mem_iff.1 hy)
    rcases app_at hi with ⟨_, h1⟩ | ⟨rfl, rfl⟩
    · obtain ⟨y, hy, hm⟩ := h.all i p h1 hs
      rcases hmem y hy with rfl | hy
      · exact ⟨_, hr2.mem_iff.2 (List.mem_cons_self), by simp [more, hm]⟩
      · exact ⟨y, hr2.mem_iff.2 (List.mem_cons_of_mem _ hy), hm⟩
    · exact ⟨_, hr2.mem_iff.2 (List.mem_cons_self), by simp [more]⟩
  · have h1 := (hr1.flatMap_right (·.s)).nodup_iff.1 h.nodup
    rw [(hr2.flatMap_right (·.s)).nodup_iff]
    simp only [List.flatMap_cons, more] at h1 ⊢
    rw [List.append_assoc, List.nodup_append] at *
    refine ⟨h1.1, ?_, ?_⟩
    · rw [List.singleton_append, List.nodup_cons]
      refine ⟨fun hm => ?_, h1.2.1⟩
      obtain ⟨y, hy, hm⟩ := List.mem_flatMap.1 hm
      have := h.lt (hr1.mem_iff.2 (List.mem_cons_of_mem _ hy)) hm
      omega
    · intro a ha b hb
      rcases List.mem_append.1 hb with hb | hb
      · simp at hb; subst hb
        have := h.lt hxm ha
        omega
      · exact h1.2.2 a ha b hb
  · have h1 := (hr1.map (·.u)).nodup_iff.1 h.queues
    rw [(hr2.map (·.u)).nodup_iff]
    exact h1
  · intro y hy
    rw [List.length_set]
    rcases set_mem hx hy with rfl | hy
    · exact h.qlt x hxm
    · exact h.qlt y hy
  · intro y hy
    rcases set_mem hx hy with rfl | hy
    · simp [more]
    · exact h.full y hy
  · intro y hy
    rcases set_mem hx hy with rfl | hy
    · have := h.qty x hxm; simp [more]; omega
    · have := h.qty y hy; simp; omega
  · intro y hy
    rcases set_mem hx hy with rfl | hy
    · exact h.pr x hxm
    · exact h.pr y hy

theorem upd3_ne {c : Nat → Int} {k j : Nat} {x y z : Int} (h : j < k ∨ k + 3 ≤ j) : upd3 c k x y z j = c j := by
  unfold upd3
  rw [upd_ne (by omega), upd_ne (by omega), upd_ne (by omega)]
theorem links_keep {nf nf' : Nat → Int} : ∀ {s : List Nat}, (∀ a ∈ s, nf' (a * 3 + 1) = nf (a * 3 + 1)) → Links nf s → Links nf' s
  | [], _, _ => trivial
  | [a], h, hl => by simp only [Links] at *; rw [h a (by simp)]; exact hl
  | a :: b :: r, h, hl => by
    simp only [Links] at *
    exact ⟨by rw [h a (by simp)]; exact hl.1, links_keep (fun c hc => h c (List.mem_cons_of_mem _ hc)) hl.2⟩
theorem links_app {nf nf' : Nat → Int} {n : Nat} : ∀ {a : Nat} {r : List Nat}, (a :: r).Nodup → n ∉ a :: r → Links nf (a :: r) → (∀ c ∈ a :: r, c ≠ (a :: r).getLast (by simp) → nf' (c * 3 + 1) = nf (c * 3 + 1)) →
    nf' ((a :: r).getLast (by simp) * 3 + 1) = (n : Nat) → nf' (n * 3 + 1) = -1 → Links nf' (a :: r ++ [n])
  | a, [], _, _, _, _, h1, h2 => by simp only [List.cons_append, List.nil_append, Links]; exact ⟨by simpa using h1, h2⟩
  | a, b :: r, hnd, hn, hl, hk, h1, h2 => by
    simp only [List.cons_append, Links] at *
    rw [List.nodup_cons] at hnd
    have hlast : (a :: b :: r).getLast (by simp) = (b :: r).getLast (by simp) := by simp
    refine ⟨?_, ?_⟩
    · rw [hk a (by simp) ?_]; exact hl.1
      intro e
      rw [hlast] at e
      exact hnd.1 (e ▸ List.getLast_mem _)
    · refine links_app (a := b) (r := r) hnd.2 (fun h => hn (List.mem_cons_of_mem _ h)) hl.2 (fun c hc hne => hk c (List.mem_cons_of_mem _ hc) (by rw [hlast]; exact hne)) ?_ h2
      rw [← hlast]; exact h1

theorem flat_mem_nodup {lv : List Lvl} (h : (lv.flatMap (·.s)).Nodup) {x : Lvl} (hx : x ∈ lv) : x.s.Nodup := by
  induction lv with
  | nil => cases hx
  | cons y l ih =>
    rw [List.flatMap_cons, List.nodup_append] at h
    rcases List.mem_cons.1 hx with rfl | hx
    · exact h.1
    · exact ih h.2.1 hx
theorem flat_apart {lv : List Lvl} (h : (lv.flatMap (·.s)).Nodup) (hu : (lv.map (·.u)).Nodup) {x y : Lvl} (hx : x ∈ lv) (hy : y ∈ lv) (hne : x.u ≠ y.u) {i : Nat} (hi : i ∈ x.s) : i ∉ y.s := by
  induction lv with
  | nil => cases hx
  | cons z l ih =>
    rw [List.flatMap_cons, List.nodup_append] at h
    rw [List.map_cons, List.nodup_cons] at hu
    have hx' := List.mem_cons.1 hx
    have hy' := List.mem_cons.1 hy
    clear hx hy
    rcases hx' with ex | hx
    · rcases hy' with ey | hy
      · exact absurd (by rw [ex, ey]) hne
      · intro hm; exact h.2.2 i (ex ▸ hi) i (List.mem_flatMap.2 ⟨_, hy, hm⟩) rfl
    · rcases hy' with ey | hy
      · intro hm; exact h.2.2 i (ey ▸ hm) i (List.mem_flatMap.2 ⟨_, hx, hi⟩) rfl
      · exact ih h.2.1 hu.2 hx hy

/-- Push into a fresh queue. -/
theorem qs_new {sd : Int} {nf ef : Nat → Int} {lv : List Lvl} {L : List Ord} {i : Nat} {p q : Int} (hi : i ≤ lv.length) (h : Qs nf ef lv L.length) (ok : LvOk sd lv L) :
    Qs (pushN0 nf lv.length L.length) (pushE0 ef lv.length L.length) (insL lv i ⟨p, q, 1, lv.length, [L.length]⟩) (L.length + 1) := by
  have hN : ∀ j, j ≠ L.length → ∀ c, c < 3 → pushN0 nf lv.length L.length (j * 3 + c) = nf (j * 3 + c) := fun j hj c hc => by
    unfold pushN0; exact upd3_ne (by omega)
  have hE : ∀ u, u ≠ lv.length → ∀ c, c < 3 → pushE0 ef lv.length L.length (u * 3 + c) = ef (u * 3 + c) := fun u hu c hc => by
    unfold pushE0
    rw [upd_ne (by omega), upd_ne (by omega), upd_ne (by omega)]
  refine ⟨?_, ?_, ?_⟩
  · intro x hx
    rcases insL_mem.1 hx with rfl | hx
    · refine ⟨L.length, [], rfl, ?_, ?_, ?_⟩
      · unfold pushE0; rw [upd_ne (by simp), upd_ne (by simp)]; simp
      · unfold pushE0; rw [upd_ne (by simp)]; simp
      · simp only [Links]; unfold pushN0 upd3; rw [upd_ne (by omega)]; simp
    · obtain ⟨a, r, hs, h1, h2, h3⟩ := h.ends x hx
      have hu := ok.qlt x hx
      have e0 := hE x.u (by omega) 0 (by omega)
      have e1 := hE x.u (by omega) 1 (by omega)
      simp only [Nat.add_zero] at e0
      refine ⟨a, r, hs, by rw [e0]; exact h1, by rw [e1]; exact h2, links_keep (fun c hc => ?_) h3⟩
      have := ok.lt hx (i := c) (by rw [hs]; exact hc)
      exact hN c (by omega) 1 (by omega)
  · intro j h1 h2
    have hj := h.loose j (by omega) h2
    have e0 := hN j (by omega) 0 (by omega)
    simp only [Nat.add_zero] at e0
    exact ⟨by rw [e0]; exact hj.1, by rw [hN j (by omega) 1 (by omega)]; exact hj.2.1, by rw [hN j (by omega) 2 (by omega)]; exact hj.2.2⟩
  · intro u h1 h2
    rw [insL_length _ _ _ hi] at h1
    rw [hE u (by omega) 1 (by omega)]
    exact h.fresh u (by omega) h2

/-- Push behind others. -/
theorem qs_old {sd : Int} {nf ef : Nat → Int} {lv : List Lvl} {L : List Ord} {j : Nat} {x : Lvl} {q : Int} (hx : lv[j]? = some x) (h : Qs nf ef lv L.length) (ok : LvOk sd lv L) :
    ∃ m : Nat, m < L.length ∧ ef (x.u * 3 + 1) = m ∧ Qs (pushN1 nf x.u m L.length) (pushE1 ef x.u L.length) (lv.set j (more x q (x.s ++ [L.length]))) (L.length + 1) := by
  have hxm := List.mem_of_getElem? hx
  obtain ⟨a, r, hs, h1, h2, h3⟩ := h.ends x hxm
  have hml : (a :: r).getLast (by simp) ∈ x.s := by rw [hs]; exact List.getLast_mem _
  have hm := ok.lt hxm hml
  refine ⟨(a :: r).getLast (by simp), hm, h2, ?_⟩
  generalize hM : (a :: r).getLast (by simp) = m at *
  have hN : ∀ c, c ≠ L.length → c ≠ m → ∀ d, d < 3 → pushN1 nf x.u m L.length (c * 3 + d) = nf (c * 3 + d) := fun c hc hcm d hd => by
    unfold pushN1; rw [upd_ne (by omega)]; exact upd3_ne (by omega)
  have hE : ∀ u, u ≠ x.u → ∀ c, c < 3 → pushE1 ef x.u L.length (u * 3 + c) = ef (u * 3 + c) := fun u hu c hc => by
    unfold pushE1
    rw [upd_ne (by omega), upd_ne (by omega)]
  obtain ⟨rr, hr1, hr2⟩ := set_perm (y := more x q (x.s ++ [L.length])) hx
  have hur := (hr1.map (·.u)).nodup_iff.1 ok.queues
  simp only [List.map_cons, List.nodup_cons] at hur
  refine ⟨?_, ?_, ?_⟩
  · intro y hy
    rcases List.mem_cons.1 (hr2.mem_iff.1 hy) with rfl | hyr
    · refine ⟨a, r ++ [L.length], by simp [more, hs], ?_, ?_, ?_⟩
      · show pushE1 ef x.u L.length (x.u * 3) = _
        unfold pushE1; rw [upd_ne (by omega), upd_ne (by omega)]; exact h1
      · show pushE1 ef x.u L.length (x.u * 3 + 1) = _
        unfold pushE1; rw [upd_ne (by omega), upd_same]
        have : (a :: (r ++ [L.length])).getLast (by simp) = L.length := by
          have e : a :: (r ++ [L.length]) = (a :: r) ++ [L.length] := rfl
          simp only [e, List.getLast_concat]
        rw [this]
      · have hnd := flat_mem_nodup ok.nodup hxm
        rw [hs] at hnd
        refine links_app hnd (fun hm2 => by have := ok.lt hxm (i := L.length) (by rw [hs]; exact hm2); omega) h3 (fun c hc hne => ?_) ?_ ?_
        · have := ok.lt hxm (i := c) (by rw [hs]; exact hc)
          exact hN c (by omega) (by rw [← hM]; exact hne) 1 (by omega)
        · rw [hM]; unfold pushN1; simp
        · unfold pushN1; rw [upd_ne (by omega)]; unfold upd3; rw [upd_ne (by omega)]; simp
    · have hym : y ∈ lv := hr1.mem_iff.2 (List.mem_cons_of_mem _ hyr)
      have hne : y.u ≠ x.u := fun e => hur.1 (e ▸ List.mem_map_of_mem hyr)
      obtain ⟨b, t, hs', g1, g2, g3⟩ := h.ends y hym
      have e0 := hE y.u hne 0 (by omega)
      have e1 := hE y.u hne 1 (by omega)
      simp only [Nat.add_zero] at e0
      refine ⟨b, t, hs', by rw [e0]; exact g1, by rw [e1]; exact g2, links_keep (fun c hc => ?_) g3⟩
      have hcy : c ∈ y.s := by rw [hs']; exact hc
      have := ok.lt hym hcy
      refine hN c (by omega) (fun e => ?_) 1 (by omega)
      subst e
      exact flat_apart ok.nodup ok.queues hxm hym (fun e => hne e.symm) hml hcy
  · intro c g1 g2
    have hc := h.loose c (by omega) g2
    have e0 := hN c (by omega) (by omega) 0 (by omega)
    simp only [Nat.add_zero] at e0
    exact ⟨by rw [e0]; exact hc.1, by rw [hN c (by omega) (by omega) 1 (by omega)]; exact hc.2.1, by rw [hN c (by omega) (by omega) 2 (by omega)]; exact hc.2.2⟩
  · intro u g1 g2
    rw [List.length_set] at g1
    have := ok.qlt x hxm
    rw [hE u (by omega) 1 (by omega)]
    exact h.fresh u g1 g2

theorem lv_len {sd : Int} {lv : List Lvl} {L : List Ord} (ok : LvOk sd lv L) : lv.length ≤ L.length := by
  have h1 : ∀ l : List Lvl, (∀ x ∈ l, x.s ≠ []) → l.length ≤ (l.flatMap (·.s)).length := by
    intro l
    induction l with
    | nil => intro _; simp
    | cons y l ih =>
      intro h
      have h1 := ih (fun x hx => h x (List.mem_cons_of_mem _ hx))
      have h2 : 0 < y.s.length := List.length_pos_iff.2 (h y (by simp))
      simp only [List.flatMap_cons, List.length_append, List.length_cons]
      omega
  have h2 : (lv.flatMap (·.s)).length ≤ L.length := by
    have hs : (lv.flatMap (·.s)) ⊆ List.range L.length := fun i hi => by
      obtain ⟨x, hx, hm⟩ := List.mem_flatMap.1 hi
      exact List.mem_range.2 (ok.lt hx hm)
    have := List.Nodup.length_le_of_subset ok.nodup hs
    simpa using this
  exact Nat.le_trans (h1 lv ok.full) h2
end Go.Proofs.Ytdcjfaplgpeonaa

/-
  The program's book: Fits, Room, Add.
-/
namespace Go.Proofs.Ytdcjfaplgpeonaa
open Go.RowKit Go.Dm

/-- The cells of the book that a side's work reads. -/
structure BC (w : World) (b off ar x : Nat) (S : Sdb) : Prop where
  kind : KindIs w b 151
  c0 : w.cell? ⟨b, 0, none⟩ = some (.pointer (some ⟨ar, 0, none⟩))
  c5 : w.cell? ⟨b, 5, none⟩ = some (.pointer (some ⟨x, 0, none⟩))
  cl : w.cell? ⟨b, off, none⟩ = some (.pointer (some ⟨S.l, 0, none⟩))
  cq : w.cell? ⟨b, off + 1, none⟩ = some (.pointer (some ⟨S.q, 0, none⟩))
theorem BC.chg {w w' : World} {b off ar x : Nat} {S : Sdb} {T : List Nat} (h : BC w b off ar x S) (hC : Chg T w w') (hb : b ∉ T) : BC w' b off ar x S :=
  ⟨by obtain ⟨cs, hk⟩ := h.kind; exact ⟨cs, hC.at_ hk hb⟩, hC.cell h.c0 hb, hC.cell h.c5 hb, hC.cell h.cl hb, hC.cell h.cq hb⟩
def OfIs (b off : Nat) (sd : Int) : Prop := ∀ w : World, Calls Try.prog 79 #[.pointer (some ⟨b, 0, none⟩), .int .i64 sd] w fun e w' => e = .returned (.pointer (some ⟨b, off, none⟩)) ∧ w = w'

set_option maxRecDepth 100000 in
set_option maxHeartbeats 2000000 in
theorem fits97 (w : World) (b off ar x : Nat) (S : Sdb) (sd : Int) (hB : BC w b off ar x S) (hof : OfIs b off sd) (D : Nat) (L : List Ord) (lv : List Lvl) (v : Value) (hS : SdAt w D sd S L lv v) (hlen : L.length < 60) (p : Int) (hp : PrOk p) :
    Calls Try.prog 97 #[.pointer (some ⟨b, 0, none⟩), .int .i64 sd, .int .i64 p] w fun e w' => e = .returned (.bool true) ∧ Chg [] w w' := by
  have hll := lv_len hS.ok
  have hf := fits119 w S.l sd _ lv ⟨v, hS.ld, hS.sl⟩ hS.ok.pr hS.ok.sorted (by omega) p hp
  have cl := hB.cl
  go_enter Try.func97, Try.ntmps97
  go_wp2_with fail
  refine (hof w).mono ?_
  rintro e w' ⟨rfl, rfl⟩
  go_wp2_with fail
  refine hf.mono ?_
  rintro e w' ⟨rfl, hC⟩
  clear hf
  go_wp2
  go_ret
  exact ⟨rfl, hC⟩

set_option maxRecDepth 100000 in
set_option maxHeartbeats 2000000 in
theorem room81 (w : World) (b off ar x : Nat) (S : Sdb) (sd : Int) (hB : BC w b off ar x S) (hof : OfIs b off sd) (D : Nat) (L : List Ord) (lv : List Lvl) (v : Value) (hS : SdAt w D sd S L lv v) (hlen : L.length < 60) (p : Int) (hp : PrOk p)
    (c : Nat → Int) (hA : ArAt w ar c) (hH : Hold 60 L.length L c) :
    Calls Try.prog 81 #[.pointer (some ⟨b, 0, none⟩), .int .i64 sd, .int .i64 p] w fun e w' => e = .returned (.bool true) ∧ Chg [] w w' := by
  have hf := fits97 w b off ar x S sd hB hof D L lv v hS hlen p hp
  have e1 : c 4000 - c 4002 = 60 - (L.length : Int) := by rw [hH.size, hH.used]; rfl
  have d1 : decide ((L.length : Int) < 60) = true := by simp; omega
  have hr := fun W (hC : Chg [] w W) => room09 W ar c (hA.chg hC (by simp)) (by rw [e1]; exact IntWalk.i64_in _ (by omega))
  rw [e1] at hr
  have c0 := hB.c0
  have HR := Lib.hid hr
  clear hr e1
  go_enter Try.func81, Try.ntmps81
  go_wp2_with fail
  refine hf.mono ?_
  rintro e W ⟨rfl, hC⟩
  have c0 := hC.cell c0 (by simp)
  have hr := HR.out W hC
  clear hf
  go_wp2_with fail
  refine hr.mono ?_
  rintro e W2 ⟨rfl, hC2⟩
  clear hr
  go_wp2
  go_ret
  exact ⟨rfl, hC.trans hC2⟩

/-- Push finds the side's queues as they must be. -/
def PushOk (S : Sdb) (lv lv' : List Lvl) (m : Nat) (q : Nat) : Prop := ∀ (w : World) (nf ef : Nat → Int), FfAt w S.q S.n S.e nf ef → Qs nf ef lv m →
  Calls Try.prog 83 #[.pointer (some ⟨S.q, 0, none⟩), .int .i64 q, .int .i64 m] w fun e w' => e = .returned (.bool true) ∧ (∃ nf' ef', FfAt w' S.q S.n S.e nf' ef' ∧ Qs nf' ef' lv' (m + 1)) ∧ Chg [S.n, S.e] w w'
def PutAny (w : World) (sd : Int) (S : Sdb) (L : List Ord) (lv : List Lvl) (v : Value) (o : Ord) (e : Ending) (w' : World) : Prop :=
  ∃ lv' v' q, e = .returned (.tuple #[.int .i64 (q : Nat), .int .i64 0]) ∧ LdBlk w' S.l sd v' (ones lv'.length) ∧ SlAt 167 4 lvE w' v' lv' ∧ LvOk sd lv' (L ++ [o]) ∧ PushOk S lv lv' L.length q ∧
    Chg (S.l :: ownL v) w w' ∧ (v'.ownBlock = v.ownBlock ∨ ∃ g, v'.ownBlock = some g ∧ w.heap.size ≤ g)

theorem put_any (w : World) (D : Nat) (sd : Int) (S : Sdb) (L : List Ord) (lv : List Lvl) (v : Value) (hS : SdAt w D sd S L lv v) (hlen : L.length < 60) (o : Ord) (ho : o 2 = sd) (hok : okO o = true) :
    Calls Try.prog 82 #[.pointer (some ⟨S.l, 0, none⟩), .int .i64 (o 3), .int .i64 (o 4)] w (PutAny w sd S L lv v o) := by
  have hll := lv_len hS.ok
  have hok2 := hok
  simp only [okO, Bool.and_eq_true, decide_eq_true_eq] at hok2
  obtain ⟨_, ⟨⟨hp1, hp2⟩, hq1⟩, hq2⟩ := hok2
  by_cases hex : ∃ (j : Nat) (x : Lvl), lv[j]? = some x ∧ x.p = o 3
  · obtain ⟨j, x, hx, hxp⟩ := hex
    have hq := hS.ok.qty x (List.mem_of_getElem? hx)
    have h := lput_old w S.l sd lv v hS.ld hS.sl hS.ok.pr hS.ok.sorted (by omega) (o 4) hq1 (by omega) j x hx hq.1 (by omega) (x.s ++ [L.length])
    rw [hxp] at h
    refine h.mono ?_
    rintro e w' ⟨v', rfl, h1, h2, h3, h4⟩
    refine ⟨_, v', x.u, rfl, by rw [List.length_set]; exact h1, h2, ok_old hS.ok ho hok hx hxp, ?_, h3, h4⟩
    intro w1 nf ef hf hqs
    obtain ⟨m, hm, he, hqs'⟩ := qs_old (q := o 4) hx hqs hS.ok
    have hu := hS.ok.qlt x (List.mem_of_getElem? hx)
    refine (push1 w1 S.q S.n S.e nf ef hf x.u L.length m (by omega) (by omega) (by omega) (by omega) (hqs.loose _ (Nat.le_refl _) (by omega)) he).mono ?_
    rintro e w2 ⟨rfl, g1, g2⟩
    exact ⟨rfl, ⟨_, _, g1, hqs'⟩, g2⟩
  · have hno : ∀ x ∈ lv, x.p ≠ o 3 := fun x hx e => by
      obtain ⟨j, hj⟩ := List.mem_iff_getElem?.1 hx
      exact hex ⟨j, x, hj, e⟩
    refine (lput_new w S.l sd lv v hS.ld hS.sl hS.ok.pr hS.ok.sorted (by omega) (o 3) (o 4) ⟨hp1, hp2⟩ hq1 hno [L.length]).mono ?_
    rintro e w' ⟨i, hi, v', rfl, h1, h2, h3, h4⟩
    refine ⟨_, v', lv.length, rfl, by rw [insL_length _ _ _ hi.1]; exact h1, h2, ok_new hS.ok ho hok hi hno, ?_, h3, h4⟩
    intro w1 nf ef hf hqs
    refine (push0 w1 S.q S.n S.e nf ef hf lv.length L.length (by omega) (by omega) (hqs.loose _ (Nat.le_refl _) (by omega)) (hqs.fresh _ (Nat.le_refl _) (by omega))).mono ?_
    rintro e w2 ⟨rfl, g1, g2⟩
    exact ⟨rfl, ⟨_, _, g1, qs_new hi.1 hqs hS.ok⟩, g2⟩
end Go.Proofs.Ytdcjfaplgpeonaa
