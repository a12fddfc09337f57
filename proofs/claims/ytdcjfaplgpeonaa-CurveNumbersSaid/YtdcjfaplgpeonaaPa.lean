/-
  The program's book: what lies in memory; of, key, Fits, Room.
-/
import Derived.Test.YtdcjfaplgpeonaaNd
import Derived.Test.YtdcjfaplgpeonaaIx
namespace Go.Proofs.Ytdcjfaplgpeonaa
open Go.RowKit Go.Dm

/-- The blocks of a side, and of a book. -/
structure Sdb where
  l : Nat
  q : Nat
  n : Nat
  e : Nat
structure Bkb where
  b : Nat
  ar : Nat
  x : Nat
  m1 : Nat
  m2 : Nat
  s0 : Sdb
  s1 : Sdb

/-- The nodes of a queue, from the first to the last. -/
def Links (nf : Nat → Int) : List Nat → Prop
  | [] => True
  | [a] => nf (a * 3 + 1) = -1
  | a :: b :: r => nf (a * 3 + 1) = (b : Nat) ∧ Links nf (b :: r)
structure Qs (nf ef : Nat → Int) (lv : List Lvl) (m : Nat) : Prop where
  ends : ∀ x ∈ lv, ∃ a r, x.s = a :: r ∧ ef (x.u * 3) = (a : Nat) ∧ ef (x.u * 3 + 1) = ((a :: r).getLast (by simp) : Nat) ∧ Links nf (a :: r)
  loose : ∀ i, m ≤ i → i < 60 → Loose nf i
  fresh : ∀ u, lv.length ≤ u → u < 60 → ef (u * 3 + 1) = -1
/-- The levels of a side are those of its orders. -/
structure LvOk (sd : Int) (lv : List Lvl) (L : List Ord) : Prop where
  sorted : lv.Pairwise (fun a b => keyS sd a.p < keyS sd b.p)
  slots : ∀ x ∈ lv, ∀ i ∈ x.s, ∃ o, L[i]? = some o ∧ o 2 = sd ∧ o 3 = x.p
  all : ∀ (i : Nat) o, L[i]? = some o → o 2 = sd → ∃ x ∈ lv, i ∈ x.s
  nodup : (lv.flatMap (·.s)).Nodup
  queues : (lv.map (·.u)).Nodup
  qlt : ∀ x ∈ lv, x.u < lv.length
  full : ∀ x ∈ lv, x.s ≠ []
  qty : ∀ x ∈ lv, 0 ≤ x.q ∧ x.q ≤ L.length * 4294967296
  pr : LvPr lv

structure SdAt (w : World) (D : Nat) (sd : Int) (S : Sdb) (L : List Ord) (lv : List Lvl) (v : Value) : Prop where
  ld : LdBlk w S.l sd v (ones lv.length)
  sl : SlAt 167 4 lvE w v lv
  fr : Fresh D v
  ff : ∃ nf ef, FfAt w S.q S.n S.e nf ef ∧ Qs nf ef lv L.length
  ok : LvOk sd lv L
  dl : D ≤ S.l
  dq : D ≤ S.q
  dn : D ≤ S.n
  de : D ≤ S.e

def ptr (b : Nat) : Value := .pointer (some ⟨b, 0, none⟩)
structure PB (w : World) (D : Nat) (B : Bkb) (L : List Ord) (lv0 lv1 : List Lvl) (v0 v1 : Value) : Prop where
  blk : w.heap[B.b]? = some (.cells #[ptr B.ar, ptr B.s0.l, ptr B.s0.q, ptr B.s1.l, ptr B.s1.q, ptr B.x] 151 (0, 0))
  ar : ∃ c, ArAt w B.ar c ∧ Hold 60 L.length L c
  ix : ∃ il, XAt w B.x B.m1 B.m2 il ∧ (∀ id, (mLook il (0, id)).isSome = hasId L id) ∧ il.length ≤ L.length
  s0 : SdAt w D 0 B.s0 L lv0 v0
  s1 : SdAt w D 1 B.s1 L lv1 v1
  al : B.s0.l ≠ B.s1.l
  aq : B.s0.q ≠ B.s1.q
  an : B.s0.n ≠ B.s1.n
  ae : B.s0.e ≠ B.s1.e
  av : ∀ g, v0.ownBlock = some g → v1.ownBlock ≠ some g
  db : D ≤ B.b
  da : D ≤ B.ar
  dx : D ≤ B.x
  d1 : D ≤ B.m1
  d2 : D ≤ B.m2

/-- What a block is. -/
def KindIs (w : World) (b t : Nat) : Prop := ∃ cs, w.heap[b]? = some (.cells cs t (0, 0))
theorem KindIs.ne {w : World} {a b t u : Nat} (h : KindIs w a t) (k : KindIs w b u) (hn : t ≠ u) : a ≠ b := by
  rintro rfl
  obtain ⟨_, h⟩ := h
  obtain ⟨_, k⟩ := k
  rw [h] at k; cases k; exact hn rfl
def MapIs (w : World) (b : Nat) : Prop := ∃ es c, w.heap[b]? = some (.map es c)
theorem MapIs.ne {w : World} {a b t : Nat} (h : KindIs w a t) (k : MapIs w b) : a ≠ b := by
  rintro rfl
  obtain ⟨_, h⟩ := h
  obtain ⟨_, _, k⟩ := k
  rw [h] at k; cases k
theorem _root_.Go.Dm.IntsAt.kind {w : World} {b t N : Nat} {c : Nat → Int} (h : IntsAt w b t N c) : KindIs w b t := by
  obtain ⟨cs, h, _⟩ := h; exact ⟨cs, h⟩
theorem _root_.Go.Dm.MapAt.kind {κ ν : Type} {enc : κ → Value} {venc : ν → Value} {w : World} {b : Nat} {l : List (κ × ν)} (h : MapAt enc venc w b l) : MapIs w b := by
  obtain ⟨es, c, h, _⟩ := h; exact ⟨es, c, h⟩
theorem XAt.kind {w : World} {x m1 m2 : Nat} {l : IL} (h : XAt w x m1 m2 l) : KindIs w x 106 := ⟨_, h.blk⟩
theorem XAt.map1 {w : World} {x m1 m2 : Nat} {l : IL} (h : XAt w x m1 m2 l) : MapIs w m1 := h.ents.kind
theorem XAt.map2 {w : World} {x m1 m2 : Nat} {l : IL} (h : XAt w x m1 m2 l) : MapIs w m2 := by obtain ⟨m, h, _⟩ := h.many; exact h.kind
theorem _root_.Go.Dm.SlAt.kind {α : Type} {e sz : Nat} {renc : α → List Value} {w : World} {v : Value} {l : List α} (h : SlAt e sz renc w v l) {g : Nat} (hg : v.ownBlock = some g) : KindIs w g e := h.typed hg

theorem SdAt.chg {w w' : World} {D : Nat} {sd : Int} {S : Sdb} {L : List Ord} {lv : List Lvl} {v : Value} {T : List Nat} (h : SdAt w D sd S L lv v) (hC : Chg T w w') (h0 : S.l ∉ T) (h1 : S.q ∉ T) (h2 : S.n ∉ T) (h3 : S.e ∉ T) (h4 : ∀ g, v.ownBlock = some g → g ∉ T) : SdAt w' D sd S L lv v :=
  ⟨hC.at_ h.ld h0, h.sl.chg hC h4, h.fr, by obtain ⟨nf, ef, hf, hq⟩ := h.ff; exact ⟨nf, ef, hf.chg hC h1 h2 h3, hq⟩, h.ok, h.dl, h.dq, h.dn, h.de⟩

set_option maxHeartbeats 1000000 in
theorem of79_0 (w : World) (b : Nat) :
    Calls Try.prog 79 #[.pointer (some ⟨b, 0, none⟩), .int .i64 0] w fun e w' => e = .returned (.pointer (some ⟨b, 1, none⟩)) ∧ w = w' := by
  go_enter Try.func79, Try.ntmps79
  go_wp2
  go_ret
  exact ⟨rfl, rfl⟩
set_option maxHeartbeats 1000000 in
theorem of79_1 (w : World) (b : Nat) :
    Calls Try.prog 79 #[.pointer (some ⟨b, 0, none⟩), .int .i64 1] w fun e w' => e = .returned (.pointer (some ⟨b, 3, none⟩)) ∧ w = w' := by
  go_enter Try.func79, Try.ntmps79
  go_wp2
  go_ret
  exact ⟨rfl, rfl⟩
set_option maxHeartbeats 1000000 in
theorem of79_no (w : World) (b : Nat) (s : Int) (h0 : s ≠ 0) (h1 : s ≠ 1) :
    Calls Try.prog 79 #[.pointer (some ⟨b, 0, none⟩), .int .i64 s] w fun e w' => e = .returned (.pointer none) ∧ w = w' := by
  have t0 : (s == 0) = false := by simpa using h0
  have t1 : (s == 1) = false := by simpa using h1
  have t2 : (s != 0) = true := by simpa using h0
  have t3 : (s != 1) = true := by simpa using h1
  clear h0 h1
  go_enter Try.func79, Try.ntmps79
  go_wp2
  go_ret
  exact ⟨rfl, rfl⟩
set_option maxHeartbeats 1000000 in
theorem key80 (w : World) (id : Int) :
    Calls Try.prog 80 #[.int .i64 id] w fun e w' => e = .returned (.agg #[.int .i64 0, .int .i64 id]) ∧ Chg [] w w' := by
  go_enter Try.func80, Try.ntmps80
  go_wp2
  exact bodyPost_ret (v := .agg #[.int .i64 0, .int .i64 id]) (by simp [results, Try.f80, go_sem]) rfl ⟨rfl, Chg.alloc _ _ _⟩
end Go.Proofs.Ytdcjfaplgpeonaa
