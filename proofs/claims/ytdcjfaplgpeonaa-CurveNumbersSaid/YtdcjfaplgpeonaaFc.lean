/-
  A new ladder; a new book.
-/
import Derived.Test.YtdcjfaplgpeonaaFb
namespace Go.Proofs.Ytdcjfaplgpeonaa
open Go.RowKit Go.Dm

/-- A level: price, quantity, how many orders, its queue; and the slots that stand in the queue. -/
structure Lvl where
  p : Int
  q : Int
  n : Int
  u : Nat
  s : List Nat
def lvE (x : Lvl) : List Value := [.int .i64 x.p, .int .i64 x.q, .int .i64 x.n, .int .i64 x.u]
theorem lvR : REnc 4 lvE := ⟨fun _ => rfl, fun a u hu => by simp [lvE] at hu; rcases hu with rfl | rfl | rfl | rfl <;> rfl⟩
theorem elem175 : ElemIs Try.prog 175 167 4 32 := ⟨Try.underlying175, by
  obtain ⟨i, hi, hz, h1, h2⟩ := info_parts (show (Try.prog.info? 167).map (fun i => (i.zero, i.size, i.bytes)) = some (some (.agg #[.int .i64 0, .int .i64 0, .int .i64 0, .int .i64 0]), 4, 32) by kernel_rfl)
  exact ⟨i, _, hi, hz, h1, h2, rfl⟩, by decide⟩
theorem lvs_at {w : World} {g n c : Nat} {l : List Lvl} (h : SlAt 167 4 lvE w (.slice (some ⟨g, 0, none⟩) n c) l) {k : Nat} {x : Lvl} (hp : l[k]? = some x) :
    w.cell? ⟨g, k * 4, none⟩ = some (.int .i64 x.p) ∧ w.cell? ⟨g, k * 4 + 1, none⟩ = some (.int .i64 x.q) ∧ w.cell? ⟨g, k * 4 + 2, none⟩ = some (.int .i64 x.n) ∧ w.cell? ⟨g, k * 4 + 3, none⟩ = some (.int .i64 x.u) :=
  ⟨h.at_ lvR hp (j := 0) (by omega), h.at_ lvR hp (j := 1) (by omega), h.at_ lvR hp (j := 2) (by omega), h.at_ lvR hp (j := 3) (by omega)⟩

/-- A side's ladder in block r: its levels; the queues below u's bits are taken. -/
def LdBlk (w : World) (r : Nat) (sd : Int) (v : Value) (u : Nat) : Prop := w.heap[r]? = some (.cells #[.int .i64 sd, .int .i64 60, v, .int .u64 u, .int .u64 0, .int .u64 0, .int .u64 0] 179 (0, 0))
def LdAt (w : World) (r : Nat) (sd : Int) (l : List Lvl) (u : Nat) : Prop := ∃ v, LdBlk w r sd v u ∧ SlAt 167 4 lvE w v l

set_option maxHeartbeats 1000000 in
theorem lnew (w : World) (sd : Int) (hs : sd = 0 ∨ sd = 1) :
    Calls Try.prog 77 #[.int .i64 sd, .int .i64 60] w fun e w' => e = .returned (.tuple #[.pointer (some ⟨w.heap.size, 0, none⟩), .int .i64 0]) ∧ LdAt w' w.heap.size sd [] 0 ∧ Chg [] w w' := by
  rcases hs with rfl | rfl
  all_goals
    go_enter Try.func77, Try.ntmps77
    go_wp2
    go_ret2
    exact ⟨rfl, ⟨_, heap_alloc_new w _, SlAt.nil _ _ _ _⟩, Chg.alloc _ _ _⟩

/-- The program's book: the blocks of its parts. -/
structure Bks where
  b : Nat
  ar : Nat
  l0 : Nat
  q0 : Nat
  l1 : Nat
  q1 : Nat
  ix : Nat

theorem blk6 {w : World} {b : Nat} {u0 u1 u2 u3 u4 u5 : Value} {t : TypeId} {fr : Nat × Nat} (h : w.heap[b]? = some (.cells #[u0, u1, u2, u3, u4, u5] t fr)) :
    w.cell? ⟨b, 0, none⟩ = some u0 ∧ w.cell? ⟨b, 1, none⟩ = some u1 ∧ w.cell? ⟨b, 2, none⟩ = some u2 ∧ w.cell? ⟨b, 3, none⟩ = some u3 ∧ w.cell? ⟨b, 4, none⟩ = some u4 ∧ w.cell? ⟨b, 5, none⟩ = some u5 := by
  simp [World.cell?, h]

end Go.Proofs.Ytdcjfaplgpeonaa
