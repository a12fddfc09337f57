/-
  The reference's book (a list of orders): New, Find, Fits, Room, Add.
-/
import Derived.Test.YtdcjfaplgpeonaaAc
import Derived.Test.YtdcjfaplgpeonaaEa
import Derived.Deep.CutBlock
import Derived.Deep.DeepCutAuto
namespace Go.Proofs.Ytdcjfaplgpeonaa
open Go.RowKit Go.Dm

abbrev Ord := Nat → Int
def oE (o : Ord) : List Value := [.int .i64 (o 0), .int .i64 (o 1), .int .i64 (o 2), .int .i64 (o 3), .int .i64 (o 4), .int .i64 (o 5), .int .i64 (o 6)]
theorem oR : REnc 7 oE := ⟨fun _ => rfl, fun a u hu => by simp [oE] at hu; rcases hu with rfl | rfl | rfl | rfl | rfl | rfl | rfl <;> rfl⟩
theorem elem43 : ElemIs Try.prog 43 52 7 56 := ⟨Try.underlying43, by
  obtain ⟨i, hi, hz, h1, h2⟩ := info_parts (show (Try.prog.info? 52).map (fun i => (i.zero, i.size, i.bytes)) = some (some (.agg #[.int .i64 0, .int .i64 0, .int .i64 0, .int .i64 0, .int .i64 0, .int .i64 0, .int .i64 0]), 7, 56) by kernel_rfl)
  exact ⟨i, _, hi, hz, h1, h2, rfl⟩, by decide⟩
theorem ords_at {w : World} {g n c : Nat} {l : List Ord} (h : SlAt 52 7 oE w (.slice (some ⟨g, 0, none⟩) n c) l) {k : Nat} {o : Ord} (hp : l[k]? = some o) :
    w.cell? ⟨g, k * 7, none⟩ = some (.int .i64 (o 0)) ∧ w.cell? ⟨g, k * 7 + 1, none⟩ = some (.int .i64 (o 1)) ∧ w.cell? ⟨g, k * 7 + 2, none⟩ = some (.int .i64 (o 2)) ∧ w.cell? ⟨g, k * 7 + 3, none⟩ = some (.int .i64 (o 3)) ∧
    w.cell? ⟨g, k * 7 + 4, none⟩ = some (.int .i64 (o 4)) ∧ w.cell? ⟨g, k * 7 + 5, none⟩ = some (.int .i64 (o 5)) ∧ w.cell? ⟨g, k * 7 + 6, none⟩ = some (.int .i64 (o 6)) :=
  ⟨h.at_ oR hp (j := 0) (by omega), h.at_ oR hp (j := 1) (by omega), h.at_ oR hp (j := 2) (by omega), h.at_ oR hp (j := 3) (by omega), h.at_ oR hp (j := 4) (by omega), h.at_ oR hp (j := 5) (by omega), h.at_ oR hp (j := 6) (by omega)⟩

/-- The reference's book in block r: 60 slots, 60 levels, these orders. -/
def BkR (w : World) (r : Nat) (l : List Ord) : Prop := ∃ v, w.heap[r]? = some (.cells #[.int .i64 60, .int .i64 60, v] 127 (0, 0)) ∧ SlAt 52 7 oE w v l
theorem BkR.lt {w : World} {r : Nat} {l : List Ord} (h : BkR w r l) : r < w.heap.size := by obtain ⟨v, h, _⟩ := h; exact blk_lt h
theorem BkR.chg {w w' : World} {r : Nat} {l : List Ord} {S : List Nat} (h : BkR w r l) (hc : Chg S w w') (h0 : r ∉ S) (h1 : ∀ k ∈ S, w.heap.size ≤ k ∨ ∃ o, w.heap[k]? = some o ∧ ∀ cs, o ≠ .cells cs 52 (0, 0)) : BkR w' r l := by
  obtain ⟨v, h, hs⟩ := h
  refine ⟨v, hc.at_ h h0, hs.chg hc fun g hg hm => ?_⟩
  obtain ⟨cur, hcur⟩ := hs.typed hg
  rcases h1 g hm with h | ⟨o, ho, hne⟩
  · have := hs.lt hg; omega
  · rw [hcur] at ho; cases ho; exact hne _ rfl
theorem blk3 {w : World} {b : Nat} {u v x : Value} {t : TypeId} {fr : Nat × Nat} (h : w.heap[b]? = some (.cells #[u, v, x] t fr)) : w.cell? ⟨b, 0, none⟩ = some u ∧ w.cell? ⟨b, 1, none⟩ = some v ∧ w.cell? ⟨b, 2, none⟩ = some x := by
  simp [World.cell?, h]

set_option maxHeartbeats 1000000 in
theorem rbnew (w : World) : Calls Try.prog 65 #[.int .i64 60, .int .i64 60] w fun e w' => e = .returned (.tuple #[.pointer (some ⟨w.heap.size, 0, none⟩), .int .i64 0]) ∧ BkR w' w.heap.size [] ∧ Chg [] w w' := by
  go_enter Try.func65, Try.ntmps65
  go_wp2
  go_ret2
  exact ⟨rfl, ⟨_, heap_alloc_new w _, SlAt.nil _ _ _ _⟩, Chg.alloc _ _ _⟩

set_option maxHeartbeats 1000000 in
theorem sided_any (w : World) (n : Int) : Calls Try.prog 84 #[.int .i64 n] w fun e w' => e = .returned (.bool (decide (n = 0 ∨ n = 1))) ∧ w = w' := by
  by_cases h0 : n = 0
  · subst h0
    go_enter Try.func84, Try.ntmps84
    go_wp2
    go_ret
    exact ⟨rfl, rfl⟩
  · have t0 : (n == 0) = false := by simpa using h0
    by_cases h1 : n = 1
    · subst h1
      clear h0 t0
      go_enter Try.func84, Try.ntmps84
      go_wp2
      go_ret
      exact ⟨rfl, rfl⟩
    · have t1 : (n == 1) = false := by simpa using h1
      have hd : decide (n = 0 ∨ n = 1) = false := by simp [h0, h1]
      rw [hd]
      clear h0 h1 hd
      go_enter Try.func84, Try.ntmps84
      go_wp2
      go_ret
      exact ⟨rfl, rfl⟩

/-- Has an order of these that ID? -/
def hasId (l : List Ord) (id : Int) : Bool := l.any (fun o => decide (o 0 = id))

set_option maxHeartbeats 1000000 in
theorem rbfind (w : World) (r : Nat) (l : List Ord) (h : BkR w r l) (id : Int) (hlen : l.length ≤ 1000) :
    Calls Try.prog 85 #[.pointer (some ⟨r, 0, none⟩), .int .i64 id] w fun e w' => (∃ n : Int, e = .returned (.int .i64 n) ∧ decide (n ≥ 0) = hasId l id) ∧ w = w' := by
  obtain ⟨v, hb, hs⟩ := h
  obtain ⟨A, c, rfl, _, hA⟩ := hs.form
  obtain ⟨_, _, c2⟩ := blk3 hb
  go_enter Try.func85, Try.ntmps85
  go_wp2
  go_loop [5] (fun i => ∃ k : Nat, k ≤ l.length ∧ i = .int .i64 k ∧ ∀ j, j < k → ∀ p, l[j]? = some p → p 0 ≠ id) (fun i => l.length - (intOf i).toNat)
  case atStart => exact ⟨0, Nat.zero_le _, rfl, fun j hj => by omega⟩
  case round =>
    obtain ⟨k, hk, rfl, hno⟩ := hrel
    have A1 := Lib.hid hno
    clear hno
    by_cases hlt : k < l.length
    · obtain ⟨g, rfl⟩ := hA (by omega)
      obtain ⟨o, hp⟩ : ∃ p, l[k]? = some p := ⟨l[k], by simp [hlt]⟩
      obtain ⟨e0, _⟩ := ords_at hs hp
      have B := Lib.hid hp
      clear hp hs
      by_cases h1 : o 0 = id
      · have t1 : (o 0 == id) = true := by rw [beq_iff_eq]; exact h1
        have C := Lib.hid h1
        clear h1
        go_wp2
        go_ret
        refine ⟨⟨_, rfl, ?_⟩, rfl⟩
        have : hasId l id = true := List.any_eq_true.2 ⟨o, List.mem_of_getElem? B.out, by simp [C.out]⟩
        rw [this]; simp
      · have t1 : (o 0 == id) = false := by rw [beq_eq_false_iff_ne]; exact h1
        have C := Lib.hid h1
        clear h1
        go_wp2
        go_round
        case rel =>
          refine ⟨k + 1, by omega, by go_num, fun j hj p hp => ?_⟩
          by_cases e : j = k
          · subst e; rw [B.out] at hp; cases hp; exact C.out
          · exact A1.out j (by omega) p hp
        case measure => simp [intOf]; omega
    · go_wp2
      go_ret
      refine ⟨⟨_, rfl, ?_⟩, rfl⟩
      have : hasId l id = false := by
        rw [hasId, List.any_eq_false]
        intro o ho
        obtain ⟨j, hj⟩ := List.mem_iff_getElem?.1 ho
        simpa using A1.out j (by have := (List.getElem?_eq_some_iff.1 hj).1; omega) o hj
      rw [this]; simp
end Go.Proofs.Ytdcjfaplgpeonaa
