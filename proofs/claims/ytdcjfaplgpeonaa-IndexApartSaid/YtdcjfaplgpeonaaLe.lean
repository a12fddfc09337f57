/-
  The law IndexApart, walked.
-/
import Derived.Test.YtdcjfaplgpeonaaLd
namespace Go.Proofs.Ytdcjfaplgpeonaa
open Go.RowKit Go.Dm

/-- The boxes of the two acts and of their keys. -/
structure Boxed4 (w : World) (bA bB bK bM : Nat) (ak sa al ad bk bs bl bd : Int) : Prop where
  a : w.heap[bA]? = some (.cells #[.int .i64 ak, .int .i64 sa, .int .i64 al, .int .i64 ad] 32 (0, 0))
  b : w.heap[bB]? = some (.cells #[.int .i64 bk, .int .i64 bs, .int .i64 bl, .int .i64 bd] 32 (0, 0))
  k : w.heap[bK]? = some (.cells #[.int .i64 sa, .int .i64 ad] 37 (0, 0))
  m : w.heap[bM]? = some (.cells #[.int .i64 bs, .int .i64 bd] 37 (0, 0))
def Cells4 (w : World) (bA bB bK bM : Nat) (sa al ad bs bl bd : Int) : Prop :=
  w.cell? ⟨bA, 1, none⟩ = some (.int .i64 sa) ∧ w.cell? ⟨bA, 2, none⟩ = some (.int .i64 al) ∧ w.cell? ⟨bA, 3, none⟩ = some (.int .i64 ad) ∧
  w.cell? ⟨bB, 1, none⟩ = some (.int .i64 bs) ∧ w.cell? ⟨bB, 2, none⟩ = some (.int .i64 bl) ∧ w.cell? ⟨bB, 3, none⟩ = some (.int .i64 bd) ∧
  w.cell? ⟨bK, 0, none⟩ = some (.int .i64 sa) ∧ w.cell? ⟨bK, 1, none⟩ = some (.int .i64 ad) ∧
  w.cell? ⟨bM, 0, none⟩ = some (.int .i64 bs) ∧ w.cell? ⟨bM, 1, none⟩ = some (.int .i64 bd)
theorem Boxed4.cells {w : World} {bA bB bK bM : Nat} {ak sa al ad bk bs bl bd : Int} (h : Boxed4 w bA bB bK bM ak sa al ad bk bs bl bd) : Cells4 w bA bB bK bM sa al ad bs bl bd :=
  ⟨(blk4 h.a).2.1, (blk4 h.a).2.2.1, (blk4 h.a).2.2.2, (blk4 h.b).2.1, (blk4 h.b).2.2.1, (blk4 h.b).2.2.2, (blk2 h.k).1, (blk2 h.k).2, (blk2 h.m).1, (blk2 h.m).2⟩
theorem Boxed4.chg {w w' : World} {bA bB bK bM : Nat} {ak sa al ad bk bs bl bd : Int} (h : Boxed4 w bA bB bK bM ak sa al ad bk bs bl bd) (hC : Chg [] w w') : Boxed4 w' bA bB bK bM ak sa al ad bk bs bl bd :=
  ⟨hC.at_ h.a (by simp), hC.at_ h.b (by simp), hC.at_ h.k (by simp), hC.at_ h.m (by simp)⟩
theorem Boxed4.chgX {w w' : World} {bA bB bK bM x m1 m2 : Nat} {ak sa al ad bk bs bl bd : Int} {l : IL} (h : Boxed4 w bA bB bK bM ak sa al ad bk bs bl bd) (hx : XAt w x m1 m2 l) (hC : Chg [m1, m2] w w') : Boxed4 w' bA bB bK bM ak sa al ad bk bs bl bd :=
  ⟨hC.at_ h.a (hx.not_in h.a), hC.at_ h.b (hx.not_in h.b), hC.at_ h.k (hx.not_in h.k), hC.at_ h.m (hx.not_in h.m)⟩

/-- The first half: from the key that is put into the new index, and what the nil index says, up to the second key. -/
structure Apart1 (w W : World) (x m1 m2 bA bB bK bM : Nat) (ak sa al ad bk bs bl bd : Int) : Prop where
  bx : Boxed4 W bA bB bK bM ak sa al ad bk bs bl bd
  ix : XAt W x m1 m2 [((sa, ad), al)]
  ch : Chg [] w W
  h1 : w.heap.size ≤ m1
  h2 : w.heap.size ≤ m2
theorem Apart1.nil {w W W' : World} {x m1 m2 bA bB bK bM : Nat} {ak sa al ad bk bs bl bd : Int} (h : Apart1 w W x m1 m2 bA bB bK bM ak sa al ad bk bs bl bd) (hC : Chg [] W W') : Apart1 w W' x m1 m2 bA bB bK bM ak sa al ad bk bs bl bd :=
  ⟨h.bx.chg hC, h.ix.chg hC (by simp) (by simp) (by simp), h.ch.trans hC, h.h1, h.h2⟩

theorem Apart1.cut {w W : World} {x m1 m2 bA bB bK bM : Nat} {ak sa al ad bk bs bl bd : Int} (h : Apart1 w W x m1 m2 bA bB bK bM ak sa al ad bk bs bl bd) :
    W.cell? ⟨bA, 1, none⟩ = some (.int .i64 sa) ∧ W.cell? ⟨bA, 2, none⟩ = some (.int .i64 al) ∧ W.cell? ⟨bK, 0, none⟩ = some (.int .i64 sa) ∧ W.cell? ⟨bK, 1, none⟩ = some (.int .i64 ad) := by
  obtain ⟨a1, a2, a3, b1, b2, b3, k0, k1, n0, n1⟩ := h.bx.cells
  exact ⟨a1, a2, k0, k1⟩
set_option maxRecDepth 100000 in
set_option maxHeartbeats 4000000 in
theorem apart_same (w : World) (ak sa al ad bk bl : Int) :
    Calls Try.prog 4 #[.agg #[.int .i64 ak, .int .i64 sa, .int .i64 al, .int .i64 ad], .agg #[.int .i64 bk, .int .i64 sa, .int .i64 bl, .int .i64 ad]] w fun e w' => e = .returned (.bool true) ∧ Chg [] w w' := by
  have hA0 : Chg [] w ((w.alloc (.cells #[.int .i64 ak, .int .i64 sa, .int .i64 al, .int .i64 ad] 32)).alloc (.cells #[.int .i64 bk, .int .i64 sa, .int .i64 bl, .int .i64 ad] 32)) := (Chg.alloc _ _ _).trans (Chg.alloc _ _ _)
  have ha : ((w.alloc (.cells #[.int .i64 ak, .int .i64 sa, .int .i64 al, .int .i64 ad] 32)).alloc (.cells #[.int .i64 bk, .int .i64 sa, .int .i64 bl, .int .i64 ad] 32)).heap[w.heap.size]? = some (.cells #[.int .i64 ak, .int .i64 sa, .int .i64 al, .int .i64 ad] 32 (0, 0)) := (Chg.alloc [] _ _).at_ (heap_alloc_new w _) (by simp)
  have hb : ((w.alloc (.cells #[.int .i64 ak, .int .i64 sa, .int .i64 al, .int .i64 ad] 32)).alloc (.cells #[.int .i64 bk, .int .i64 sa, .int .i64 bl, .int .i64 ad] 32)).heap[w.heap.size + 1]? = some (.cells #[.int .i64 bk, .int .i64 sa, .int .i64 bl, .int .i64 ad] 32 (0, 0)) := by
    have := heap_alloc_new (w.alloc (.cells #[.int .i64 ak, .int .i64 sa, .int .i64 al, .int .i64 ad] 32)) (.cells #[.int .i64 bk, .int .i64 sa, .int .i64 bl, .int .i64 ad] 32)
    simpa using this
  go_enter Try.func4, Try.ntmps4
  go_wp2_with fail
  refine (new_any _).mono ?_
  rintro e W1 ⟨x, m1, m2, rfl, h1, hC1, hx, hm1, hm2⟩
  have sz : w.heap.size ≤ W1.heap.size := (hA0.trans hC1).size
  have ha1 := hC1.at_ ha (by simp)
  have hb1 := hC1.at_ hb (by simp)
  have hA1 := hA0.trans hC1
  have hm1' : w.heap.size ≤ m1 := by simp at hm1; omega
  have hm2' : w.heap.size ≤ m2 := by simp at hm2; omega
  clear hA0 ha hb hC1 hx hm1 hm2
  obtain ⟨_, d1, d2, d3⟩ := blk4 ha1
  obtain ⟨_, d5, d6, d7⟩ := blk4 hb1
  have hK : Boxed4 ((W1.alloc (.cells #[.int .i64 sa, .int .i64 ad] 37)).alloc (.cells #[.int .i64 sa, .int .i64 ad] 37)) w.heap.size (w.heap.size + 1) W1.heap.size (W1.heap.size + 1) ak sa al ad bk sa bl ad :=
    ⟨((Chg.alloc [] _ _).trans (Chg.alloc [] _ _)).at_ ha1 (by simp), ((Chg.alloc [] _ _).trans (Chg.alloc [] _ _)).at_ hb1 (by simp), (Chg.alloc [] _ _).at_ (heap_alloc_new W1 _) (by simp), by
      have := heap_alloc_new (W1.alloc (.cells #[.int .i64 sa, .int .i64 ad] 37)) (.cells #[.int .i64 sa, .int .i64 ad] 37)
      simpa using this⟩
  have hC2 : Chg [] W1 ((W1.alloc (.cells #[.int .i64 sa, .int .i64 ad] 37)).alloc (.cells #[.int .i64 sa, .int .i64 ad] 37)) := (Chg.alloc _ _ _).trans (Chg.alloc _ _ _)
  have hX := (h1.chg hC2 (by simp) (by simp) (by simp)).chg (Chg.drew [] _) (by simp) (by simp) (by simp)
  have hA2 := hA1.trans (hC2.trans (Chg.drew [] _))
  have hK2 := hK.chg (Chg.drew [] _)
  have lt0 : w.heap.size < W1.heap.size := (Array.getElem?_eq_some_iff.1 ha1).1
  have lt1 : w.heap.size + 1 < W1.heap.size := (Array.getElem?_eq_some_iff.1 hb1).1
  clear ha1 hb1 hC2 hA1 h1
  obtain ⟨a1, a2, a3, b1, b2, b3, k0, k1, n0, n1⟩ := hK.cells
  go_wp2_with fail
  go_region_held3 (fun w' => w'.cell? ⟨w.heap.size, 1, none⟩ = some (.int .i64 sa) ∧ w'.cell? ⟨w.heap.size, 2, none⟩ = some (.int .i64 al) ∧ w'.cell? ⟨W1.heap.size, 0, none⟩ = some (.int .i64 sa) ∧ w'.cell? ⟨W1.heap.size, 1, none⟩ = some (.int .i64 ad))
    (first
      | go_keep
      | (exact hP6.cut)
      | (exact hP5.cut)
      | (exact hP4.cut)
      | (exact hP3.cut))
    (first
      | (go_at_call 18; (with_reducible refine (put_new _ x m1 m2 [] hX sa ad al rfl (by simp)).mono ?_); rintro e W3 ⟨rfl, h3, hC3⟩; have hP3 : Apart1 w W3 x m1 m2 w.heap.size (w.heap.size + 1) W1.heap.size (W1.heap.size + 1) ak sa al ad bk sa bl ad := ⟨hK2.chgX hX hC3, h3, hA2.trans' hC3 (by simp) (by simp; omega), hm1', hm2'⟩)
      | (go_at_call 18; (with_reducible refine (put_nil _ sa ad 1).mono ?_); rintro e W4 ⟨rfl, hC4⟩; have hP4 := hP3.nil hC4)
      | (go_at_call 19; (with_reducible refine (drop_nil _ sa ad).mono ?_); rintro e W5 ⟨rfl, hC5⟩; have hP5 := hP4.nil hC5)
      | (go_at_call 16; (with_reducible refine (len_nil _ sa).mono ?_); rintro e W6 ⟨rfl, rfl⟩)
      | (go_at_call 20; (with_reducible refine (clear_nil _ sa).mono ?_); rintro e W6 ⟨rfl, hC6⟩; have hP6 := hP5.nil hC6))
  all_goals
    clear hP5 hP4 hP3 hK2 hA2 hX hC6 hC5 hC4 hC3 h3
    clear a1 a2 a3 b1 b2 b3 k0 k1 n0 n1 d1 d2 d3 d5 d6 d7
    obtain ⟨hB, hX, hA, _, _⟩ := hP6
    obtain ⟨a1, a2, a3, b1, b2, b3, k0, k1, n0, n1⟩ := hB.cells
    go_wp2_with fail
    refine (put_old _ x m1 m2 _ hX sa ad bl (by simp [mLook])).mono ?_
    rintro e W7 ⟨rfl, hC⟩
    have hX7 := hX.chg hC (by simp) (by simp) (by simp)
    have hB7 := hB.chg hC
    have hA7 := hA.trans hC
    clear a1 a2 a3 b1 b2 b3 k0 k1 n0 n1 hC hX hB hA
    obtain ⟨a1, a2, a3, b1, b2, b3, k0, k1, n0, n1⟩ := hB7.cells
    have e1 : mLook [((sa, ad), al)] (sa, ad) = some al := by simp [mLook]
    have hg7 := get_any _ x m1 m2 _ hX7 sa ad
    simp only [e1, Option.getD_some, Option.isSome_some] at hg7
    go_wp2_with fail
    refine hg7.mono ?_
    rintro e W8 ⟨rfl, hC⟩
    have hX8 := hX7.chg hC (by simp) (by simp) (by simp)
    have hB8 := hB7.chg hC
    have hA8 := hA7.trans hC
    clear a1 a2 a3 b1 b2 b3 k0 k1 n0 n1 hC hX7 hB7 hA7 hg7
    obtain ⟨a1, a2, a3, b1, b2, b3, k0, k1, n0, n1⟩ := hB8.cells
    have hg8 := get_any _ x m1 m2 _ hX8 sa ad
    simp only [e1, Option.getD_some, Option.isSome_some] at hg8
    go_wp2_with fail
    refine hg8.mono ?_
    rintro e W9 ⟨rfl, hC⟩
    have hX9 := hX8.chg hC (by simp) (by simp) (by simp)
    have hB9 := hB8.chg hC
    have hA9 := hA8.trans hC
    clear a1 a2 a3 b1 b2 b3 k0 k1 n0 n1 hC hX8 hB8 hA8 hg8
    obtain ⟨a1, a2, a3, b1, b2, b3, k0, k1, n0, n1⟩ := hB9.cells
    go_wp2_with fail
    refine (get_nil _ sa ad).mono ?_
    rintro e W10 ⟨rfl, hC⟩
    have hX10 := hX9.chg hC (by simp) (by simp) (by simp)
    have hB10 := hB9.chg hC
    have hA10 := hA9.trans hC
    clear a1 a2 a3 b1 b2 b3 k0 k1 n0 n1 hC hX9 hB9 hA9
    obtain ⟨a1, a2, a3, b1, b2, b3, k0, k1, n0, n1⟩ := hB10.cells
    have hl := len_any _ x m1 m2 _ hX10 sa
    have hi : icnt [((sa, ad), al)] sa = 1 := by simp [icnt]
    rw [hi] at hl
    have hc := clear_any _ x m1 m2 _ hX10 sa
    rw [hi] at hc
    clear e1 hi
    go_wp2_with fail
    refine hl.mono ?_
    rintro e W11 ⟨rfl, rfl⟩
    go_wp2_with fail
    refine hc.mono ?_
    rintro e W12 ⟨rfl, hX12, hC⟩
    have hA12 : Chg [] w W12 := hA10.trans' hC (by simp) (by simp; omega)
    clear hl hc hX10 hB10 hA10 hC
    go_wp2_with fail
    refine (alive12 _).mono ?_
    rintro e W13 ⟨rfl, hC⟩
    have hA13 := hA12.trans hC
    clear hA12 hC
    go_wp2
    go_ret
    exact ⟨rfl, hA13⟩
set_option maxRecDepth 100000 in
set_option maxHeartbeats 4000000 in
theorem apart_unlike1 (w : World) (ak sa al ad bk sb bl bd : Int) (hne : ¬ sa = sb) :
    Calls Try.prog 4 #[.agg #[.int .i64 ak, .int .i64 sa, .int .i64 al, .int .i64 ad], .agg #[.int .i64 bk, .int .i64 sb, .int .i64 bl, .int .i64 bd]] w fun e w' => e = .returned (.bool true) ∧ Chg [] w w' := by
  have hA0 : Chg [] w ((w.alloc (.cells #[.int .i64 ak, .int .i64 sa, .int .i64 al, .int .i64 ad] 32)).alloc (.cells #[.int .i64 bk, .int .i64 sb, .int .i64 bl, .int .i64 bd] 32)) := (Chg.alloc _ _ _).trans (Chg.alloc _ _ _)
  have ha : ((w.alloc (.cells #[.int .i64 ak, .int .i64 sa, .int .i64 al, .int .i64 ad] 32)).alloc (.cells #[.int .i64 bk, .int .i64 sb, .int .i64 bl, .int .i64 bd] 32)).heap[w.heap.size]? = some (.cells #[.int .i64 ak, .int .i64 sa, .int .i64 al, .int .i64 ad] 32 (0, 0)) := (Chg.alloc [] _ _).at_ (heap_alloc_new w _) (by simp)
  have hb : ((w.alloc (.cells #[.int .i64 ak, .int .i64 sa, .int .i64 al, .int .i64 ad] 32)).alloc (.cells #[.int .i64 bk, .int .i64 sb, .int .i64 bl, .int .i64 bd] 32)).heap[w.heap.size + 1]? = some (.cells #[.int .i64 bk, .int .i64 sb, .int .i64 bl, .int .i64 bd] 32 (0, 0)) := by
    have := heap_alloc_new (w.alloc (.cells #[.int .i64 ak, .int .i64 sa, .int .i64 al, .int .i64 ad] 32)) (.cells #[.int .i64 bk, .int .i64 sb, .int .i64 bl, .int .i64 bd] 32)
    simpa using this
  have hk : mLook [((sa, ad), al)] (sb, bd) = none := by
    simp [mLook, hne]
  have hk1 : mLook ([((sa, ad), al)] ++ [((sb, bd), bl)]) (sa, ad) = some al := by simp [mLook]
  have hk2 : mLook ([((sa, ad), al)] ++ [((sb, bd), bl)]) (sb, bd) = some bl := by
    rw [mLook_app, hk]; simp
  have hd : delL ([((sa, ad), al)] ++ [((sb, bd), bl)]) (sb, bd) = [((sa, ad), al)] := by
    have : ((sa, ad) : Int × Int) ≠ (sb, bd) := by
      simp [hne]
    simp [delL, this]
  have Hk := Lib.hid hk
  have Hk1 := Lib.hid hk1
  have Hk2 := Lib.hid hk2
  have Hd := Lib.hid hd
  clear hk hk1 hk2 hd
  go_enter Try.func4, Try.ntmps4
  go_wp2_with fail
  refine (new_any _).mono ?_
  rintro e W1 ⟨x, m1, m2, rfl, h1, hC1, hx, hm1, hm2⟩
  have sz : w.heap.size ≤ W1.heap.size := (hA0.trans hC1).size
  have ha1 := hC1.at_ ha (by simp)
  have hb1 := hC1.at_ hb (by simp)
  have hA1 := hA0.trans hC1
  have hm1' : w.heap.size ≤ m1 := by simp at hm1; omega
  have hm2' : w.heap.size ≤ m2 := by simp at hm2; omega
  clear hA0 ha hb hC1 hx hm1 hm2
  obtain ⟨_, d1, d2, d3⟩ := blk4 ha1
  obtain ⟨_, d5, d6, d7⟩ := blk4 hb1
  have hK : Boxed4 ((W1.alloc (.cells #[.int .i64 sa, .int .i64 ad] 37)).alloc (.cells #[.int .i64 sb, .int .i64 bd] 37)) w.heap.size (w.heap.size + 1) W1.heap.size (W1.heap.size + 1) ak sa al ad bk sb bl bd :=
    ⟨((Chg.alloc [] _ _).trans (Chg.alloc [] _ _)).at_ ha1 (by simp), ((Chg.alloc [] _ _).trans (Chg.alloc [] _ _)).at_ hb1 (by simp), (Chg.alloc [] _ _).at_ (heap_alloc_new W1 _) (by simp), by
      have := heap_alloc_new (W1.alloc (.cells #[.int .i64 sa, .int .i64 ad] 37)) (.cells #[.int .i64 sb, .int .i64 bd] 37)
      simpa using this⟩
  have hC2 : Chg [] W1 ((W1.alloc (.cells #[.int .i64 sa, .int .i64 ad] 37)).alloc (.cells #[.int .i64 sb, .int .i64 bd] 37)) := (Chg.alloc _ _ _).trans (Chg.alloc _ _ _)
  have hX := (h1.chg hC2 (by simp) (by simp) (by simp)).chg (Chg.drew [] _) (by simp) (by simp) (by simp)
  have hA2 := hA1.trans (hC2.trans (Chg.drew [] _))
  have hK2 := hK.chg (Chg.drew [] _)
  have lt0 : w.heap.size < W1.heap.size := (Array.getElem?_eq_some_iff.1 ha1).1
  have lt1 : w.heap.size + 1 < W1.heap.size := (Array.getElem?_eq_some_iff.1 hb1).1
  clear ha1 hb1 hC2 hA1 h1
  obtain ⟨a1, a2, a3, b1, b2, b3, k0, k1, n0, n1⟩ := hK.cells
  go_wp2_with fail
  go_region_held3 (fun w' => w'.cell? ⟨w.heap.size, 1, none⟩ = some (.int .i64 sa) ∧ w'.cell? ⟨w.heap.size, 2, none⟩ = some (.int .i64 al) ∧ w'.cell? ⟨W1.heap.size, 0, none⟩ = some (.int .i64 sa) ∧ w'.cell? ⟨W1.heap.size, 1, none⟩ = some (.int .i64 ad))
    (first
      | go_keep
      | (exact hP6.cut)
      | (exact hP5.cut)
      | (exact hP4.cut)
      | (exact hP3.cut))
    (first
      | (go_at_call 18; (with_reducible refine (put_new _ x m1 m2 [] hX sa ad al rfl (by simp)).mono ?_); rintro e W3 ⟨rfl, h3, hC3⟩; have hP3 : Apart1 w W3 x m1 m2 w.heap.size (w.heap.size + 1) W1.heap.size (W1.heap.size + 1) ak sa al ad bk sb bl bd := ⟨hK2.chgX hX hC3, h3, hA2.trans' hC3 (by simp) (by simp; omega), hm1', hm2'⟩)
      | (go_at_call 18; (with_reducible refine (put_nil _ sa ad 1).mono ?_); rintro e W4 ⟨rfl, hC4⟩; have hP4 := hP3.nil hC4)
      | (go_at_call 19; (with_reducible refine (drop_nil _ sa ad).mono ?_); rintro e W5 ⟨rfl, hC5⟩; have hP5 := hP4.nil hC5)
      | (go_at_call 16; (with_reducible refine (len_nil _ sa).mono ?_); rintro e W6 ⟨rfl, rfl⟩)
      | (go_at_call 20; (with_reducible refine (clear_nil _ sa).mono ?_); rintro e W6 ⟨rfl, hC6⟩; have hP6 := hP5.nil hC6))
  all_goals
    clear hP5 hP4 hP3 hK2 hA2 hX hC6 hC5 hC4 hC3 h3
    clear a1 a2 a3 b1 b2 b3 k0 k1 n0 n1 d1 d2 d3 d5 d6 d7
    obtain ⟨hB, hX, hA, _, _⟩ := hP6
    obtain ⟨a1, a2, a3, b1, b2, b3, k0, k1, n0, n1⟩ := hB.cells
    have hp := put_new _ x m1 m2 _ hX sb bd bl Hk.out (by simp)
    go_wp2_with fail
    refine hp.mono ?_
    rintro e W7 ⟨rfl, hX7, hC⟩
    have hB7 := hB.chgX hX hC
    have hA7 : Chg [] w W7 := hA.trans' hC (by simp) (by simp; omega)
    clear a1 a2 a3 b1 b2 b3 k0 k1 n0 n1 hC hX hB hA hp
    obtain ⟨a1, a2, a3, b1, b2, b3, k0, k1, n0, n1⟩ := hB7.cells
    have hg7 := get_any _ x m1 m2 _ hX7 sa ad
    simp only [Hk1.out, Option.getD_some, Option.isSome_some] at hg7
    go_wp2_with fail
    refine hg7.mono ?_
    rintro e W8 ⟨rfl, hC⟩
    have hX8 := hX7.chg hC (by simp) (by simp) (by simp)
    have hB8 := hB7.chg hC
    have hA8 := hA7.trans hC
    clear a1 a2 a3 b1 b2 b3 k0 k1 n0 n1 hC hX7 hB7 hA7 hg7
    obtain ⟨a1, a2, a3, b1, b2, b3, k0, k1, n0, n1⟩ := hB8.cells
    have hg8 := get_any _ x m1 m2 _ hX8 sb bd
    simp only [Hk2.out, Option.getD_some, Option.isSome_some] at hg8
    go_wp2_with fail
    refine hg8.mono ?_
    rintro e W9 ⟨rfl, hC⟩
    have hX9 := hX8.chg hC (by simp) (by simp) (by simp)
    have hB9 := hB8.chg hC
    have hA9 := hA8.trans hC
    clear a1 a2 a3 b1 b2 b3 k0 k1 n0 n1 hC hX8 hB8 hA8 hg8
    obtain ⟨a1, a2, a3, b1, b2, b3, k0, k1, n0, n1⟩ := hB9.cells
    have hdr := drop_yes _ x m1 m2 _ hX9 sb bd _ Hk2.out (by simp)
    rw [Hd.out] at hdr
    go_wp2_with fail
    refine hdr.mono ?_
    rintro e W10 ⟨rfl, hX10, hC⟩
    have hB10 := hB9.chgX hX9 hC
    have hA10 : Chg [] w W10 := hA9.trans' hC (by simp) (by simp; omega)
    clear a1 a2 a3 b1 b2 b3 k0 k1 n0 n1 hC hX9 hB9 hA9 hdr
    obtain ⟨a1, a2, a3, b1, b2, b3, k0, k1, n0, n1⟩ := hB10.cells
    clear Hk Hk1 Hk2 Hd
    have e1 : mLook [((sa, ad), al)] (sa, ad) = some al := by simp [mLook]
    have hg8 := get_any _ x m1 m2 _ hX10 sa ad
    simp only [e1, Option.getD_some, Option.isSome_some] at hg8
    go_wp2_with fail
    refine hg8.mono ?_
    rintro e W11 ⟨rfl, hC⟩
    have hX9 := hX10.chg hC (by simp) (by simp) (by simp)
    have hB9 := hB10.chg hC
    have hA9 := hA10.trans hC
    clear a1 a2 a3 b1 b2 b3 k0 k1 n0 n1 hC hX10 hB10 hA10 hg8
    obtain ⟨a1, a2, a3, b1, b2, b3, k0, k1, n0, n1⟩ := hB9.cells
    go_wp2_with fail
    refine (get_nil _ sa ad).mono ?_
    rintro e W12 ⟨rfl, hC⟩
    have hX10 := hX9.chg hC (by simp) (by simp) (by simp)
    have hB10 := hB9.chg hC
    have hA10 := hA9.trans hC
    clear a1 a2 a3 b1 b2 b3 k0 k1 n0 n1 hC hX9 hB9 hA9
    obtain ⟨a1, a2, a3, b1, b2, b3, k0, k1, n0, n1⟩ := hB10.cells
    have hl := len_any _ x m1 m2 _ hX10 sa
    have hi : icnt [((sa, ad), al)] sa = 1 := by simp [icnt]
    rw [hi] at hl
    have hc := clear_any _ x m1 m2 _ hX10 sa
    rw [hi] at hc
    clear e1 hi
    go_wp2_with fail
    refine hl.mono ?_
    rintro e W13 ⟨rfl, rfl⟩
    go_wp2_with fail
    refine hc.mono ?_
    rintro e W14 ⟨rfl, hX12, hC⟩
    have hA12 : Chg [] w W14 := hA10.trans' hC (by simp) (by simp; omega)
    clear hl hc hX10 hB10 hA10 hC
    go_wp2_with fail
    refine (alive12 _).mono ?_
    rintro e W15 ⟨rfl, hC⟩
    have hA13 := hA12.trans hC
    clear hA12 hC
    go_wp2
    go_ret
    exact ⟨rfl, hA13⟩
set_option maxRecDepth 100000 in
set_option maxHeartbeats 4000000 in
theorem apart_unlike2 (w : World) (ak sa al ad bk bl bd : Int) (hne : ¬ ad = bd) :
    Calls Try.prog 4 #[.agg #[.int .i64 ak, .int .i64 sa, .int .i64 al, .int .i64 ad], .agg #[.int .i64 bk, .int .i64 sa, .int .i64 bl, .int .i64 bd]] w fun e w' => e = .returned (.bool true) ∧ Chg [] w w' := by
  have hA0 : Chg [] w ((w.alloc (.cells #[.int .i64 ak, .int .i64 sa, .int .i64 al, .int .i64 ad] 32)).alloc (.cells #[.int .i64 bk, .int .i64 sa, .int .i64 bl, .int .i64 bd] 32)) := (Chg.alloc _ _ _).trans (Chg.alloc _ _ _)
  have ha : ((w.alloc (.cells #[.int .i64 ak, .int .i64 sa, .int .i64 al, .int .i64 ad] 32)).alloc (.cells #[.int .i64 bk, .int .i64 sa, .int .i64 bl, .int .i64 bd] 32)).heap[w.heap.size]? = some (.cells #[.int .i64 ak, .int .i64 sa, .int .i64 al, .int .i64 ad] 32 (0, 0)) := (Chg.alloc [] _ _).at_ (heap_alloc_new w _) (by simp)
  have hb : ((w.alloc (.cells #[.int .i64 ak, .int .i64 sa, .int .i64 al, .int .i64 ad] 32)).alloc (.cells #[.int .i64 bk, .int .i64 sa, .int .i64 bl, .int .i64 bd] 32)).heap[w.heap.size + 1]? = some (.cells #[.int .i64 bk, .int .i64 sa, .int .i64 bl, .int .i64 bd] 32 (0, 0)) := by
    have := heap_alloc_new (w.alloc (.cells #[.int .i64 ak, .int .i64 sa, .int .i64 al, .int .i64 ad] 32)) (.cells #[.int .i64 bk, .int .i64 sa, .int .i64 bl, .int .i64 bd] 32)
    simpa using this
  have hk : mLook [((sa, ad), al)] (sa, bd) = none := by
    simp [mLook, hne]
  have hk1 : mLook ([((sa, ad), al)] ++ [((sa, bd), bl)]) (sa, ad) = some al := by simp [mLook]
  have hk2 : mLook ([((sa, ad), al)] ++ [((sa, bd), bl)]) (sa, bd) = some bl := by
    rw [mLook_app, hk]; simp
  have hd : delL ([((sa, ad), al)] ++ [((sa, bd), bl)]) (sa, bd) = [((sa, ad), al)] := by
    have : ((sa, ad) : Int × Int) ≠ (sa, bd) := by
      simp [hne]
    simp [delL, this]
  have Hk := Lib.hid hk
  have Hk1 := Lib.hid hk1
  have Hk2 := Lib.hid hk2
  have Hd := Lib.hid hd
  clear hk hk1 hk2 hd
  go_enter Try.func4, Try.ntmps4
  go_wp2_with fail
  refine (new_any _).mono ?_
  rintro e W1 ⟨x, m1, m2, rfl, h1, hC1, hx, hm1, hm2⟩
  have sz : w.heap.size ≤ W1.heap.size := (hA0.trans hC1).size
  have ha1 := hC1.at_ ha (by simp)
  have hb1 := hC1.at_ hb (by simp)
  have hA1 := hA0.trans hC1
  have hm1' : w.heap.size ≤ m1 := by simp at hm1; omega
  have hm2' : w.heap.size ≤ m2 := by simp at hm2; omega
  clear hA0 ha hb hC1 hx hm1 hm2
  obtain ⟨_, d1, d2, d3⟩ := blk4 ha1
  obtain ⟨_, d5, d6, d7⟩ := blk4 hb1
  have hK : Boxed4 ((W1.alloc (.cells #[.int .i64 sa, .int .i64 ad] 37)).alloc (.cells #[.int .i64 sa, .int .i64 bd] 37)) w.heap.size (w.heap.size + 1) W1.heap.size (W1.heap.size + 1) ak sa al ad bk sa bl bd :=
    ⟨((Chg.alloc [] _ _).trans (Chg.alloc [] _ _)).at_ ha1 (by simp), ((Chg.alloc [] _ _).trans (Chg.alloc [] _ _)).at_ hb1 (by simp), (Chg.alloc [] _ _).at_ (heap_alloc_new W1 _) (by simp), by
      have := heap_alloc_new (W1.alloc (.cells #[.int .i64 sa, .int .i64 ad] 37)) (.cells #[.int .i64 sa, .int .i64 bd] 37)
      simpa using this⟩
  have hC2 : Chg [] W1 ((W1.alloc (.cells #[.int .i64 sa, .int .i64 ad] 37)).alloc (.cells #[.int .i64 sa, .int .i64 bd] 37)) := (Chg.alloc _ _ _).trans (Chg.alloc _ _ _)
  have hX := (h1.chg hC2 (by simp) (by simp) (by simp)).chg (Chg.drew [] _) (by simp) (by simp) (by simp)
  have hA2 := hA1.trans (hC2.trans (Chg.drew [] _))
  have hK2 := hK.chg (Chg.drew [] _)
  have lt0 : w.heap.size < W1.heap.size := (Array.getElem?_eq_some_iff.1 ha1).1
  have lt1 : w.heap.size + 1 < W1.heap.size := (Array.getElem?_eq_some_iff.1 hb1).1
  clear ha1 hb1 hC2 hA1 h1
  obtain ⟨a1, a2, a3, b1, b2, b3, k0, k1, n0, n1⟩ := hK.cells
  go_wp2_with fail
  go_region_held3 (fun w' => w'.cell? ⟨w.heap.size, 1, none⟩ = some (.int .i64 sa) ∧ w'.cell? ⟨w.heap.size, 2, none⟩ = some (.int .i64 al) ∧ w'.cell? ⟨W1.heap.size, 0, none⟩ = some (.int .i64 sa) ∧ w'.cell? ⟨W1.heap.size, 1, none⟩ = some (.int .i64 ad))
    (first
      | go_keep
      | (exact hP6.cut)
      | (exact hP5.cut)
      | (exact hP4.cut)
      | (exact hP3.cut))
    (first
      | (go_at_call 18; (with_reducible refine (put_new _ x m1 m2 [] hX sa ad al rfl (by simp)).mono ?_); rintro e W3 ⟨rfl, h3, hC3⟩; have hP3 : Apart1 w W3 x m1 m2 w.heap.size (w.heap.size + 1) W1.heap.size (W1.heap.size + 1) ak sa al ad bk sa bl bd := ⟨hK2.chgX hX hC3, h3, hA2.trans' hC3 (by simp) (by simp; omega), hm1', hm2'⟩)
      | (go_at_call 18; (with_reducible refine (put_nil _ sa ad 1).mono ?_); rintro e W4 ⟨rfl, hC4⟩; have hP4 := hP3.nil hC4)
      | (go_at_call 19; (with_reducible refine (drop_nil _ sa ad).mono ?_); rintro e W5 ⟨rfl, hC5⟩; have hP5 := hP4.nil hC5)
      | (go_at_call 16; (with_reducible refine (len_nil _ sa).mono ?_); rintro e W6 ⟨rfl, rfl⟩)
      | (go_at_call 20; (with_reducible refine (clear_nil _ sa).mono ?_); rintro e W6 ⟨rfl, hC6⟩; have hP6 := hP5.nil hC6))
  all_goals
    clear hP5 hP4 hP3 hK2 hA2 hX hC6 hC5 hC4 hC3 h3
    clear a1 a2 a3 b1 b2 b3 k0 k1 n0 n1 d1 d2 d3 d5 d6 d7
    obtain ⟨hB, hX, hA, _, _⟩ := hP6
    obtain ⟨a1, a2, a3, b1, b2, b3, k0, k1, n0, n1⟩ := hB.cells
    have hp := put_new _ x m1 m2 _ hX sa bd bl Hk.out (by simp)
    go_wp2_with fail
    refine hp.mono ?_
    rintro e W7 ⟨rfl, hX7, hC⟩
    have hB7 := hB.chgX hX hC
    have hA7 : Chg [] w W7 := hA.trans' hC (by simp) (by simp; omega)
    clear a1 a2 a3 b1 b2 b3 k0 k1 n0 n1 hC hX hB hA hp
    obtain ⟨a1, a2, a3, b1, b2, b3, k0, k1, n0, n1⟩ := hB7.cells
    have hg7 := get_any _ x m1 m2 _ hX7 sa ad
    simp only [Hk1.out, Option.getD_some, Option.isSome_some] at hg7
    go_wp2_with fail
    refine hg7.mono ?_
    rintro e W8 ⟨rfl, hC⟩
    have hX8 := hX7.chg hC (by simp) (by simp) (by simp)
    have hB8 := hB7.chg hC
    have hA8 := hA7.trans hC
    clear a1 a2 a3 b1 b2 b3 k0 k1 n0 n1 hC hX7 hB7 hA7 hg7
    obtain ⟨a1, a2, a3, b1, b2, b3, k0, k1, n0, n1⟩ := hB8.cells
    have hg8 := get_any _ x m1 m2 _ hX8 sa bd
    simp only [Hk2.out, Option.getD_some, Option.isSome_some] at hg8
    go_wp2_with fail
    refine hg8.mono ?_
    rintro e W9 ⟨rfl, hC⟩
    have hX9 := hX8.chg hC (by simp) (by simp) (by simp)
    have hB9 := hB8.chg hC
    have hA9 := hA8.trans hC
    clear a1 a2 a3 b1 b2 b3 k0 k1 n0 n1 hC hX8 hB8 hA8 hg8
    obtain ⟨a1, a2, a3, b1, b2, b3, k0, k1, n0, n1⟩ := hB9.cells
    have hdr := drop_yes _ x m1 m2 _ hX9 sa bd _ Hk2.out (by simp)
    rw [Hd.out] at hdr
    go_wp2_with fail
    refine hdr.mono ?_
    rintro e W10 ⟨rfl, hX10, hC⟩
    have hB10 := hB9.chgX hX9 hC
    have hA10 : Chg [] w W10 := hA9.trans' hC (by simp) (by simp; omega)
    clear a1 a2 a3 b1 b2 b3 k0 k1 n0 n1 hC hX9 hB9 hA9 hdr
    obtain ⟨a1, a2, a3, b1, b2, b3, k0, k1, n0, n1⟩ := hB10.cells
    clear Hk Hk1 Hk2 Hd
    have e1 : mLook [((sa, ad), al)] (sa, ad) = some al := by simp [mLook]
    have hg8 := get_any _ x m1 m2 _ hX10 sa ad
    simp only [e1, Option.getD_some, Option.isSome_some] at hg8
    go_wp2_with fail
    refine hg8.mono ?_
    rintro e W11 ⟨rfl, hC⟩
    have hX9 := hX10.chg hC (by simp) (by simp) (by simp)
    have hB9 := hB10.chg hC
    have hA9 := hA10.trans hC
    clear a1 a2 a3 b1 b2 b3 k0 k1 n0 n1 hC hX10 hB10 hA10 hg8
    obtain ⟨a1, a2, a3, b1, b2, b3, k0, k1, n0, n1⟩ := hB9.cells
    go_wp2_with fail
    refine (get_nil _ sa ad).mono ?_
    rintro e W12 ⟨rfl, hC⟩
    have hX10 := hX9.chg hC (by simp) (by simp) (by simp)
    have hB10 := hB9.chg hC
    have hA10 := hA9.trans hC
    clear a1 a2 a3 b1 b2 b3 k0 k1 n0 n1 hC hX9 hB9 hA9
    obtain ⟨a1, a2, a3, b1, b2, b3, k0, k1, n0, n1⟩ := hB10.cells
    have hl := len_any _ x m1 m2 _ hX10 sa
    have hi : icnt [((sa, ad), al)] sa = 1 := by simp [icnt]
    rw [hi] at hl
    have hc := clear_any _ x m1 m2 _ hX10 sa
    rw [hi] at hc
    clear e1 hi
    go_wp2_with fail
    refine hl.mono ?_
    rintro e W13 ⟨rfl, rfl⟩
    go_wp2_with fail
    refine hc.mono ?_
    rintro e W14 ⟨rfl, hX12, hC⟩
    have hA12 : Chg [] w W14 := hA10.trans' hC (by simp) (by simp; omega)
    clear hl hc hX10 hB10 hA10 hC
    go_wp2_with fail
    refine (alive12 _).mono ?_
    rintro e W15 ⟨rfl, hC⟩
    have hA13 := hA12.trans hC
    clear hA12 hC
    go_wp2
    go_ret
    exact ⟨rfl, hA13⟩
end Go.Proofs.Ytdcjfaplgpeonaa
