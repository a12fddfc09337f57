/-
  The reference's index (a list of rows): what each of its functions does.
-/
import Derived.Test.YtdcjfaplgpeonaaIc
import Derived.Test.YtdcjfaplgpeonaaS
import Derived.Deep.RegionLaw
import Derived.Deep.DeepMust
namespace Go.Proofs.Ytdcjfaplgpeonaa
open Go.RowKit Go.Dm

def rowE (p : (Int × Int) × Int) : List Value := [.int .i64 p.1.1, .int .i64 p.1.2, .int .i64 p.2]
theorem rowR : REnc 3 rowE := ⟨fun _ => rfl, fun a u hu => by simp [rowE] at hu; rcases hu with rfl | rfl | rfl <;> rfl⟩
theorem elem27 : ElemIs Try.prog 27 78 3 24 := ⟨Try.underlying27, by
  obtain ⟨i, hi, hz, h1, h2⟩ := info_parts (show (Try.prog.info? 78).map (fun i => (i.zero, i.size, i.bytes)) = some (some (.agg #[.int .i64 0, .int .i64 0, .int .i64 0]), 3, 24) by kernel_rfl)
  exact ⟨i, _, hi, hz, h1, h2, rfl⟩, by decide⟩

theorem rows_at {w : World} {g n c : Nat} {l : IL} (h : SlAt 78 3 rowE w (.slice (some ⟨g, 0, none⟩) n c) l) {k : Nat} {p : (Int × Int) × Int} (hp : l[k]? = some p) :
    w.cell? ⟨g, k * 3, none⟩ = some (.int .i64 p.1.1) ∧ w.cell? ⟨g, k * 3 + 1, none⟩ = some (.int .i64 p.1.2) ∧ w.cell? ⟨g, k * 3 + 2, none⟩ = some (.int .i64 p.2) :=
  ⟨h.at_ rowR hp (j := 0) (by omega), h.at_ rowR hp (j := 1) (by omega), h.at_ rowR hp (j := 2) (by omega)⟩
/-- The reference's index in block r: its rows. -/
def RAt (w : World) (r : Nat) (l : IL) : Prop := ∃ v, w.heap[r]? = some (.cells #[v] 29 (0, 0)) ∧ SlAt 78 3 rowE w v l

theorem RAt.lt {w : World} {r : Nat} {l : IL} (h : RAt w r l) : r < w.heap.size := by obtain ⟨v, h, _⟩ := h; exact blk_lt h
theorem RAt.chg {w w' : World} {r : Nat} {l : IL} {S : List Nat} (h : RAt w r l) (hc : Chg S w w') (h0 : r ∉ S) (h1 : ∀ k ∈ S, w.heap.size ≤ k ∨ ∃ o, w.heap[k]? = some o ∧ ∀ cs, o ≠ .cells cs 78 (0, 0)) : RAt w' r l := by
  obtain ⟨v, h, hs⟩ := h
  refine ⟨v, hc.at_ h h0, hs.chg hc fun g hg hm => ?_⟩
  obtain ⟨cur, hcur⟩ := hs.typed hg
  rcases h1 g hm with h | ⟨o, ho, hne⟩
  · have := hs.lt hg; omega
  · rw [hcur] at ho; cases ho; exact hne _ rfl

def idxOf (l : IL) (k : Int × Int) : Option Nat := l.findIdx? (fun p => decide (p.1 = k))
def idxI (l : IL) (k : Int × Int) : Int := match idxOf l k with | some i => i | none => -1

theorem idxI_at {l : IL} {k : Nat} {q : Int × Int} {sl : Int} (h : l[k]? = some (q, sl)) (hno : ∀ j, j < k → ∀ p, l[j]? = some p → p.1 ≠ q) : idxI l q = k := by
  have : idxOf l q = some k := by
    unfold idxOf
    rw [List.findIdx?_eq_some_iff_getElem]
    obtain ⟨hlt, he⟩ := List.getElem?_eq_some_iff.1 h
    refine ⟨hlt, by simp [he], fun j hj => ?_⟩
    have := hno j hj (l[j]) (by simp)
    simpa using this
  simp [idxI, this]
theorem idxI_none {l : IL} {q : Int × Int} (hno : ∀ (j : Nat) (p : (Int × Int) × Int), l[j]? = some p → p.1 ≠ q) : idxI l q = -1 := by
  have : idxOf l q = none := by
    unfold idxOf
    rw [List.findIdx?_eq_none_iff]
    intro p hp
    obtain ⟨j, hj⟩ := List.mem_iff_getElem?.1 hp
    simpa using hno j p hj
  simp [idxI, this]
theorem not_more {l : IL} {k : Nat} {q : Int × Int} {p0 : (Int × Int) × Int} (hno : ∀ j, j < k → ∀ p, l[j]? = some p → p.1 ≠ q) (h : l[k]? = some p0) (hne : p0.1 ≠ q) : ∀ j, j < k + 1 → ∀ p, l[j]? = some p → p.1 ≠ q := by
  intro j hj p hp
  by_cases e : j = k
  · subst e; rw [h] at hp; cases hp; exact hne
  · exact hno j (by omega) p hp

set_option maxHeartbeats 1000000 in
theorem find_any (w : World) (r : Nat) (l : IL) (h : RAt w r l) (k1 k2 : Int) (hlen : l.length ≤ 1000) :
    Calls Try.prog 75 #[.pointer (some ⟨r, 0, none⟩), .int .i64 k1, .int .i64 k2] w fun e w' => e = .returned (.int .i64 (idxI l (k1, k2))) ∧ w = w' := by
  obtain ⟨v, hb, hs⟩ := h
  obtain ⟨A, c, rfl, _, hA⟩ := hs.form
  have c0 := blk1 hb
  go_enter Try.func75, Try.ntmps75
  go_wp2
  go_loop [7] (fun i => ∃ k : Nat, k ≤ l.length ∧ i = .int .i64 k ∧ ∀ j, j < k → ∀ p, l[j]? = some p → p.1 ≠ (k1, k2)) (fun i => l.length - (intOf i).toNat)
  case atStart => exact ⟨0, Nat.zero_le _, rfl, fun j hj => by omega⟩
  case round =>
    obtain ⟨k, hk, rfl, hno⟩ := hrel
    have A1 := Lib.hid hno
    clear hno
    by_cases hlt : k < l.length
    · obtain ⟨g, rfl⟩ := hA (by omega)
      obtain ⟨⟨⟨s, d⟩, sl⟩, hp⟩ : ∃ p, l[k]? = some p := ⟨l[k], by simp [hlt]⟩
      obtain ⟨e0, e1, _⟩ := rows_at hs hp
      have B := Lib.hid hp
      clear hp hs
      by_cases h1 : s = k1
      · by_cases h2 : d = k2
        · have t1 : (s == k1) = true := by rw [beq_iff_eq]; exact h1
          have t2 : (d == k2) = true := by rw [beq_iff_eq]; exact h2
          have C := Lib.hid (And.intro h1 h2)
          clear h1 h2
          go_wp2
          go_ret
          refine ⟨?_, rfl⟩
          obtain ⟨rfl, rfl⟩ := C.out
          rw [idxI_at B.out A1.out]
          rfl
        · have t1 : (s == k1) = true := by rw [beq_iff_eq]; exact h1
          have t2 : (d == k2) = false := by rw [beq_eq_false_iff_ne]; exact h2
          have C := Lib.hid h2
          clear h1 h2
          go_wp2
          go_round
          case rel => exact ⟨k + 1, by omega, by go_num, not_more A1.out B.out (fun e => C.out (by rw [Prod.mk.injEq] at e; exact e.2))⟩
          case measure => simp [intOf]; omega
      · have t1 : (s == k1) = false := by rw [beq_eq_false_iff_ne]; exact h1
        have C := Lib.hid h1
        clear h1
        go_wp2
        go_round
        case rel => exact ⟨k + 1, by omega, by go_num, not_more A1.out B.out (fun e => C.out (by rw [Prod.mk.injEq] at e; exact e.1))⟩
        case measure => simp [intOf]; omega
    · go_wp2
      go_ret
      refine ⟨?_, rfl⟩
      rw [idxI_none (fun j p hp => A1.out j (by have := (List.getElem?_eq_some_iff.1 hp).1; omega) p hp)]
      rfl

theorem idx_look (l : IL) (q : Int × Int) (hn : (keysL l).Nodup) : (mLook l q = none ∧ idxI l q = -1) ∨ ∃ (k : Nat) (sl : Int), mLook l q = some sl ∧ idxI l q = k ∧ l[k]? = some (q, sl) ∧ k < l.length := by
  cases h : idxOf l q with
  | none =>
    refine .inl ⟨mLook_none.2 fun hm => ?_, by simp [idxI, h]⟩
    obtain ⟨p, hp, rfl⟩ := List.mem_map.1 hm
    have := List.findIdx?_eq_none_iff.1 h p hp
    simp at this
  | some k =>
    obtain ⟨hlt, he, _⟩ := List.findIdx?_eq_some_iff_getElem.1 h
    have he' : l[k].1 = q := by simpa using he
    have hk : l[k]? = some (q, l[k].2) := by rw [← he']; exact List.getElem?_eq_getElem hlt
    exact .inr ⟨k, l[k].2, mLook_at hn hk, by simp [idxI, h], hk, hlt⟩

set_option maxHeartbeats 1000000 in
theorem rput_old (w : World) (r : Nat) (l : IL) (h : RAt w r l) (k1 k2 v : Int) (hk : (mLook l (k1, k2)).isSome = true) (hn : (keysL l).Nodup) (hlen : l.length ≤ 1000) :
    Calls Try.prog 49 #[.pointer (some ⟨r, 0, none⟩), .int .i64 k1, .int .i64 k2, .int .i64 v] w fun e w' => e = .returned (.bool false) ∧ w = w' := by
  have hf := find_any w r l h k1 k2 hlen
  rcases idx_look l (k1, k2) hn with ⟨h1, _⟩ | ⟨k, sl, h1, h2, _, _⟩
  · rw [h1] at hk; cases hk
  rw [h2] at hf
  clear h1 h2 hk
  go_enter Try.func49, Try.ntmps49
  go_wp2_with fail
  refine hf.mono ?_
  rintro e w' ⟨rfl, rfl⟩
  clear hf
  go_wp2
  go_ret
  exact ⟨rfl, rfl⟩

set_option maxHeartbeats 1000000 in
theorem rput_new (w : World) (r : Nat) (l : IL) (h : RAt w r l) (k1 k2 v : Int) (hk : mLook l (k1, k2) = none) (hn : (keysL l).Nodup) (hlen : l.length ≤ 1000) :
    Calls Try.prog 49 #[.pointer (some ⟨r, 0, none⟩), .int .i64 k1, .int .i64 k2, .int .i64 v] w fun e w' => e = .returned (.bool true) ∧ RAt w' r (l ++ [((k1, k2), v)]) ∧ Chg [r] w w' := by
  have hf := find_any w r l h k1 k2 hlen
  rcases idx_look l (k1, k2) hn with ⟨h1, h2⟩ | ⟨k, sl, h1, h2, _, _⟩
  rotate_left
  · rw [h1] at hk; cases hk
  rw [h2] at hf
  clear h1 h2 hk
  have hr := h.lt
  obtain ⟨vL, hb, hs⟩ := h
  have c0 := blk1 hb
  go_enter Try.func49, Try.ntmps49
  go_wp2_with fail
  refine hf.mono ?_
  rintro e w' ⟨rfl, rfl⟩
  clear hf
  go_wp2_with (at_builtin; go_must (refine wpL_append' rfl _ _ 27 rfl rowR elem27 (w0 := w) (l := []) (Chg.alloc [] w (.cells #[] 78)) (SlAt.empty (heap_alloc_new w (.cells #[] 78)) rfl) (Fresh.of (Nat.le_refl _)) ((hs.chg (Chg.alloc [] w (.cells #[] 78)) (by simp)).src) rfl rfl (by simp; omega) (by omega) ?_))
  intro v1 W1 hs1 hC1 hF1 _
  have b1 := hC1.at_ hb (by simp)
  have hsz1 := hC1.size
  go_wp2_with (at_builtin; go_must (refine wpL_append' rfl _ _ 27 rfl rowR elem27 (w0 := w) (l2 := [((k1, k2), v)]) (hC1.trans (Chg.alloc [] W1 (.cells #[.int .i64 k1, .int .i64 k2, .int .i64 v] 78))) (hs1.chg (Chg.alloc [] W1 (.cells #[.int .i64 k1, .int .i64 k2, .int .i64 v] 78)) (by simp)) hF1 (SrcAt.one (renc := rowE) (a := ((k1, k2), v)) (t := 78) (fr := (0, 0)) (by exact heap_alloc_new W1 (.cells #[.int .i64 k1, .int .i64 k2, .int .i64 v] 78)) 1) rfl rfl (by simp; omega) (by omega) ?_))
  intro v2 W2 hs2 hC2 hF2 _
  have b2 := hC2.at_ hb (by simp)
  clear hs1 hC1 hF1 b1 hb hs c0
  obtain ⟨A2, c2, rfl, _⟩ := hs2.form
  have c0 := blk1 b2
  have f0 : W2.frozen? ⟨r, 0, none⟩ = false := by simp [World.frozen?, b2]
  go_wp2
  go_ret
  have hlen2 : (l ++ [((k1, k2), v)]).length = l.length + 1 := by simp
  rw [hlen2] at hs2 hF2
  refine ⟨rfl, ⟨_, blk_set b2 0 _, hs2.chg (Chg.setCell (S := [r]) W2 ⟨r, 0, none⟩ _ (by simp)) (hF2.not_in (by simp; omega))⟩, (hC2.mono (by simp)).trans (Chg.setCell (S := [r]) W2 ⟨r, 0, none⟩ _ (by simp))⟩

set_option maxHeartbeats 1000000 in
theorem rget_any (w : World) (r : Nat) (l : IL) (h : RAt w r l) (k1 k2 : Int) (hn : (keysL l).Nodup) (hlen : l.length ≤ 1000) :
    Calls Try.prog 50 #[.pointer (some ⟨r, 0, none⟩), .int .i64 k1, .int .i64 k2] w fun e w' => e = .returned (.tuple #[.int .i64 ((mLook l (k1, k2)).getD 0), .bool (mLook l (k1, k2)).isSome]) ∧ w = w' := by
  have hf := find_any w r l h k1 k2 hlen
  rcases idx_look l (k1, k2) hn with ⟨h1, h2⟩ | ⟨k, sl, h1, h2, h3, h4⟩
  · rw [h2] at hf
    rw [h1]
    clear h1 h2
    go_enter Try.func50, Try.ntmps50
    go_wp2_with fail
    refine hf.mono ?_
    rintro e w' ⟨rfl, rfl⟩
    clear hf
    go_wp2
    go_ret2
    exact ⟨rfl, rfl⟩
  · rw [h2] at hf
    rw [h1]
    obtain ⟨vL, hb, hs⟩ := h
    obtain ⟨A, c, rfl, _, hA⟩ := hs.form
    obtain ⟨g, rfl⟩ := hA (by omega)
    obtain ⟨_, _, e2⟩ := rows_at hs h3
    have c0 := blk1 hb
    clear h1 h2 h3 hA
    go_enter Try.func50, Try.ntmps50
    go_wp2_with fail
    refine hf.mono ?_
    rintro e w' ⟨rfl, rfl⟩
    clear hf
    go_wp2
    go_ret2
    exact ⟨rfl, rfl⟩

theorem delL_cut {l : IL} {q : Int × Int} {k : Nat} {sl : Int} (hn : (keysL l).Nodup) (h : l[k]? = some (q, sl)) : [] ++ l.take k ++ l.drop (k + 1) = delL l q := by
  rw [← eraseIdx_del hn h, List.nil_append, List.eraseIdx_eq_take_drop_succ]

set_option maxHeartbeats 1000000 in
theorem rdrop_no (w : World) (r : Nat) (l : IL) (h : RAt w r l) (k1 k2 : Int) (hk : mLook l (k1, k2) = none) (hn : (keysL l).Nodup) (hlen : l.length ≤ 1000) :
    Calls Try.prog 51 #[.pointer (some ⟨r, 0, none⟩), .int .i64 k1, .int .i64 k2] w fun e w' => e = .returned (.bool false) ∧ w = w' := by
  have hf := find_any w r l h k1 k2 hlen
  rcases idx_look l (k1, k2) hn with ⟨h1, h2⟩ | ⟨k, sl, h1, h2, h3, h4⟩
  rotate_left
  · rw [h1] at hk; cases hk
  rw [h2] at hf
  clear h1 h2 hk
  go_enter Try.func51, Try.ntmps51
  go_wp2_with fail
  refine hf.mono ?_
  rintro e w' ⟨rfl, rfl⟩
  clear hf
  go_wp2
  go_ret
  exact ⟨rfl, rfl⟩

end Go.Proofs.Ytdcjfaplgpeonaa
