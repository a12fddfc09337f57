/-
  The books of some orders: the program's and the reference's.
-/
import Derived.Test.YtdcjfaplgpeonaaFd
namespace Go.Proofs.Ytdcjfaplgpeonaa
open Go.RowKit Go.Dm

/-- The orders that are taken. -/
def bookL (l : List Ord) : List Ord := l.foldl addL []
theorem bookL_succ (l : List Ord) (k : Nat) (o : Ord) (h : l[k]? = some o) : bookL (l.take (k + 1)) = addL (bookL (l.take k)) o := by
  unfold bookL
  have hk := (List.getElem?_eq_some_iff.1 h).1
  rw [List.take_succ_eq_append_getElem hk, List.foldl_append, (List.getElem?_eq_some_iff.1 h).2]
  rfl
theorem addL_len (l : List Ord) (o : Ord) : (addL l o).length ≤ l.length + 1 := by unfold addL; split <;> simp
theorem bookL_len' : ∀ (l acc : List Ord), (l.foldl addL acc).length ≤ acc.length + l.length
  | [], acc => by simp
  | o :: l, acc => by
    have h1 := bookL_len' l (addL acc o)
    have h2 := addL_len acc o
    simp only [List.foldl_cons, List.length_cons]
    omega
theorem bookL_len (l : List Ord) : (bookL l).length ≤ l.length := by have := bookL_len' l []; simpa [bookL] using this
theorem bookL_ok' : ∀ (l acc : List Ord), (∀ o ∈ acc, okO o = true) → ∀ o ∈ l.foldl addL acc, okO o = true
  | [], acc, h => h
  | p :: l, acc, h => by
    simp only [List.foldl_cons]
    refine bookL_ok' l (addL acc p) fun o ho => ?_
    unfold addL at ho
    split at ho
    · rename_i ht
      rcases List.mem_append.1 ho with ho | ho
      · exact h o ho
      · simp at ho; subst ho
        simp only [takes, Bool.and_eq_true] at ht
        exact ht.1
    · exact h o ho
theorem bookL_ok (l : List Ord) : ∀ o ∈ bookL l, okO o = true := bookL_ok' l [] (by simp)

theorem BkR.kind {w : World} {r : Nat} {l : List Ord} (h : BkR w r l) : KindIs w r 127 := by obtain ⟨v, h, _⟩ := h; exact ⟨_, h⟩
theorem BkR.touch {w w' : World} {D r : Nat} {l : List Ord} (h : BkR w r l) (hT : Touch D w w') : BkR w' r l := by
  obtain ⟨T, hC, hk⟩ := hT
  refine h.chg hC (fun hm => (hk r hm).2.2.2 h.kind) (fun k hm => .inr ?_)
  obtain ⟨_, h2, h3, _⟩ := hk k hm
  exact ⟨w.heap[k], by simp [h2], fun cs e => h3 ⟨cs, by rw [← e]; simp [h2]⟩⟩
theorem PB.keep {w w' : World} {D r : Nat} {B : Bkb} {L : List Ord} {lv0 lv1 : List Lvl} {v0 v1 : Value} (h : PB w D B L lv0 lv1 v0 v1) (hC : Chg [r] w w') (hk : KindIs w r 127) : PB w' D B L lv0 lv1 v0 v1 := by
  obtain ⟨c, ha, hh⟩ := h.ar
  obtain ⟨il, hx, hi, hl⟩ := h.ix
  have one : ∀ {z t : Nat}, KindIs w z t → t ≠ 127 → z ∉ [r] := fun hz ht => by simpa using hz.ne hk ht
  have sd : ∀ {sd : Int} {S : Sdb} {lv : List Lvl} {v : Value}, SdAt w D sd S L lv v → SdAt w' D sd S L lv v := fun hs => by
    obtain ⟨nf, ef, hf, _⟩ := hs.ff
    exact hs.chg hC (one ⟨_, hs.ld⟩ (by decide)) (one ⟨_, hf.blk⟩ (by decide)) (one hf.nds.kind (by decide)) (one hf.eds.kind (by decide)) (fun g hg => one (hs.sl.kind hg) (by decide))
  exact ⟨hC.at_ h.blk (one ⟨_, h.blk⟩ (by decide)), ⟨c, ha.chg hC (one ha.kind (by decide)), hh⟩,
    ⟨il, hx.chg hC (one hx.kind (by decide)) (by simpa using Ne.symm (hk.ne' hx.map1)) (by simpa using Ne.symm (hk.ne' hx.map2)), hi, hl⟩, sd h.s0, sd h.s1,
    h.al, h.aq, h.an, h.ae, h.av, h.db, h.da, h.dx, h.d1, h.d2⟩

def BooksRel (w : World) (l : List Ord) (B : Bkb) (r : Nat) (m : Nat) (i : Value) (wr : World) : Prop :=
  ∃ k : Nat, k ≤ l.length ∧ m = l.length - k + 1 ∧ i = .int .i64 k ∧ (∃ lv0 lv1 v0 v1, PB wr w.heap.size B (bookL (l.take k)) lv0 lv1 v0 v1) ∧ BkR wr r (bookL (l.take k)) ∧ Chg [] w wr

set_option maxRecDepth 100000 in
set_option maxHeartbeats 4000000 in
theorem books42 (w : World) (A : Option Addr) (cap : Nat) (l : List Ord) (h : OrdsAt w A l) (hlen : l.length ≤ 60) :
    Calls Try.prog 42 #[.slice A l.length cap] w fun e w' => ∃ B r, e = .returned (.tuple #[.pointer (some ⟨B.b, 0, none⟩), .pointer (some ⟨r, 0, none⟩)]) ∧
      (∃ lv0 lv1 v0 v1, PB w' w.heap.size B (bookL l) lv0 lv1 v0 v1) ∧ BkR w' r (bookL l) ∧ Chg [] w w' ∧ w.heap.size ≤ r := by
  go_enter Try.func42, Try.ntmps42
  go_wp2_with fail
  refine (bnew w w.heap.size (Nat.le_refl _)).mono ?_
  rintro e W1 ⟨B, rfl, hP1, hC1⟩
  go_wp2_with fail
  refine (rbnew W1).mono ?_
  rintro e W2 ⟨rfl, hR2, hC2⟩
  have hP2 := hP1.apart hC2
  have hC12 := hC1.trans hC2
  have z1 := hC1.size
  clear hP1 hC1 hC2
  go_wp2_with fail
  go_loopg [8] (l.length + 1) (fun m i wr => BooksRel w l B W1.heap.size m i wr)
  case atStart => exact ⟨0, Nat.zero_le _, rfl, rfl, ⟨_, _, _, _, hP2⟩, hR2, hC12⟩
  case round =>
    clear hP2 hR2 hC12
    obtain ⟨k, hk, hm, rfl, ⟨lv0, lv1, v0, v1, hP⟩, hR, hC⟩ := hrel
    have Hm := Lib.hid hm
    clear hm
    by_cases hlt : k < l.length
    · rcases h with h | ⟨b, off, rfl, hbl, hcells⟩
      · subst h; simp at hlt
      obtain ⟨o, ho⟩ : ∃ o, l[k]? = some o := ⟨l[k], by simp [hlt]⟩
      have hb9 : b < wr.heap.size := by have := hC.size; omega
      have c0 : wr.cell? ⟨b, off + k * 7, none⟩ = some (.int .i64 (o 0)) := hC.cell (hcells k o ho 0 (by omega)) (by simp)
      have c1 := hC.cell (hcells k o ho 1 (by omega)) (by simp)
      have c2 := hC.cell (hcells k o ho 2 (by omega)) (by simp)
      have c3 := hC.cell (hcells k o ho 3 (by omega)) (by simp)
      have c4 := hC.cell (hcells k o ho 4 (by omega)) (by simp)
      have c5 := hC.cell (hcells k o ho 5 (by omega)) (by simp)
      have c6 := hC.cell (hcells k o ho 6 (by omega)) (by simp)
      have k0 : (0 : Int) ≤ (k : Int) := Int.natCast_nonneg _
      have k1 : (k : Int) < (l.length : Int) := by omega
      have hbl9 : (bookL (l.take k)).length < 60 := by
        have := bookL_len (l.take k)
        have := List.length_take_le k l
        omega
      have hHC := Lib.hid hcells
      have HO := Lib.hid ho
      have hadd := badd wr w.heap.size B _ lv0 lv1 v0 v1 hP hC.size hbl9 o
      unfold oV at hadd
      clear hcells ho
      go_wp2_with fail
      refine hadd.mono ?_
      rintro e W4 ⟨⟨n4, rfl⟩, ⟨lv0', lv1', v0', v1', hP4⟩, hT4⟩
      have hR4 := hR.touch hT4
      have hC4 : Chg [] w W4 := by
        obtain ⟨T, hCT, hk⟩ := hT4
        exact hC.trans' hCT (by simp) (fun i hi => .inr (hk i hi).1)
      clear hadd c0 c1 c2 c3 c4 c5 c6 hP hT4 hC hb9
      have hb9 : b < W4.heap.size := by have := hC4.size; omega
      have c0 : W4.cell? ⟨b, off + k * 7, none⟩ = some (.int .i64 (o 0)) := hC4.cell (hHC.out k o HO.out 0 (by omega)) (by simp)
      have c1 := hC4.cell (hHC.out k o HO.out 1 (by omega)) (by simp)
      have c2 := hC4.cell (hHC.out k o HO.out 2 (by omega)) (by simp)
      have c3 := hC4.cell (hHC.out k o HO.out 3 (by omega)) (by simp)
      have c4 := hC4.cell (hHC.out k o HO.out 4 (by omega)) (by simp)
      have c5 := hC4.cell (hHC.out k o HO.out 5 (by omega)) (by simp)
      have c6 := hC4.cell (hHC.out k o HO.out 6 (by omega)) (by simp)
      have hrb := rbadd W4 W1.heap.size _ hR4 o hbl9
      unfold oV at hrb
      go_wp2_with fail
      refine hrb.mono ?_
      rintro e W5 ⟨⟨n5, rfl⟩, hR5, hC5⟩
      have hP5 := hP4.keep hC5 hR4.kind
      have hC6 : Chg [] w W5 := hC4.trans' hC5 (by simp) (by simp; omega)
      rw [← bookL_succ l k o HO.out] at hP5 hR5
      clear hrb c0 c1 c2 c3 c4 c5 c6 hP4 hR4 hC4 hC5 hR hb9
      go_wp2_with fail
      go_roundg (l.length - (k + 1) + 1)
      case measure => rw [Hm.out]; omega
      case rel => exact ⟨k + 1, by omega, rfl, by go_num, ⟨_, _, _, _, hP5⟩, hR5, hC6⟩
    · obtain rfl : k = l.length := by omega
      rw [List.take_length] at hP hR
      go_wp2
      go_ret2
      exact ⟨B, W1.heap.size, rfl, ⟨_, _, _, _, hP⟩, hR, hC, z1⟩
end Go.Proofs.Ytdcjfaplgpeonaa
