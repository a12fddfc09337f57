/-
  The law ArenaHolds, walked.
-/
import Derived.Test.YtdcjfaplgpeonaaAb
import Derived.Deep.OwnRows
namespace Go.Proofs.Ytdcjfaplgpeonaa
open Go.RowKit Go.Dm

theorem made1 (n : Nat) : madeCells #[.int .i64 0] n = Array.replicate n (.int .i64 0) := by
  apply Array.ext
  · simp [madeCells]
  · intro i h1 h2; simp [madeCells, Nat.mod_one]
theorem make48 (n : Nat) (hn : n ≤ 1000) (w : World) : (Instr.makeSlice 48 (.int .i64 (n : Int)) (.int .i64 (n : Int))).run Try.prog w = .ok (.slice (some ⟨w.heap.size, 0, none⟩) n n) (w.alloc (.cells (Array.replicate n (.int .i64 0)) 3)) := by
  rw [run_make_row' 48 3 (.int .i64 0) 8 Try.underlying48 (by kernel_rfl) rfl .i64 .i64 n (by omega) (by omega) w, made1]
theorem ints_made (w : World) (t n : Nat) : IntsAt (w.alloc (.cells (Array.replicate n (.int .i64 0)) t)) w.heap.size t n (fun _ => 0) :=
  ⟨_, heap_alloc_new w _, by simp, fun j hj => by simp [hj]⟩
theorem _root_.Go.Dm.Chg.putIn {S : List Nat} {w W : World} {g j : Nat} {u : Value} (h : Chg S w W) (hg : g ∈ S ∨ w.heap.size ≤ g) : Chg S w (W.setCell ⟨g, j, none⟩ u) :=
  h.trans' (Chg.setCell (S := [g]) W ⟨g, j, none⟩ u (by simp)) (fun _ hi => .inl hi) (fun i hi => by simp at hi; subst hi; exact hg)

/-- The orders that came in lie in memory. -/
def OrdsAt (w : World) (A : Option Addr) (l : List (Nat → Int)) : Prop :=
  l = [] ∨ ∃ b off, A = some ⟨b, off, none⟩ ∧ b < w.heap.size ∧ ∀ i o, l[i]? = some o → ∀ j, j < 7 → w.cell? ⟨b, off + i * 7 + j, none⟩ = some (.int .i64 (o j))

structure Hold (n i : Nat) (l : List (Nat → Int)) (c : Nat → Int) : Prop where
  size : c 4000 = n
  used : c 4002 = i
  free : c 4001 = if i < n then (i : Int) else -1
  low : ∀ j, j < i → c (j * 8 + 7) = -2
  ord : ∀ (j : Nat) o, j < i → l[j]? = some o → ∀ q, q < 7 → c (j * 8 + q) = o q
  high : ∀ j, i ≤ j → j < n → c (j * 8 + 7) = if j + 1 < n then ((j + 1 : Nat) : Int) else -1

theorem hold_new (n : Nat) (h0 : 1 ≤ n) (h1 : n ≤ 500) (l : List (Nat → Int)) : Hold n 0 l (newC n) := by
  refine ⟨?_, ?_, ?_, by omega, by omega, ?_⟩
  · unfold newC; rw [upd_ne (by omega)]; simp [newR]
  · unfold newC; rw [upd_ne (by omega)]; simp [newR]
  · unfold newC; rw [upd_ne (by omega), if_pos (by omega)]; simp [newR]
  · intro j _ hj
    by_cases e : j + 1 < n
    · unfold newC
      rw [upd_ne (by omega), if_pos e]
      have h1 : j * 8 + 7 ≠ 4000 := by omega
      have h2 : (j * 8 + 7) % 8 = 7 := by omega
      have h3 : (j * 8 + 7) / 8 = j := by omega
      simp [newR, h1, h2, h3, hj]
    · have : n - 1 = j := by omega
      unfold newC
      rw [this, if_neg e, upd_same]

theorem updO_out {c : Nat → Int} {k : Nat} {o : Nat → Int} {j : Nat} (h : j < k ∨ k + 7 ≤ j) : updO c k o j = c j := by
  unfold updO
  rw [upd_ne (by omega), upd_ne (by omega), upd_ne (by omega), upd_ne (by omega), upd_ne (by omega), upd_ne (by omega), upd_ne (by omega)]
theorem updO_in {c : Nat → Int} {k : Nat} {o : Nat → Int} {q : Nat} (h : q < 7) : updO c k o (k + q) = o q := by
  unfold updO upd
  match q, h with
  | 0, _ => simp
  | 1, _ => simp
  | 2, _ => simp
  | 3, _ => simp
  | 4, _ => simp
  | 5, _ => simp
  | 6, _ => simp
def tookC (c : Nat → Int) (k : Nat) (o : Nat → Int) : Nat → Int := upd (upd (updO (upd c 4001 (c (k * 8 + 7))) (k * 8) o) (k * 8 + 7) (-2)) 4002 (c 4002 + 1)
theorem took_4000 {c : Nat → Int} {k : Nat} {o : Nat → Int} (hk : k < 500) : tookC c k o 4000 = c 4000 := by
  unfold tookC; rw [upd_ne (by omega), upd_ne (by omega), updO_out (by omega), upd_ne (by omega)]
theorem took_4001 {c : Nat → Int} {k : Nat} {o : Nat → Int} (hk : k < 500) : tookC c k o 4001 = c (k * 8 + 7) := by
  unfold tookC; rw [upd_ne (by omega), upd_ne (by omega), updO_out (by omega), upd_same]
theorem took_4002 {c : Nat → Int} {k : Nat} {o : Nat → Int} : tookC c k o 4002 = c 4002 + 1 := by
  unfold tookC; rw [upd_same]
theorem took_next {c : Nat → Int} {k : Nat} {o : Nat → Int} (_hk : k < 500) : tookC c k o (k * 8 + 7) = -2 := by
  unfold tookC; rw [upd_ne (by omega), upd_same]
theorem took_ord {c : Nat → Int} {k : Nat} {o : Nat → Int} (hk : k < 500) {q : Nat} (hq : q < 7) : tookC c k o (k * 8 + q) = o q := by
  unfold tookC; rw [upd_ne (by omega), upd_ne (by omega), updO_in hq]
theorem took_other {c : Nat → Int} {k j : Nat} {o : Nat → Int} (hj : j < 500) (hne : j ≠ k) {q : Nat} (hq : q < 8) : tookC c k o (j * 8 + q) = c (j * 8 + q) := by
  unfold tookC; rw [upd_ne (by omega), upd_ne (by omega), updO_out (by omega), upd_ne (by omega)]

theorem hold_step {n i : Nat} {l : List (Nat → Int)} {c : Nat → Int} {o : Nat → Int} (h : Hold n i l c) (hi : i < n) (h1 : n ≤ 500) (ho : l[i]? = some o) : Hold n (i + 1) l (tookC c i o) := by
  refine ⟨?_, ?_, ?_, ?_, ?_, ?_⟩
  · rw [took_4000 (by omega)]; exact h.size
  · rw [took_4002, h.used]; rfl
  · rw [took_4001 (by omega), h.high i (Nat.le_refl _) hi]
  · intro j hj
    by_cases e : j = i
    · subst e; exact took_next (by omega)
    · rw [took_other (by omega) e (by omega)]; exact h.low j (by omega)
  · intro j o' hj ho' q hq
    by_cases e : j = i
    · subst e
      rw [ho] at ho'; cases ho'
      exact took_ord (by omega) hq
    · rw [took_other (by omega) e (by omega)]; exact h.ord j o' (by omega) ho' q hq
  · intro j hj hjn
    rw [took_other (by omega) (by omega) (by omega)]; exact h.high j (by omega) hjn

/-- Where the orders were put: at j, j + 1. -/
def seat (i : Nat) : Nat → Int := fun j => if j < i then (j : Int) + 1 else 0

structure HoldsRel1 (w : World) (n : Nat) (l : List (Nat → Int)) (b a : Nat) (m : Nat) (i : Value) (wr : World) : Prop where
  ex : ∃ (k : Nat) (c : Nat → Int), k ≤ l.length ∧ m = l.length - k + 1 ∧ i = .int .i64 k ∧ Hold n (min k n) l c ∧ ArAt wr b c ∧ IntsAt wr a 3 n (seat (min k n)) ∧ Chg [] w wr

structure HoldsRel2 (w : World) (n : Nat) (l : List (Nat → Int)) (c : Nat → Int) (b a : Nat) (m : Nat) (i : Value) (wr : World) : Prop where
  ex : ∃ k : Nat, k ≤ n ∧ m = n - k + 1 ∧ i = .int .i64 k ∧ ArAt wr b c ∧ IntsAt wr a 3 n (seat (min l.length n)) ∧ Chg [] w wr

set_option maxRecDepth 100000 in
set_option maxHeartbeats 2000000 in
theorem holds_any (w : World) (A : Option Addr) (cap : Nat) (slots : Int) (l : List (Nat → Int)) (h : OrdsAt w A l) :
    Calls Try.prog 5 #[.int .i64 slots, .slice A l.length cap] w fun e w' => e = .returned (.bool true) ∧ Chg [] w w' := by
  by_cases hbig : (l.length : Int) > 60 ∨ slots < 1 ∨ slots > 60
  · have hB := Lib.hid hbig
    clear hbig
    by_cases b1 : (l.length : Int) > 60
    · go_enter Try.func5, Try.ntmps5
      go_wp2_with fail
      refine (alive09 _).mono ?_
      rintro e w' ⟨rfl, hC⟩
      go_wp2
      go_ret
      exact ⟨rfl, hC⟩
    · by_cases b2 : slots < 1
      · go_enter Try.func5, Try.ntmps5
        go_wp2_with fail
        refine (alive09 _).mono ?_
        rintro e w' ⟨rfl, hC⟩
        go_wp2
        go_ret
        exact ⟨rfl, hC⟩
      · have b3 : slots > 60 := by have := hB.out; omega
        go_enter Try.func5, Try.ntmps5
        go_wp2_with fail
        refine (alive09 _).mono ?_
        rintro e w' ⟨rfl, hC⟩
        go_wp2
        go_ret
        exact ⟨rfl, hC⟩
  · obtain ⟨n, rfl⟩ := Int.eq_ofNat_of_zero_le (show 0 ≤ slots by omega)
    have b1 : ¬ (l.length : Int) > 60 := by omega
    have b2 : ¬ (n : Int) < 1 := by omega
    have b3 : ¬ (n : Int) > 60 := by omega
    have n0 : 1 ≤ n := by omega
    have n1 : n ≤ 60 := by omega
    clear hbig
    go_enter Try.func5, Try.ntmps5
    go_wp2_with fail
    refine (new09 _ n n0 (by omega)).mono ?_
    rintro e W1 ⟨rfl, h1, hC1⟩
    have hmk := make48 n (by omega)
    have hS := ints_made W1 3 n
    have hC2 := hC1.trans (Chg.alloc [] W1 (.cells (Array.replicate n (.int .i64 0)) 3))
    have hR : HoldsRel1 w n l w.heap.size W1.heap.size (l.length + 1) (.int .i64 0) (W1.alloc (.cells (Array.replicate n (.int .i64 0)) 3)) :=
      ⟨0, newC n, Nat.zero_le _, rfl, rfl, by rw [Nat.zero_min]; exact hold_new n n0 (by omega) l, h1.chg (Chg.alloc [] _ _) (by simp), by rw [Nat.zero_min]; exact hS.ext (fun j _ => by simp [seat]), hC2⟩
    have ha : w.heap.size < W1.heap.size := h1.lt
    clear hS hC2 hC1 h1
    go_wp2_with fail
    clear hmk
    go_loopg [8] (l.length + 1) (fun m i wr => HoldsRel1 w n l w.heap.size W1.heap.size m i wr)
    case atStart => exact hR
    case round =>
      clear hR
      obtain ⟨k, c, hk, hm, rfl, hH, hI, hS, hC⟩ := hrel
      have Hm := Lib.hid hm
      clear hm
      by_cases hlt : k < l.length
      · rcases h with h | ⟨b, off, rfl, hbl, hcells⟩
        · subst h; simp at hlt
        obtain ⟨o, ho⟩ : ∃ o, l[k]? = some o := ⟨l[k], by simp [hlt]⟩
        have hc := hcells k o ho
        have c0 := hC.cell (show w.cell? ⟨b, off + k * 7, none⟩ = some (.int .i64 (o 0)) from hc 0 (by omega)) (by simp)
        have c1 := hC.cell (hc 1 (by omega)) (by simp)
        have c2 := hC.cell (hc 2 (by omega)) (by simp)
        have c3 := hC.cell (hc 3 (by omega)) (by simp)
        have c4 := hC.cell (hc 4 (by omega)) (by simp)
        have c5 := hC.cell (hc 5 (by omega)) (by simp)
        have c6 := hC.cell (hc 6 (by omega)) (by simp)
        have hbr : b < wr.heap.size := by have := hC.size; omega
        have k0 : (0 : Int) ≤ (k : Int) := Int.natCast_nonneg _
        have k1 : (k : Int) < (l.length : Int) := by omega
        clear hcells hc
        by_cases hkn : k < n
        · have hmin : min k n = k := by omega
          have hmin1 : min (k + 1) n = k + 1 := by omega
          rw [hmin] at hH hS
          have k2 : ¬ ((k : Int) ≥ (n : Int)) := by omega
          have k3 : (k : Int) < (n : Int) := by omega
          have k4 : ¬ ((k : Int) < 0) := by omega
          have hst := hold_step hH hkn (by omega) ho
          have ht := take09_yes wr w.heap.size c hI k (by rw [hH.free, if_pos hkn]) (by omega) o (by rw [hH.used]; exact wrapOk (by omega) (by omega))
          have HH := Lib.hid hst
          clear hst hH
          unfold oV at ht
          go_wp2_with fail
          refine ht.mono ?_
          rintro e W2 ⟨rfl, hI2, hC2⟩
          clear ht
          have hS2 := hS.chg hC2 (by simp; omega)
          have hD2 : Chg [] w W2 := hC.trans' hC2 (by simp) (by simp)
          have s0 := hS2.cell (j := k) hkn
          have f0 := hS2.free k
          rw [show seat k k = 0 by simp [seat]] at s0
          have hb2 := hS2.lt
          clear c0 c1 c2 c3 c4 c5 c6 hS hC hC2 hI hbr
          have hwk : IntKind.i64.wrap ((k : Int) + 1) = (k : Int) + 1 := wrapOk (by omega) (by omega)
          go_wp2
          go_roundg (l.length - (k + 1) + 1)
          case measure => rw [Hm.out]; omega
          case rel =>
            exact ⟨k + 1, _, by omega, rfl, by go_num, by rw [hmin1]; exact HH.out, hI2.chg (Chg.setCell (S := [W1.heap.size]) _ _ _ (by simp)) (by simp; omega), by
              rw [hmin1]
              refine (hS2.set _ _).ext fun j hj => ?_
              unfold upd seat
              by_cases e : j = k
              · subst e; simp
              · rw [if_neg e]
                have : (j < k) ↔ (j < k + 1) := by omega
                simp only [this], hD2.putIn (.inr (by omega))⟩
        · have hmin : min k n = n := by omega
          have hmin1 : min (k + 1) n = n := by omega
          rw [hmin] at hH hS
          have k2 : ((k : Int) ≥ (n : Int)) := by omega
          have ht := take09_full wr w.heap.size c hI (by rw [hH.free, if_neg (by omega)]) o
          have HH := Lib.hid hH
          clear hH
          unfold oV at ht
          go_wp2_with fail
          refine ht.mono ?_
          rintro e W2 ⟨rfl, hC2⟩
          clear ht
          have hS2 := hS.chg hC2 (by simp)
          have hI2 := hI.chg hC2 (by simp)
          have hD2 : Chg [] w W2 := hC.trans hC2
          clear c0 c1 c2 c3 c4 c5 c6 hS hC hC2 hI hbr
          go_wp2
          go_roundg (l.length - (k + 1) + 1)
          case measure => rw [Hm.out]; omega
          case rel =>
            exact ⟨k + 1, _, by omega, rfl, by go_num, by rw [hmin1]; exact HH.out, hI2, by rw [hmin1]; exact hS2, hD2⟩
      · have hkl : k = l.length := by omega
        subst hkl
        clear Hm hk
        go_wp2_with fail
        go_loopg [11] (n + 1) (fun m i wr => HoldsRel2 w n l c w.heap.size W1.heap.size m i wr)
        case atStart => exact ⟨⟨0, Nat.zero_le _, rfl, rfl, hI, hS, hC⟩⟩
        case round =>
          clear hI hS hC
          obtain ⟨k, hk, hm, rfl, hI, hS, hC⟩ := hrel
          have Hm := Lib.hid hm
          clear hm
          by_cases hlt : k < n
          · have k0 : (0 : Int) ≤ (k : Int) := Int.natCast_nonneg _
            have k1 : (k : Int) < (n : Int) := by omega
            have hsz := hH.size
            by_cases hkm : k < l.length
            · rcases h with h | ⟨b, off, rfl, hbl, hcells⟩
              · subst h; simp at hkm
              obtain ⟨o, ho⟩ : ∃ o, l[k]? = some o := ⟨l[k], by simp [hkm]⟩
              have hc := hcells k o ho
              have hg := get09_yes wr w.heap.size c hI k (by rw [hsz]; exact k1) (by rw [hsz]; omega) (hH.low k (by omega))
              have hoo : oV (ordAt c (k * 8)) = oV o := by
                have h0 := hH.ord k o (by omega) ho 0 (by omega)
                have h1 := hH.ord k o (by omega) ho 1 (by omega)
                have h2 := hH.ord k o (by omega) ho 2 (by omega)
                have h3 := hH.ord k o (by omega) ho 3 (by omega)
                have h4 := hH.ord k o (by omega) ho 4 (by omega)
                have h5 := hH.ord k o (by omega) ho 5 (by omega)
                have h6 := hH.ord k o (by omega) ho 6 (by omega)
                simp only [oV, ordAt, h0, h1, h2, h3, h4, h5, h6]
              rw [hoo] at hg
              unfold oV at hg
              have hs : seat (min l.length n) k = (k : Int) + 1 := by simp only [seat]; rw [if_pos (by omega)]
              have HH := Lib.hid hH
              clear hoo hH hsz
              go_wp2_with fail
              refine hg.mono ?_
              rintro e W2 ⟨rfl, hC2⟩
              clear hg
              have hI2 := hI.chg hC2 (by simp)
              have hS2 := hS.chg hC2 (by simp)
              have hD2 := hC.trans hC2
              have hS3 := hS2.chg (Chg.alloc [] W2 (.cells (oCs o) 52)) (by simp)
              have hD3 := hD2.trans (Chg.alloc [] W2 (.cells (oCs o) 52))
              have s0 := hS3.cell (j := k) hlt
              rw [hs] at s0
              have c0 := hD3.cell (show w.cell? ⟨b, off + k * 7, none⟩ = some (.int .i64 (o 0)) from hc 0 (by omega)) (by simp)
              have c1 := hD3.cell (hc 1 (by omega)) (by simp)
              have c2 := hD3.cell (hc 2 (by omega)) (by simp)
              have c3 := hD3.cell (hc 3 (by omega)) (by simp)
              have c4 := hD3.cell (hc 4 (by omega)) (by simp)
              have c5 := hD3.cell (hc 5 (by omega)) (by simp)
              have c6 := hD3.cell (hc 6 (by omega)) (by simp)
              have hB := heap_alloc_new W2 (.cells (oCs o) 52)
              obtain ⟨x0, x1, x2, x3, x4, x5, x6⟩ := blk7 hB
              have e1 : decide ((k : Int) + 1 > 0) = true := by apply decide_eq_true; omega
              have e2 : IntKind.i64.wrap ((k : Int) + 1 - 1) = (k : Int) := by rw [wrapOk (by omega) (by omega)]; omega
              have k2 : (k : Int) < (l.length : Int) := by omega
              clear hc hcells ho hI hS hC hC2 hS2 hB hs
              unfold oCs at *
              go_wp2_with fail
              go_quiet (fail)
              go_wp2
              have hI3 := hI2.chg ((Chg.alloc [] W2 (.cells (oCs o) 52)).trans (Chg.drewN _ _ nq)) (by simp)
              have hS4 := hS3.chg (Chg.drewN [] _ nq) (by simp)
              have hD4 := hD3.trans (Chg.drewN [] _ nq)
              unfold oCs at hI3
              go_roundg (n - (k + 1) + 1)
              case measure => rw [Hm.out]; omega
              case rel => exact ⟨k + 1, by omega, rfl, by go_num, hI3, hS4, hD4⟩
            · have htk : takenI c (k : Int) = false := by
                have h1 := hH.high k (by omega) hlt
                have h2 : ¬ c (8 * k + 7) = -2 := by rw [Nat.mul_comm 8 k, h1]; split <;> omega
                simp [takenI, h2]
              have hg := get09_no wr w.heap.size c hI k (by rw [hsz]; omega) htk
              have hs : seat (min l.length n) k = 0 := by simp only [seat]; rw [if_neg (by omega)]
              have HH := Lib.hid hH
              clear hH hsz htk
              unfold oV at hg
              go_wp2_with fail
              refine hg.mono ?_
              rintro e W2 ⟨rfl, hC2⟩
              clear hg
              have hI2 := hI.chg hC2 (by simp)
              have hS2 := hS.chg hC2 (by simp)
              have hD2 := hC.trans hC2
              have hS3 := hS2.chg (Chg.alloc [] W2 (.cells (oCs (fun _ => 0)) 52)) (by simp)
              have hD3 := hD2.trans (Chg.alloc [] W2 (.cells (oCs (fun _ => 0)) 52))
              have s0 := hS3.cell (j := k) hlt
              rw [hs] at s0
              have hl0 : (0 : Int) ≤ (l.length : Int) := Int.natCast_nonneg _
              clear hI hS hC hC2 hS2 hs
              unfold oCs at *
              go_wp2_with fail
              go_quiet (fail)
              go_wp2
              have hI3 := hI2.chg ((Chg.alloc [] W2 (.cells (oCs (fun _ => 0)) 52)).trans (Chg.drewN _ _ nq)) (by simp)
              have hS4 := hS3.chg (Chg.drewN [] _ nq) (by simp)
              have hD4 := hD3.trans (Chg.drewN [] _ nq)
              unfold oCs at hI3
              go_roundg (n - (k + 1) + 1)
              case measure => rw [Hm.out]; omega
              case rel => exact ⟨k + 1, by omega, rfl, by go_num, hI3, hS4, hD4⟩
          · go_wp2_with fail
            refine (alive09 _).mono ?_
            rintro e w' ⟨rfl, hC2⟩
            have hD2 := hC.trans hC2
            clear hC2 hI hS hC
            go_wp2
            go_ret
            exact ⟨rfl, hD2⟩
end Go.Proofs.Ytdcjfaplgpeonaa
