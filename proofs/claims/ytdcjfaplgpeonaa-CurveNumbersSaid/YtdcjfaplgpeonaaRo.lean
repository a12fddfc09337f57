/-
  The reference's index: Of (a symbol's rows, by IDs).
-/
import Derived.Test.YtdcjfaplgpeonaaRc
import Derived.Deep.CutBlock
import Derived.Deep.DeepCutAuto
namespace Go.Proofs.Ytdcjfaplgpeonaa
open Go.RowKit Go.Dm

abbrev IP := (Int × Int) × Int
def lower (d : Int) (q : IP) : Bool := decide (q.1.2 < d)
def insRow (out : IL) (p : IP) : IL := out.takeWhile (lower p.1.2) ++ p :: out.dropWhile (lower p.1.2)
def ofL (l : IL) (s : Int) : IL := l.foldl (fun out p => if p.1.1 = s then insRow out p else out) []

theorem ofL_snoc (l : IL) (p : IP) (s : Int) : ofL (l ++ [p]) s = if p.1.1 = s then insRow (ofL l s) p else ofL l s := by
  unfold ofL; rw [List.foldl_append]; rfl
theorem insRow_length (out : IL) (p : IP) : (insRow out p).length = out.length + 1 := by
  have := congrArg List.length (List.takeWhile_append_dropWhile (p := lower p.1.2) (l := out))
  simp only [insRow, List.length_append, List.length_cons] at this ⊢
  omega
theorem ofL_length (l : IL) (s : Int) : (ofL l s).length = icnt l s := by
  have : ∀ (l acc : IL), (l.foldl (fun out p => if p.1.1 = s then insRow out p else out) acc).length = acc.length + icnt l s := by
    intro l
    induction l with
    | nil => intro acc; simp [icnt]
    | cons p l ih =>
      intro acc
      rw [List.foldl_cons, ih]
      by_cases e : p.1.1 = s
      · rw [if_pos e, insRow_length]; simp [icnt, e]; omega
      · rw [if_neg e]; simp [icnt, e]
  have h := this l []
  rw [List.length_nil, Nat.zero_add] at h
  exact h
theorem cut_at {out : IL} {d : Int} {k : Nat} (hk : k ≤ out.length) (h1 : ∀ j, j < k → ∀ q, out[j]? = some q → lower d q = true) (h2 : ∀ q, out[k]? = some q → lower d q = false) :
    out.take k = out.takeWhile (lower d) ∧ out.drop k = out.dropWhile (lower d) := by
  induction out generalizing k with
  | nil => have : k = 0 := by simpa using hk
           subst this; simp
  | cons q out ih =>
    cases k with
    | zero =>
      have := h2 q (by simp)
      simp [this]
    | succ k =>
      have h0 := h1 0 (by omega) q (by simp)
      obtain ⟨i1, i2⟩ := ih (k := k) (by simpa using hk) (fun j hj q' hq' => h1 (j + 1) (by omega) q' (by simpa using hq')) (fun q' hq' => h2 q' (by simpa using hq'))
      simp [h0, i1, i2]

theorem low_more {O : IL} {d : Int} {j : Nat} {q0 : IP} (h : ∀ x, x < j → ∀ q, O[x]? = some q → lower d q = true) (h0 : O[j]? = some q0) (hl : lower d q0 = true) : ∀ x, x < j + 1 → ∀ q, O[x]? = some q → lower d q = true := by
  intro x hx q hq
  by_cases e : x = j
  · subst e; rw [h0] at hq; cases hq; exact hl
  · exact h x (by omega) q hq
def OfRel (l : IL) (s : Int) (w : World) (n : Nat) (out i : Value) (wr : World) : Prop :=
  ∃ k : Nat, k ≤ l.length ∧ n = l.length - k + 1 ∧ i = .int .i64 k ∧ SlAt 78 3 rowE wr out (ofL (l.take k) s) ∧ Fresh w.heap.size out ∧ Chg [] w wr

set_option maxRecDepth 100000 in
set_option maxHeartbeats 2000000 in
theorem of_any (w : World) (r : Nat) (l : IL) (h : RAt w r l) (s : Int) (hlen : l.length ≤ 1000) :
    Calls Try.prog 17 #[.pointer (some ⟨r, 0, none⟩), .int .i64 s] w fun e w' => ∃ v, e = .returned v ∧ SlAt 78 3 rowE w' v (ofL l s) ∧ Fresh w.heap.size v ∧ Chg [] w w' := by
  have hr := h.lt
  obtain ⟨vL, hb, hs⟩ := h
  obtain ⟨A, c, rfl, _, hA⟩ := hs.form
  go_enter Try.func17, Try.ntmps17
  go_wp2
  go_loopg [5, 6] (l.length + 1) (fun n out i wr => OfRel l s w n out i wr)
  case atStart => exact ⟨0, Nat.zero_le _, rfl, rfl, SlAt.nil _ _ _ _, Fresh.none, Chg.refl _ _⟩
  case round =>
    obtain ⟨k, hk, hn, rfl, hs5, hF, hC⟩ := hrel
    have Hn := Lib.hid hn
    clear hn
    have hbr := hC.at_ hb (by simp)
    have c0 := blk1 hbr
    have hrr := blk_lt hbr
    by_cases hlt : k < l.length
    · obtain ⟨g, rfl⟩ := hA (by omega)
      obtain ⟨⟨⟨p1, p2⟩, p3⟩, hp⟩ : ∃ p, l[k]? = some p := ⟨l[k], by simp [hlt]⟩
      obtain ⟨e0, e1, e2⟩ := rows_at (hs.chg hC (by simp)) hp
      have hts := take_succ' hp
      have ho := ofL_snoc (l.take k) ((p1, p2), p3) s
      rw [← hts] at ho
      have hib := ofL_length (l.take k) s
      have hib2 := icnt_le (l.take k) s
      have htl : (l.take k).length ≤ k := List.length_take_le _ _
      have hol : (ofL (l.take k) s).length ≤ 1000 := by omega
      clear hib hib2 htl
      by_cases hps : p1 = s
      · have t1 : (p1 != s) = false := by simp [hps]
        rw [if_pos hps] at ho
        have Hio := Lib.hid ho
        clear hps ho hts hp
        obtain ⟨O, hO⟩ : ∃ O, O = ofL (l.take k) s := ⟨_, rfl⟩
        rw [← hO] at hs5 hol
        have HO := Lib.hid hO
        clear hO
        obtain ⟨A5, c5, rfl, _, hA5⟩ := hs5.form
        obtain ⟨wo, rfl⟩ : ∃ wo : World, wo = wr := ⟨_, rfl⟩
        go_upto_block 2 with fail
        go_cut [7] from 27 to 48 (fun u7 W => ∃ j m : Nat, j ≤ O.length ∧ u7 = .int .i64 j ∧ W = wo.drewN m ∧ (∀ x, x < j → ∀ q, O[x]? = some q → lower p2 q = true) ∧ ∀ q, O[j]? = some q → lower p2 q = false)
        case first =>
          go_wp2
          go_loopg [7] (O.length + 1) (fun n i W => ∃ j m : Nat, j ≤ O.length ∧ n = O.length - j + 1 ∧ i = .int .i64 j ∧ W = wo.drewN m ∧ ∀ x, x < j → ∀ q, O[x]? = some q → lower p2 q = true)
          case atStart => exact ⟨0, 0, Nat.zero_le _, rfl, rfl, rfl, fun x hx => by omega⟩
          case round =>
            obtain ⟨j, m, hj, hn, rfl, rfl, hlow⟩ := hrel
            have Hj := Lib.hid (And.intro hn hlow)
            clear hn hlow
            by_cases hjl : j < O.length
            · obtain ⟨g5, rfl⟩ := hA5 (by omega)
              obtain ⟨⟨⟨q1, q2⟩, q3⟩, hq⟩ : ∃ q, O[j]? = some q := ⟨O[j], by simp [hjl]⟩
              obtain ⟨_, d1, _⟩ := rows_at hs5 hq
              have Hq := Lib.hid hq
              clear hq
              have j0 : (0 : Int) ≤ (j : Int) := Int.natCast_nonneg _
              have j1 : (j : Int) < (O.length : Int) := by omega
              have j2 : decide ((j : Int) < (O.length : Int)) = true := by simp; omega
              have k0 : (0 : Int) ≤ (k : Int) := Int.natCast_nonneg _
              have k1 : (k : Int) < (l.length : Int) := by omega
              by_cases hlo : q2 < p2
              · have t2 : decide (q2 < p2) = true := by simp [hlo]
                go_wp2
                go_quiet (fail)
                go_wp2
                go_roundg (O.length - (j + 1) + 1)
                case measure => rw [Hj.out.1]; omega
                case rel => exact ⟨j + 1, m + nq, by omega, rfl, by go_num, rfl, low_more Hj.out.2 Hq.out (by simp [lower, hlo])⟩
              · have t2 : decide (q2 < p2) = false := by simp [hlo]
                go_wp2
                go_quiet (fail)
                go_wp2_with fail
                go_meet
                exact ⟨j, m + nq, hj, rfl, by rw [World.drewN_drewN], Hj.out.2, fun q hq => by rw [Hq.out] at hq; cases hq; simp [lower, hlo]⟩
            · have j2 : decide ((j : Int) < (O.length : Int)) = false := by simp; omega
              go_wp2
              go_quiet (fail)
              go_wp2_with fail
              go_meet
              exact ⟨j, m + nq, hj, rfl, by rw [World.drewN_drewN], Hj.out.2, fun q hq => by have := (List.getElem?_eq_some_iff.1 hq).1; omega⟩
        case rest =>
          obtain ⟨j, m, hj, rfl, rfl, hlow, hnot⟩ := hcut
          have hcuts := cut_at (d := p2) hj hlow hnot
          have hins : [] ++ O.take j ++ [((p1, p2), p3)] ++ O.drop j = insRow O ((p1, p2), p3) := by
            rw [hcuts.1, hcuts.2]; simp [insRow]
          have Hins := Lib.hid hins
          clear hins hcuts hlow hnot
          have hCb := hC.trans (Chg.drewN [] wo m)
          have hsb := hs5.chg (Chg.drewN [] wo m) (by simp)
          have f0 := (Chg.drewN [] wo m).cell c0 (by simp)
          have f1 := (Chg.drewN [] wo m).cell e0 (by simp)
          have f2 := (Chg.drewN [] wo m).cell e1 (by simp)
          have f3 := (Chg.drewN [] wo m).cell e2 (by simp)
          obtain ⟨wb, hwb⟩ : ∃ wb, wb = wo.drewN m := ⟨_, rfl⟩
          rw [← hwb] at hCb hsb f0 f1 f2 f3 ⊢
          clear hwb hC hs5 c0 e0 e1 e2 hbr hrr
          have hbr := hCb.at_ hb (by simp)
          have hrb := blk_lt hbr
          obtain ⟨_, hc5, hnone, hsome⟩ := hsb.cap
          have j0 : (0 : Int) ≤ (j : Int) := Int.natCast_nonneg _
          have j1 : (j : Int) ≤ (c5 : Int) := by omega
          have j2 : (j : Int) ≤ (O.length : Int) := by omega
          have k0 : (0 : Int) ≤ (k : Int) := Int.natCast_nonneg _
          have k1 : (k : Int) < (l.length : Int) := by omega
          have hj2 : j ≤ c5 := by omega
          -- three worlds, by the order of the two small blocks
          have hl1 : ([] : IL).length + (O.take j).length ≤ 1000000 := by simp; omega
          have hl2 : ([] ++ O.take j).length + [((p1, p2), p3)].length ≤ 1000000 := by simp; omega
          have hl3 : ([] ++ O.take j ++ [((p1, p2), p3)]).length + (O.drop j).length ≤ 1000000 := by simp; omega
          have hg0 : (⟨g, k * 3, none⟩ : Addr).block < wb.heap.size := World.block_lt_of_cell? wb _ f1
          have hg1 : g < wb.heap.size := hg0
          clear hg0
          by_cases hck : c5 = j
          · have hOj : O.length = j := by omega
            have hd0 : O.drop j = [] := by rw [List.drop_eq_nil_iff]; omega
            have z1 : O.length - j = 0 := by omega
            cases A5 with
            | none =>
              obtain ⟨h5, h6⟩ := hnone rfl
              subst h5
              have hj0 : j = 0 := by omega
              subst hj0
              have hU1 : SrcAt rowE wb (.slice none 0 0) (O.take 0) := by rw [List.take_zero]; exact SrcAt.nil
              have hU2 : SrcAt rowE wb (.slice none 0 0) (O.drop 0) := by rw [hd0]; exact SrcAt.nil
              have HU := Lib.hid (And.intro hU1 hU2)
              have Z := Lib.hid (And.intro hd0 (And.intro h6 hOj))
              clear hd0 h6 hOj hU1 hU2 z1 hck
              have hA1 : Chg [] wb (wb.alloc (.cells #[] 78)).drew := (Chg.alloc [] wb _).trans (Chg.drew _ _)
              have hA2 : Chg [] wb ((wb.alloc (.cells #[] 78)).alloc (.cells #[.int .i64 p1, .int .i64 p2, .int .i64 p3] 78)).drew := ((Chg.alloc [] wb _).trans (Chg.alloc _ _ _)).trans (Chg.drew _ _)
              have hA3 : Chg [] wb ((wb.alloc (.cells #[.int .i64 p1, .int .i64 p2, .int .i64 p3] 78)).alloc (.cells #[] 78)).drew := ((Chg.alloc [] wb _).trans (Chg.alloc _ _ _)).trans (Chg.drew _ _)
              have s1 : ∀ o : Obj, (wb.alloc o).heap.size = wb.heap.size + 1 := fun o => by simp
              have q1 : (wb.alloc (.cells #[] 78)).drew.heap[wb.heap.size]? = some (.cells #[] 78 (0, 0)) := heap_alloc_new wb _
              have q2 : ((wb.alloc (.cells #[] 78)).alloc (.cells #[.int .i64 p1, .int .i64 p2, .int .i64 p3] 78)).drew.heap[wb.heap.size]? = some (.cells #[] 78 (0, 0)) := (Chg.alloc [] _ _).at_ (heap_alloc_new wb _) (by simp)
              have q2r : ((wb.alloc (.cells #[] 78)).alloc (.cells #[.int .i64 p1, .int .i64 p2, .int .i64 p3] 78)).drew.heap[wb.heap.size + 1]? = some (.cells #[.int .i64 p1, .int .i64 p2, .int .i64 p3] 78 (0, 0)) := by
                have := heap_alloc_new (wb.alloc (.cells #[] 78)) (.cells #[.int .i64 p1, .int .i64 p2, .int .i64 p3] 78); rw [s1] at this; exact this
              have q3 : ((wb.alloc (.cells #[.int .i64 p1, .int .i64 p2, .int .i64 p3] 78)).alloc (.cells #[] 78)).drew.heap[wb.heap.size + 1]? = some (.cells #[] 78 (0, 0)) := by
                have := heap_alloc_new (wb.alloc (.cells #[.int .i64 p1, .int .i64 p2, .int .i64 p3] 78)) (.cells #[] 78); rw [s1] at this; exact this
              have q3r : ((wb.alloc (.cells #[.int .i64 p1, .int .i64 p2, .int .i64 p3] 78)).alloc (.cells #[] 78)).drew.heap[wb.heap.size]? = some (.cells #[.int .i64 p1, .int .i64 p2, .int .i64 p3] 78 (0, 0)) := (Chg.alloc [] _ _).at_ (heap_alloc_new wb _) (by simp)
              have H := Lib.hid (And.intro q1 (And.intro q2 (And.intro q2r (And.intro q3 q3r))))
              clear q1 q2 q2r q3 q3r s1
              go_wp2_with fail
              go_region_held3 (fun w' => w'.cell? ⟨r, 0, none⟩ = some (.slice (some ⟨g, 0, none⟩) l.length c) ∧ w'.cell? ⟨g, k * 3, none⟩ = some (.int .i64 p1) ∧ w'.cell? ⟨g, k * 3 + 1, none⟩ = some (.int .i64 p2) ∧ w'.cell? ⟨g, k * 3 + 2, none⟩ = some (.int .i64 p3))
                (first
                  | go_keep
                  | (exact ⟨hC1.cell f0 (by simp), hC1.cell f1 (by simp), hC1.cell f2 (by simp), hC1.cell f3 (by simp)⟩)
                  | (exact ⟨hC2.cell f0 (by simp), hC2.cell f1 (by simp), hC2.cell f2 (by simp), hC2.cell f3 (by simp)⟩)
                  | (exact ⟨hC3.cell f0 (by simp), hC3.cell f1 (by simp), hC3.cell f2 (by simp), hC3.cell f3 (by simp)⟩)
                  | (exact ⟨(hC1.trans (Chg.alloc [] W1 _)).cell f0 (by simp), (hC1.trans (Chg.alloc [] W1 _)).cell f1 (by simp), (hC1.trans (Chg.alloc [] W1 _)).cell f2 (by simp), (hC1.trans (Chg.alloc [] W1 _)).cell f3 (by simp)⟩))
                (first
                  | (refine step_append' rfl _ _ 27 rfl rowR elem27 hA1 (SlAt.empty H.out.1 rfl) (Fresh.of (Nat.le_refl _)) (HU.out.1.chg hA1 (by simp)) rfl rfl hl1 (by omega) ?_; intro v1 W1 hs1 hC1 hF1 hg1)
                  | (refine step_append' rfl _ _ 27 rfl rowR elem27 hA2 (SlAt.empty H.out.2.1 rfl) (Fresh.of (Nat.le_refl _)) (HU.out.1.chg hA2 (by simp)) rfl rfl hl1 (by omega) ?_; intro v1 W1 hs1 hC1 hF1 hg1)
                  | (refine step_append' rfl _ _ 27 rfl rowR elem27 hA3 (SlAt.empty H.out.2.2.2.1 rfl) (Fresh.of (by omega)) (HU.out.1.chg hA3 (by simp)) rfl rfl hl1 (by omega) ?_; intro v1 W1 hs1 hC1 hF1 hg1)
                  | (refine step_append' rfl _ _ 27 rfl rowR elem27 (hC1.trans (Chg.alloc [] W1 (.cells #[.int .i64 p1, .int .i64 p2, .int .i64 p3] 78))) (hs1.chg (Chg.alloc [] W1 (.cells #[.int .i64 p1, .int .i64 p2, .int .i64 p3] 78)) (by simp)) hF1 (SrcAt.one (renc := rowE) (a := ((p1, p2), p3)) (t := 78) (fr := (0, 0)) (by exact heap_alloc_new W1 (.cells #[.int .i64 p1, .int .i64 p2, .int .i64 p3] 78)) 1) rfl rfl hl2 (by omega) ?_; intro v2 W2 hs2 hC2 hF2 hg2)
                  | (refine step_append' rfl _ _ 27 rfl rowR elem27 hC1 hs1 hF1 (SrcAt.one (renc := rowE) (a := ((p1, p2), p3)) (t := 78) (fr := (0, 0)) (by exact (hg1.block _ (by simp) (by simp [Value.ownBlock])).trans H.out.2.2.1) 1) rfl rfl hl2 (by omega) ?_; intro v2 W2 hs2 hC2 hF2 hg2)
                  | (refine step_append' rfl _ _ 27 rfl rowR elem27 hC1 hs1 hF1 (SrcAt.one (renc := rowE) (a := ((p1, p2), p3)) (t := 78) (fr := (0, 0)) (by exact (hg1.block _ (by simp; omega) (by simp [Value.ownBlock])).trans H.out.2.2.2.2) 1) rfl rfl hl2 (by omega) ?_; intro v2 W2 hs2 hC2 hF2 hg2)
                  | (refine step_append' rfl _ _ 27 rfl rowR elem27 hC2 hs2 hF2 (HU.out.2.chg hC2 (by simp)) rfl rfl hl3 (by omega) ?_; intro v3 W3 hs3 hC3 hF3 hg3))
              all_goals
                have hC4 : Chg [] w W3 := hCb.trans hC3
                have hF4 : Fresh w.heap.size v3 := hF3.mono hCb.size
                rw [Hins.out] at hs3
                have hIO := Hio.out
                rw [← HO.out] at hIO
                have HIO := Lib.hid hIO
                clear hIO hC3 hF3 hg3 hs2 hC2 hF2 hg2 hs1 hC1 hF1 hg1 H HU hA1 hA2 hA3 f0 f1 f2 f3 hCb hsb hbr hrb Hins Hio
                go_wp2
                go_roundg (l.length - (k + 1) + 1)
                case measure => rw [Hn.out]; omega
                case rel => exact ⟨k + 1, by omega, rfl, by go_num, by rw [HIO.out]; exact hs3, hF4, hC4⟩
            | some x =>
              obtain ⟨g5, rfl⟩ := hsome x rfl
              subst hck
              have hU1 : SrcAt rowE wb (.slice (some ⟨g5, 0, none⟩) c5 c5) (O.take c5) := hsb.src_take (by omega) _
              have hU2 : SrcAt rowE wb (.slice (some ⟨g5, 0, none⟩) 0 0) (O.drop c5) := by rw [hd0]; exact SrcAt.nil
              have HU := Lib.hid (And.intro hU1 hU2)
              have Z := Lib.hid (And.intro hd0 hOj)
              clear hd0 hOj hU1 hU2
              have hA1 : Chg [] wb (wb.alloc (.cells #[] 78)).drew := (Chg.alloc [] wb _).trans (Chg.drew _ _)
              have hA2 : Chg [] wb ((wb.alloc (.cells #[] 78)).alloc (.cells #[.int .i64 p1, .int .i64 p2, .int .i64 p3] 78)).drew := ((Chg.alloc [] wb _).trans (Chg.alloc _ _ _)).trans (Chg.drew _ _)
              have hA3 : Chg [] wb ((wb.alloc (.cells #[.int .i64 p1, .int .i64 p2, .int .i64 p3] 78)).alloc (.cells #[] 78)).drew := ((Chg.alloc [] wb _).trans (Chg.alloc _ _ _)).trans (Chg.drew _ _)
              have s1 : ∀ o : Obj, (wb.alloc o).heap.size = wb.heap.size + 1 := fun o => by simp
              have q1 : (wb.alloc (.cells #[] 78)).drew.heap[wb.heap.size]? = some (.cells #[] 78 (0, 0)) := heap_alloc_new wb _
              have q2 : ((wb.alloc (.cells #[] 78)).alloc (.cells #[.int .i64 p1, .int .i64 p2, .int .i64 p3] 78)).drew.heap[wb.heap.size]? = some (.cells #[] 78 (0, 0)) := (Chg.alloc [] _ _).at_ (heap_alloc_new wb _) (by simp)
              have q2r : ((wb.alloc (.cells #[] 78)).alloc (.cells #[.int .i64 p1, .int .i64 p2, .int .i64 p3] 78)).drew.heap[wb.heap.size + 1]? = some (.cells #[.int .i64 p1, .int .i64 p2, .int .i64 p3] 78 (0, 0)) := by
                have := heap_alloc_new (wb.alloc (.cells #[] 78)) (.cells #[.int .i64 p1, .int .i64 p2, .int .i64 p3] 78); rw [s1] at this; exact this
              have q3 : ((wb.alloc (.cells #[.int .i64 p1, .int .i64 p2, .int .i64 p3] 78)).alloc (.cells #[] 78)).drew.heap[wb.heap.size + 1]? = some (.cells #[] 78 (0, 0)) := by
                have := heap_alloc_new (wb.alloc (.cells #[.int .i64 p1, .int .i64 p2, .int .i64 p3] 78)) (.cells #[] 78); rw [s1] at this; exact this
              have q3r : ((wb.alloc (.cells #[.int .i64 p1, .int .i64 p2, .int .i64 p3] 78)).alloc (.cells #[] 78)).drew.heap[wb.heap.size]? = some (.cells #[.int .i64 p1, .int .i64 p2, .int .i64 p3] 78 (0, 0)) := (Chg.alloc [] _ _).at_ (heap_alloc_new wb _) (by simp)
              have H := Lib.hid (And.intro q1 (And.intro q2 (And.intro q2r (And.intro q3 q3r))))
              clear q1 q2 q2r q3 q3r s1
              go_wp2_with fail
              go_region_held3 (fun w' => w'.cell? ⟨r, 0, none⟩ = some (.slice (some ⟨g, 0, none⟩) l.length c) ∧ w'.cell? ⟨g, k * 3, none⟩ = some (.int .i64 p1) ∧ w'.cell? ⟨g, k * 3 + 1, none⟩ = some (.int .i64 p2) ∧ w'.cell? ⟨g, k * 3 + 2, none⟩ = some (.int .i64 p3))
                (first
                  | go_keep
                  | (exact ⟨hC1.cell f0 (by simp), hC1.cell f1 (by simp), hC1.cell f2 (by simp), hC1.cell f3 (by simp)⟩)
                  | (exact ⟨hC2.cell f0 (by simp), hC2.cell f1 (by simp), hC2.cell f2 (by simp), hC2.cell f3 (by simp)⟩)
                  | (exact ⟨hC3.cell f0 (by simp), hC3.cell f1 (by simp), hC3.cell f2 (by simp), hC3.cell f3 (by simp)⟩)
                  | (exact ⟨(hC1.trans (Chg.alloc [] W1 _)).cell f0 (by simp), (hC1.trans (Chg.alloc [] W1 _)).cell f1 (by simp), (hC1.trans (Chg.alloc [] W1 _)).cell f2 (by simp), (hC1.trans (Chg.alloc [] W1 _)).cell f3 (by simp)⟩))
                (first
                  | (refine step_append' rfl _ _ 27 rfl rowR elem27 hA1 (SlAt.empty H.out.1 rfl) (Fresh.of (Nat.le_refl _)) (HU.out.1.chg hA1 (by simp)) rfl rfl hl1 (by omega) ?_; intro v1 W1 hs1 hC1 hF1 hg1)
                  | (refine step_append' rfl _ _ 27 rfl rowR elem27 hA2 (SlAt.empty H.out.2.1 rfl) (Fresh.of (Nat.le_refl _)) (HU.out.1.chg hA2 (by simp)) rfl rfl hl1 (by omega) ?_; intro v1 W1 hs1 hC1 hF1 hg1)
                  | (refine step_append' rfl _ _ 27 rfl rowR elem27 hA3 (SlAt.empty H.out.2.2.2.1 rfl) (Fresh.of (by omega)) (HU.out.1.chg hA3 (by simp)) rfl rfl hl1 (by omega) ?_; intro v1 W1 hs1 hC1 hF1 hg1)
                  | (refine step_append' rfl _ _ 27 rfl rowR elem27 (hC1.trans (Chg.alloc [] W1 (.cells #[.int .i64 p1, .int .i64 p2, .int .i64 p3] 78))) (hs1.chg (Chg.alloc [] W1 (.cells #[.int .i64 p1, .int .i64 p2, .int .i64 p3] 78)) (by simp)) hF1 (SrcAt.one (renc := rowE) (a := ((p1, p2), p3)) (t := 78) (fr := (0, 0)) (by exact heap_alloc_new W1 (.cells #[.int .i64 p1, .int .i64 p2, .int .i64 p3] 78)) 1) rfl rfl hl2 (by omega) ?_; intro v2 W2 hs2 hC2 hF2 hg2)
                  | (refine step_append' rfl _ _ 27 rfl rowR elem27 hC1 hs1 hF1 (SrcAt.one (renc := rowE) (a := ((p1, p2), p3)) (t := 78) (fr := (0, 0)) (by exact (hg1.block _ (by simp) (by simp [Value.ownBlock])).trans H.out.2.2.1) 1) rfl rfl hl2 (by omega) ?_; intro v2 W2 hs2 hC2 hF2 hg2)
                  | (refine step_append' rfl _ _ 27 rfl rowR elem27 hC1 hs1 hF1 (SrcAt.one (renc := rowE) (a := ((p1, p2), p3)) (t := 78) (fr := (0, 0)) (by exact (hg1.block _ (by simp; omega) (by simp [Value.ownBlock])).trans H.out.2.2.2.2) 1) rfl rfl hl2 (by omega) ?_; intro v2 W2 hs2 hC2 hF2 hg2)
                  | (refine step_append' rfl _ _ 27 rfl rowR elem27 hC2 hs2 hF2 (HU.out.2.chg hC2 (by simp)) rfl rfl hl3 (by omega) ?_; intro v3 W3 hs3 hC3 hF3 hg3))
              all_goals
                have hC4 : Chg [] w W3 := hCb.trans hC3
                have hF4 : Fresh w.heap.size v3 := hF3.mono hCb.size
                rw [Hins.out] at hs3
                have hIO := Hio.out
                rw [← HO.out] at hIO
                have HIO := Lib.hid hIO
                clear hIO hC3 hF3 hg3 hs2 hC2 hF2 hg2 hs1 hC1 hF1 hg1 H HU hA1 hA2 hA3 f0 f1 f2 f3 hCb hsb hbr hrb Hins Hio
                go_wp2
                go_roundg (l.length - (k + 1) + 1)
                case measure => rw [Hn.out]; omega
                case rel => exact ⟨k + 1, by omega, rfl, by go_num, by rw [HIO.out]; exact hs3, hF4, hC4⟩
          · obtain ⟨g5, rfl⟩ : ∃ g, A5 = some ⟨g, 0, none⟩ := by
              cases A5 with
              | none => have := hnone rfl; omega
              | some x => obtain ⟨g, rfl⟩ := hsome x rfl; exact ⟨g, rfl⟩
            have hU1 : SrcAt rowE wb (.slice (some ⟨g5, 0, none⟩) j c5) (O.take j) := hsb.src_take (by omega) _
            have hU2 : SrcAt rowE wb (.slice (some ⟨g5, j * 3, none⟩) (O.length - j) (c5 - j)) (O.drop j) := hsb.src_drop rowR (by omega) _ _ rfl
            have HU := Lib.hid (And.intro hU1 hU2)
            clear hU1 hU2
            have hA1 : Chg [] wb (wb.alloc (.cells #[] 78)).drew := (Chg.alloc [] wb _).trans (Chg.drew _ _)
            have hA2 : Chg [] wb ((wb.alloc (.cells #[] 78)).alloc (.cells #[.int .i64 p1, .int .i64 p2, .int .i64 p3] 78)).drew := ((Chg.alloc [] wb _).trans (Chg.alloc _ _ _)).trans (Chg.drew _ _)
            have hA3 : Chg [] wb ((wb.alloc (.cells #[.int .i64 p1, .int .i64 p2, .int .i64 p3] 78)).alloc (.cells #[] 78)).drew := ((Chg.alloc [] wb _).trans (Chg.alloc _ _ _)).trans (Chg.drew _ _)
            have s1 : ∀ o : Obj, (wb.alloc o).heap.size = wb.heap.size + 1 := fun o => by simp
            have q1 : (wb.alloc (.cells #[] 78)).drew.heap[wb.heap.size]? = some (.cells #[] 78 (0, 0)) := heap_alloc_new wb _
            have q2 : ((wb.alloc (.cells #[] 78)).alloc (.cells #[.int .i64 p1, .int .i64 p2, .int .i64 p3] 78)).drew.heap[wb.heap.size]? = some (.cells #[] 78 (0, 0)) := (Chg.alloc [] _ _).at_ (heap_alloc_new wb _) (by simp)
            have q2r : ((wb.alloc (.cells #[] 78)).alloc (.cells #[.int .i64 p1, .int .i64 p2, .int .i64 p3] 78)).drew.heap[wb.heap.size + 1]? = some (.cells #[.int .i64 p1, .int .i64 p2, .int .i64 p3] 78 (0, 0)) := by
              have := heap_alloc_new (wb.alloc (.cells #[] 78)) (.cells #[.int .i64 p1, .int .i64 p2, .int .i64 p3] 78); rw [s1] at this; exact this
            have q3 : ((wb.alloc (.cells #[.int .i64 p1, .int .i64 p2, .int .i64 p3] 78)).alloc (.cells #[] 78)).drew.heap[wb.heap.size + 1]? = some (.cells #[] 78 (0, 0)) := by
              have := heap_alloc_new (wb.alloc (.cells #[.int .i64 p1, .int .i64 p2, .int .i64 p3] 78)) (.cells #[] 78); rw [s1] at this; exact this
            have q3r : ((wb.alloc (.cells #[.int .i64 p1, .int .i64 p2, .int .i64 p3] 78)).alloc (.cells #[] 78)).drew.heap[wb.heap.size]? = some (.cells #[.int .i64 p1, .int .i64 p2, .int .i64 p3] 78 (0, 0)) := (Chg.alloc [] _ _).at_ (heap_alloc_new wb _) (by simp)
            have H := Lib.hid (And.intro q1 (And.intro q2 (And.intro q2r (And.intro q3 q3r))))
            clear q1 q2 q2r q3 q3r s1
            go_wp2_with fail
            go_region_held3 (fun w' => w'.cell? ⟨r, 0, none⟩ = some (.slice (some ⟨g, 0, none⟩) l.length c) ∧ w'.cell? ⟨g, k * 3, none⟩ = some (.int .i64 p1) ∧ w'.cell? ⟨g, k * 3 + 1, none⟩ = some (.int .i64 p2) ∧ w'.cell? ⟨g, k * 3 + 2, none⟩ = some (.int .i64 p3))
              (first
                | go_keep
                | (exact ⟨hC1.cell f0 (by simp), hC1.cell f1 (by simp), hC1.cell f2 (by simp), hC1.cell f3 (by simp)⟩)
                | (exact ⟨hC2.cell f0 (by simp), hC2.cell f1 (by simp), hC2.cell f2 (by simp), hC2.cell f3 (by simp)⟩)
                | (exact ⟨hC3.cell f0 (by simp), hC3.cell f1 (by simp), hC3.cell f2 (by simp), hC3.cell f3 (by simp)⟩)
                | (exact ⟨(hC1.trans (Chg.alloc [] W1 _)).cell f0 (by simp), (hC1.trans (Chg.alloc [] W1 _)).cell f1 (by simp), (hC1.trans (Chg.alloc [] W1 _)).cell f2 (by simp), (hC1.trans (Chg.alloc [] W1 _)).cell f3 (by simp)⟩))
              (first
                | (refine step_append' rfl _ _ 27 rfl rowR elem27 hA1 (SlAt.empty H.out.1 rfl) (Fresh.of (Nat.le_refl _)) (HU.out.1.chg hA1 (by simp)) rfl rfl hl1 (by omega) ?_; intro v1 W1 hs1 hC1 hF1 hg1)
                | (refine step_append' rfl _ _ 27 rfl rowR elem27 hA2 (SlAt.empty H.out.2.1 rfl) (Fresh.of (Nat.le_refl _)) (HU.out.1.chg hA2 (by simp)) rfl rfl hl1 (by omega) ?_; intro v1 W1 hs1 hC1 hF1 hg1)
                | (refine step_append' rfl _ _ 27 rfl rowR elem27 hA3 (SlAt.empty H.out.2.2.2.1 rfl) (Fresh.of (by omega)) (HU.out.1.chg hA3 (by simp)) rfl rfl hl1 (by omega) ?_; intro v1 W1 hs1 hC1 hF1 hg1)
                | (refine step_append' rfl _ _ 27 rfl rowR elem27 (hC1.trans (Chg.alloc [] W1 (.cells #[.int .i64 p1, .int .i64 p2, .int .i64 p3] 78))) (hs1.chg (Chg.alloc [] W1 (.cells #[.int .i64 p1, .int .i64 p2, .int .i64 p3] 78)) (by simp)) hF1 (SrcAt.one (renc := rowE) (a := ((p1, p2), p3)) (t := 78) (fr := (0, 0)) (by exact heap_alloc_new W1 (.cells #[.int .i64 p1, .int .i64 p2, .int .i64 p3] 78)) 1) rfl rfl hl2 (by omega) ?_; intro v2 W2 hs2 hC2 hF2 hg2)
                | (refine step_append' rfl _ _ 27 rfl rowR elem27 hC1 hs1 hF1 (SrcAt.one (renc := rowE) (a := ((p1, p2), p3)) (t := 78) (fr := (0, 0)) (by exact (hg1.block _ (by simp) (by simp [Value.ownBlock])).trans H.out.2.2.1) 1) rfl rfl hl2 (by omega) ?_; intro v2 W2 hs2 hC2 hF2 hg2)
                | (refine step_append' rfl _ _ 27 rfl rowR elem27 hC1 hs1 hF1 (SrcAt.one (renc := rowE) (a := ((p1, p2), p3)) (t := 78) (fr := (0, 0)) (by exact (hg1.block _ (by simp; omega) (by simp [Value.ownBlock])).trans H.out.2.2.2.2) 1) rfl rfl hl2 (by omega) ?_; intro v2 W2 hs2 hC2 hF2 hg2)
                | (refine step_append' rfl _ _ 27 rfl rowR elem27 hC2 hs2 hF2 (HU.out.2.chg hC2 (by simp)) rfl rfl hl3 (by omega) ?_; intro v3 W3 hs3 hC3 hF3 hg3))
            all_goals
              have hC4 : Chg [] w W3 := hCb.trans hC3
              have hF4 : Fresh w.heap.size v3 := hF3.mono hCb.size
              rw [Hins.out] at hs3
              have hIO := Hio.out
              rw [← HO.out] at hIO
              have HIO := Lib.hid hIO
              clear hIO hC3 hF3 hg3 hs2 hC2 hF2 hg2 hs1 hC1 hF1 hg1 H HU hA1 hA2 hA3 f0 f1 f2 f3 hCb hsb hbr hrb Hins Hio
              go_wp2
              go_roundg (l.length - (k + 1) + 1)
              case measure => rw [Hn.out]; omega
              case rel => exact ⟨k + 1, by omega, rfl, by go_num, by rw [HIO.out]; exact hs3, hF4, hC4⟩
      · have t1 : (p1 != s) = true := by simp [hps]
        rw [if_neg hps] at ho
        have Hio := Lib.hid ho
        clear hps ho hts hp
        go_wp2
        go_roundg (l.length - (k + 1) + 1)
        case measure => rw [Hn.out]; omega
        case rel => exact ⟨k + 1, by omega, rfl, by go_num, by rw [Hio.out]; exact hs5, hF, hC⟩
    · have hke : k = l.length := by omega
      subst hke
      rw [List.take_length] at hs5
      go_wp2
      go_ret
      exact ⟨_, rfl, hs5, hF, hC⟩
end Go.Proofs.Ytdcjfaplgpeonaa
