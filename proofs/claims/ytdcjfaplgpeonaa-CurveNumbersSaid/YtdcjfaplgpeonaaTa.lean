/-
  The iterators over a ladder's levels and a queue's nodes.
-/
import Derived.Test.YtdcjfaplgpeonaaPf
import Derived.Test.YtdcjfaplgpeonaaRl
import Derived.RangeFuncNested
import Derived.RangeFuncBound
import Derived.RangeFuncCalls
import Derived.RangeFuncLeaves
import Derived.Shelf.Abstract
import Derived.Shelf.RegionOpen
import Derived.WalkKit
import Derived.OwnWalkIn
import Derived.TacticsInMore
import Derived.LoopNIn
import Derived.LoopIn
import Derived.Sort.LoopGhostIn
import Derived.Sort.QuietIn
namespace Go.Proofs.Ytdcjfaplgpeonaa
open Go.RowKit Go.Dm Go.Shelf
attribute [local go_sem] Oper.semAt_some

/-- What a round must keep: these blocks. -/
def KeepL (bs : List Nat) (W W' : World) : Prop := ∀ k ∈ bs, ∀ o, W.heap[k]? = some o → W'.heap[k]? = some o
theorem KeepL.t {bs : List Nat} {A B C : World} (h : KeepL bs A B) (k : KeepL bs B C) : KeepL bs A C := fun i hi o ho => k i hi o (h i hi o ho)
theorem KeepL.put {bs : List Nat} {w : World} (hb : ∀ k ∈ bs, k < w.heap.size) (W : World) (l : Nat) (o o' : Obj) (hl : w.heap.size ≤ l) (_h : W.heap[l]? = some o) (_h2 : o.isCells = false) (_h3 : o.isWalk = false) : KeepL bs W (W.putObj l o') := fun k hk x hx => by
  have := hb k hk
  rw [World.putObj_heap_other (by omega)]; exact hx
theorem KeepL.chg {bs S : List Nat} {W W' : World} (hC : Chg S W W') (hb : ∀ k ∈ bs, k ∉ S) : KeepL bs W W' := fun k hk _ ho => hC.at_ ho (hb k hk)
theorem grown_of_chgT {W W' : World} (hC : Chg [] W W') : W.grownBy W' none := ⟨hC.os, hC.tape, hC.output, hC.size, fun k hk _ => hC.block k hk (by simp)⟩
theorem _root_.Go.Dm.SlAt.keepL {α : Type} {e sz : Nat} {renc : α → List Value} {bs : List Nat} {W W' : World} {v : Value} {l : List α} (h : SlAt e sz renc W v l) (hK : KeepL bs W W') (hn : ∀ g, v.ownBlock = some g → g ∈ bs) : SlAt e sz renc W' v l := by
  refine ⟨h.1, ?_⟩
  rcases h.2 with hz | ⟨g, cap, cur, rfl, hb0, hg, r⟩
  · exact .inl hz
  · exact .inr ⟨g, cap, cur, rfl, hb0, hK g (hn g rfl) _ hg, r⟩
theorem _root_.Go.Dm.IntsAt.keepL {bs : List Nat} {w w' : World} {b t N : Nat} {c : Nat → Int} (h : IntsAt w b t N c) (hK : KeepL bs w w') (hb : b ∈ bs) : IntsAt w' b t N c := by
  obtain ⟨cs, h1, r⟩ := h; exact ⟨cs, hK _ hb _ h1, r⟩

def encLv {lv : List Lvl} (x : { x : Lvl // x ∈ lv }) : Array Value := #[.agg #[.int .i64 x.1.p, .int .i64 x.1.q, .int .i64 x.1.n, .int .i64 x.1.u]]
def LvRel (lv : List Lvl) (v : Value) (J : List { x : Lvl // x ∈ lv } → World → Prop) (q : Nat) (i : Value) (wr : World) : Prop :=
  ∃ k : Nat, k ≤ lv.length ∧ q = lv.length - k + 1 ∧ i = .int .i64 k ∧ J (lv.attach.take k) wr ∧ SlAt 167 4 lvE wr v lv

theorem attach_at {α : Type} {l : List α} {k : Nat} {y : { x : α // x ∈ l }} (h : l.attach[k]? = some y) : l[k]? = some y.1 := by
  have := congrArg (Option.map Subtype.val) h
  rw [← List.getElem?_map, List.attach_map_subtype_val] at this
  simpa using this
theorem take_snocL {α : Type} {l : List α} {k : Nat} {x : α} (h : l[k]? = some x) : l.take k ++ [x] = l.take (k + 1) := by
  have hk := (List.getElem?_eq_some_iff.1 h).1
  rw [List.take_succ_eq_append_getElem hk, (List.getElem?_eq_some_iff.1 h).2]

set_option maxRecDepth 100000 in
set_option maxHeartbeats 2000000 in
theorem iter105 (m : Nat) (hm : 1 ≤ m) (bx r : Nat) (sd : Int) (lv : List Lvl) (v : Value) (u : Nat) (w : World) (hbx : w.heap[bx]? = some (.cells #[.pointer (some ⟨r, 0, none⟩)] 145 (0, 0))) (hL : LdBlk w r sd v u) (hv : SlAt 167 4 lvE w v lv) (hlen : lv.length ≤ 1000) :
    SeqStopsK Fence.wide m Try.prog 105 #[.pointer (some ⟨bx, 0, none⟩)] (encLv (lv := lv)) (KeepL (ownL v)) (fun xs => xs = lv.attach) (fun pre => pre <+: lv.attach) lv.length w := fun yl J Jx W hW hJ hJx hY hj0 => by
  refine callsIn_of_wp Try.func105 rfl trivial ?_ rfl
  simp only [Try.ntmps105, List.size_toArray, List.length_cons, List.length_nil, Nat.reduceAdd, Nat.reduceSub, Array.replicate_succ, Array.replicate_zero, List.push_toArray, List.append_toArray, List.nil_append, List.cons_append]
  have hC : Chg [] w W := Chg.of_below hW []
  have cb := blk1 (hC.at_ hbx (by simp))
  have hL1 : LdBlk W r sd v u := hC.at_ hL (by simp)
  obtain ⟨_, _, c2, _⟩ := blk7v hL1
  have hv1 := hv.chg hC (by simp)
  obtain ⟨A, cap, rfl, _, hA0⟩ := hv1.form
  clear hC hbx hL hv hL1
  gi_wp2
  gi_loopg [12] (lv.length + 1) (fun q i wr => LvRel lv (.slice A lv.length cap) J q i wr)
  case atStart => exact ⟨0, Nat.zero_le _, rfl, rfl, hj0, hv1⟩
  case round =>
    clear hj0 hv1 cb c2
    obtain ⟨k, hk, hq, rfl, hJ2, hv2⟩ := hrel
    have Hq := Lib.hid hq
    clear hq
    by_cases hlt : k < lv.length
    · obtain ⟨g, rfl⟩ := hA0 (by omega)
      obtain ⟨y, hy0⟩ : ∃ y, lv.attach[k]? = some y := ⟨lv.attach[k]'(by simpa using hlt), by simp [hlt]⟩
      have hx : lv[k]? = some y.1 := attach_at hy0
      obtain ⟨x, hxm⟩ := y
      obtain ⟨e0, e1, e2, e3⟩ := lvs_at hv2 hx
      have k0 : (0 : Int) ≤ (k : Int) := Int.natCast_nonneg _
      have k1 : (k : Int) < (lv.length : Int) := by omega
      have hg := hv2.lt (g := g) rfl
      have hCA := Chg.alloc [] wr (.cells #[.int .i64 x.p, .int .i64 x.q, .int .i64 x.n, .int .i64 x.u] 167)
      have hJ3 := hJ _ _ _ none hJ2 (grown_of_chgT hCA) (fun r e => by cases e)
      have hv3 := hv2.chg hCA (by simp)
      obtain ⟨fn, tmps, assign, body, hy, hR⟩ := hY (lv.attach.take k) ⟨x, hxm⟩ _ hJ3 (by rw [List.length_take]; omega)
      simp only [encLv] at hy
      have hT := take_snocL hy0
      have HT := Lib.hid hT
      clear hT hx hy0 hJ2 hv2 hCA
      gi_wp2
      refine hR.mono ?_
      rintro e W3 (⟨rfl, hJ4, hk4⟩ | ⟨rfl, hJx4⟩)
      · have hv4 := hv3.keepL hk4 (fun g hg => by simp [ownL, hg])
        rw [HT.out] at hJ4
        clear e0 e1 e2 e3 hg hJ3 hv3 hR hy hk4
        gi_wp2
        gi_roundg (lv.length - (k + 1) + 1)
        case measure => rw [Hq.out]; omega
        case rel => exact ⟨k + 1, by omega, rfl, by go_num, hJ4, hv4⟩
      · clear e0 e1 e2 e3 hg hJ3 hv3 hR hy
        rw [HT.out] at hJx4
        gi_wp2
        refine bodyPost_ret (results_none rfl _ _ _) rfl ?_
        exact ⟨⟨_, rfl⟩, .inr ⟨_, List.take_prefix _ _, hJx4⟩⟩
    · have hkn : k = lv.length := by omega
      subst hkn
      rw [List.take_of_length_le (by simp)] at hJ2
      gi_wp2
      go_end0
      exact ⟨⟨_, rfl⟩, .inl ⟨_, rfl, hJ2⟩⟩

theorem links_next {nf : Nat → Int} : ∀ {s : List Nat} {k a : Nat}, Links nf s → s[k]? = some a → nf (a * 3 + 1) = (match s[k + 1]? with | some b => (b : Int) | none => -1)
  | [], k, a, _, h => by simp at h
  | [b], k, a, hl, h => by
    cases k with
    | zero => simp at h; subst h; simpa [Links] using hl
    | succ k => simp at h
  | b :: c :: r, k, a, hl, h => by
    simp only [Links] at hl
    cases k with
    | zero => simp at h; subst h; simpa using hl.1
    | succ k =>
      simp only [List.getElem?_cons_succ] at h
      have := links_next hl.2 h
      simpa using this

def nodeAt (s : List Nat) (k : Nat) : Int := match s[k]? with | some b => (b : Int) | none => -1
def QuRel (s : List Nat) (q nb eb bx : Nat) (nf _ef : Nat → Int) (J : List { i : Nat // i ∈ s } → World → Prop) (g : Nat) (i : Value) (wr : World) : Prop :=
  ∃ k : Nat, k ≤ s.length ∧ g = s.length - k + 1 ∧ i = .int .i64 (nodeAt s k) ∧ J (s.attach.take k) wr ∧ wr.heap[bx]? = some (.cells #[.pointer (some ⟨q, 0, none⟩)] 146 (0, 0)) ∧
    wr.heap[q]? = some (.cells #[.slice (some ⟨nb, 0, none⟩) 60 60, .slice (some ⟨eb, 0, none⟩) 60 60] 183 (0, 0)) ∧ IntsAt wr nb 185 180 nf

set_option maxRecDepth 100000 in
set_option maxHeartbeats 2000000 in
theorem iter106 (m : Nat) (hm : 1 ≤ m) (bx by_ q nb eb : Nat) (nf ef : Nat → Int) (u : Nat) (_a : Nat) (s : List Nat) (w : World) (hbx : w.heap[bx]? = some (.cells #[.pointer (some ⟨q, 0, none⟩)] 146 (0, 0))) (hby : w.heap[by_]? = some (.cells #[.int .i64 (u : Nat)] 3 (0, 0)))
    (hF : FfAt w q nb eb nf ef) (hu : u < 60) (he : ef (u * 3) = nodeAt s 0) (hl : Links nf s) (hs : ∀ i ∈ s, i < 60) :
    SeqStopsK Fence.wide m Try.prog 106 #[.pointer (some ⟨bx, 0, none⟩), .pointer (some ⟨by_, 0, none⟩)] (fun i : { i : Nat // i ∈ s } => #[Value.int .i64 i.1]) (KeepL [bx, q, nb]) (fun xs => xs = s.attach) (fun pre => pre <+: s.attach) s.length w := fun yl J Jx W hW hJ hJx hY hj0 => by
  refine callsIn_of_wp Try.func106 rfl trivial ?_ rfl
  simp only [Try.ntmps106, List.size_toArray, List.length_cons, List.length_nil, Nat.reduceAdd, Nat.reduceSub, Array.replicate_succ, Array.replicate_zero, List.push_toArray, List.append_toArray, List.nil_append, List.cons_append]
  have hC : Chg [] w W := Chg.of_below hW []
  have hbx1 := hC.at_ hbx (by simp)
  have cx := blk1 hbx1
  have cy := blk1 (hC.at_ hby (by simp))
  have hF1 := hF.chg hC (by simp) (by simp) (by simp)
  have hqc := queue102 W q nb eb nf ef hF1 u hu
  have e0 := hF1.eds.cell (j := u * 3) (by omega)
  have el := hF1.eds.lt
  rw [he] at e0
  clear hC hbx hby hF he
  gi_wp2_with fail
  refine ⟨trivial, ?_⟩
  refine (callsIn_wide.2 hqc).mono ?_
  rintro e w' ⟨rfl, rfl⟩
  clear hqc
  gi_wp2_with fail
  gi_loopg [5] (s.length + 1) (fun g i wr => QuRel s q nb eb bx nf ef J g i wr)
  case atStart => exact ⟨0, Nat.zero_le _, rfl, rfl, hj0, hbx1, hF1.blk, hF1.nds⟩
  case round =>
    clear hj0 hbx1 hF1 cx cy e0 el
    obtain ⟨k, hk, hq, rfl, hJ2, hb2, hq2, hn2⟩ := hrel
    have Hq := Lib.hid hq
    clear hq
    by_cases hlt : k < s.length
    · obtain ⟨y, hy0⟩ : ∃ y, s.attach[k]? = some y := ⟨s.attach[k]'(by simpa using hlt), by simp [hlt]⟩
      have hx : s[k]? = some y.1 := attach_at hy0
      obtain ⟨x, hxm⟩ := y
      have hna : nodeAt s k = (x : Int) := by simp [nodeAt, hx]
      have hnb : nf (x * 3 + 1) = nodeAt s (k + 1) := by rw [links_next hl hx]; rfl
      have hx6 := hs x (List.mem_of_getElem? hx)
      rw [hna]
      have x0 : (0 : Int) ≤ (x : Int) := Int.natCast_nonneg _
      have x1 : (x : Int) < 60 := by omega
      have t1 : ((x : Int) != -1) = true := by rw [bne_iff_ne]; omega
      obtain ⟨fn, tmps, assign, body, hy, hR⟩ := hY (s.attach.take k) ⟨x, hxm⟩ wr hJ2 (by rw [List.length_take]; omega)
      have hT := take_snocL hy0
      have HT := Lib.hid (And.intro hT hnb)
      clear hT hx hy0 hna hnb
      gi_wp2
      refine hR.mono ?_
      rintro e W3 (⟨rfl, hJ4, hk4⟩ | ⟨rfl, hJx4⟩)
      · have hb3 := hk4 _ (by simp) _ hb2
        have hq3 := hk4 _ (by simp) _ hq2
        have hn3 := hn2.keepL hk4 (by simp)
        have d0 := blk1 hb3
        obtain ⟨d1, _⟩ := blk2 hq3
        have d2 := hn3.cell (j := x * 3 + 1) (by omega)
        rw [HT.out.2] at d2
        rw [HT.out.1] at hJ4
        have l3 := hn3.lt
        clear hR hy hk4 hb2 hq2 hn2 hJ2
        gi_wp2
        gi_roundg (s.length - (k + 1) + 1)
        case measure => rw [Hq.out]; omega
        case rel => exact ⟨k + 1, by omega, rfl, rfl, hJ4, hb3, hq3, hn3⟩
      · clear hR hy hb2 hq2 hn2 hJ2
        rw [HT.out.1] at hJx4
        gi_wp2
        refine bodyPost_ret (results_none rfl _ _ _) rfl ?_
        exact ⟨⟨_, rfl⟩, .inr ⟨_, List.take_prefix _ _, hJx4⟩⟩
    · have hkn : k = s.length := by omega
      subst hkn
      rw [List.take_of_length_le (by simp)] at hJ2
      have hna : nodeAt s s.length = -1 := by simp [nodeAt]
      rw [hna]
      clear hb2 hq2 hn2 hna
      gi_wp2
      go_end0
      exact ⟨⟨_, rfl⟩, .inl ⟨_, rfl, hJ2⟩⟩
end Go.Proofs.Ytdcjfaplgpeonaa
