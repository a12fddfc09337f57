/-
  The iterators over a ladder's levels and a queue's nodes.
-/
import Derived.RangeFuncNested
import Derived.RangeFuncBound
import Derived.RangeFuncCalls
import Derived.RangeFuncLeaves
import Derived.Shelf.Abstract
import Derived.Shelf.RegionOpen
import Derived.WalkKit
import Derived.OwnWalkIn
import Derived.TacticsInMore
import Derived.LoopNIn
import Derived.LoopIn
import Derived.Sort.LoopGhostIn
import Derived.Sort.QuietIn
import Derived.Test.YtdcjfaplgpeonaaQa
import Derived.Test.YtdcjfaplgpeonaaQ1
namespace Go.Proofs.Ytdcjfaplgpeonaa
open Go.RowKit Go.Dm Go.Shelf
attribute [local go_sem] Oper.semAt_some

/-- What a round must keep: these blocks. -/
def KeepL (bs : List Nat) (W W' : World) : Prop := ∀ k ∈ bs, ∀ o, W.heap[k]? = some o → W'.heap[k]? = some o
theorem KeepL.t {bs : List Nat} {A B C : World} (h : KeepL bs A B) (k : KeepL bs B C) : KeepL bs A C := fun i hi o ho => k i hi o (h i hi o ho)
theorem KeepL.put {bs : List Nat} {w : World} (hb : ∀ k ∈ bs, k < w.heap.size) (W : World) (l : Nat) (o o' : Obj) (hl : w.heap.size ≤ l) (_h : W.heap[l]? = some o) (_h2 : o.isCells = false) (_h3 : o.isWalk = false) : KeepL bs W (W.putObj l o') := fun k hk x hx => by
  have := hb k hk
  rw [World.putObj_heap_other (by omega)]; exact hx
theorem KeepL.chg {bs S : List Nat} {W W' : World} (hC : Chg S W W') (hb : ∀ k ∈ bs, k ∉ S) : KeepL bs W W' := fun k hk _ ho => hC.at_ ho (hb k hk)
theorem grown_of_chgT {W W' : World} (hC : Chg [] W W') : W.grownBy W' none := ⟨hC.os, hC.tape, hC.output, hC.size, fun k hk _ => hC.block k hk (by simp)⟩
theorem _root_.Go.Dm.SlAt.keepL {α : Type} {e sz : Nat} {renc : α → List Value} {bs : List Nat} {W W' : World} {v : Value} {l : List α} (h : SlAt e sz renc W v l) (hK : KeepL bs W W') (hn : ∀ g, v.ownBlock = some g → g ∈ bs) : SlAt e sz renc W' v l := by
  refine ⟨h.1, ?_⟩
  rcases h.2 with hz | ⟨g, cap, cur, rfl, hb0, hg, r⟩
  · exact .inl hz
  · exact .inr ⟨g, cap, cur, rfl, hb0, hK g (hn g rfl) _ hg, r⟩
theorem _root_.Go.Dm.IntsAt.keepL {bs : List Nat} {w w' : World} {b t N : Nat} {c : Nat → Int} (h : IntsAt w b t N c) (hK : KeepL bs w w') (hb : b ∈ bs) : IntsAt w' b t N c := by
  obtain ⟨cs, h1, r⟩ := h; exact ⟨cs, hK _ hb _ h1, r⟩

def encLv {lv : List Lvl} (x : { x : Lvl // x ∈ lv }) : Array Value := #[.agg #[.int .i64 x.1.p, .int .i64 x.1.q, .int .i64 x.1.n, .int .i64 x.1.u]]
def LvRel (lv : List Lvl) (v : Value) (J : List { x : Lvl // x ∈ lv } → World → Prop) (q : Nat) (i : Value) (wr : World) : Prop :=
  ∃ k : Nat, k ≤ lv.length ∧ q = lv.length - k + 1 ∧ i = .int .i64 k ∧ J (lv.attach.take k) wr ∧ SlAt 167 4 lvE wr v lv

theorem attach_at {α : Type} {l : List α} {k : Nat} {y : { x : α // x ∈ l }} (h : l.attach[k]? = some y) : l[k]? = some y.1 := by
  have := congrArg (Option.map Subtype.val) h
  rw [← List.getElem?_map, List.attach_map_subtype_val] at this
  simpa using this
theorem take_snocL {α : Type} {l : List α} {k : Nat} {x : α} (h : l[k]? = some x) : l.take k ++ [x] = l.take (k + 1) := by
  have hk := (List.getElem?_eq_some_iff.1 h).1
  rw [List.take_succ_eq_append_getElem hk, (List.getElem?_eq_some_iff.1 h).2]

set_option maxRecDepth 100000 in
set_option maxHeartbeats 2000000 in
theorem iter105 (m : Nat) (hm : 1 ≤ m) (bx r : Nat) (sd : Int) (lv : List Lvl) (v : Value) (u : Nat) (w : World) (hbx : w.heap[bx]? = some (.cells #[.pointer (some ⟨r, 0, none⟩)] 145 (0, 0))) (hL : LdBlk w r sd v u) (hv : SlAt 167 4 lvE w v lv) (hlen : lv.length ≤ 1000) :
    SeqStopsK Fence.wide m Try.prog 105 #[.pointer (some ⟨bx, 0, none⟩)] (encLv (lv := lv)) (KeepL (ownL v)) (fun xs => xs = lv.attach) (fun pre => pre <+: lv.attach) lv.length w := fun yl J Jx W hW hJ hJx hY hj0 => by
  refine callsIn_of_wp Try.func105 rfl trivial ?_ rfl
  simp only [Try.ntmps105, List.size_toArray, List.length_cons, List.length_nil, Nat.reduceAdd, Nat.reduceSub, Array.replicate_succ, Array.replicate_zero, List.push_toArray, List.append_toArray, List.nil_append, List.cons_append]
  have hC : Chg [] w W := Chg.of_below hW []
  have cb := blk1 (hC.at_ hbx (by simp))
  have hL1 : LdBlk W r sd v u := hC.at_ hL (by simp)
  obtain ⟨_, _, c2, _⟩ := blk7v hL1
  have hv1 := hv.chg hC (by simp)
  obtain ⟨A, cap, rfl, _, hA0⟩ := hv1.form
  clear hC hbx hL hv hL1
  gi_wp2
  gi_loopg [12] (lv.length + 1) (fun q i wr => LvRel lv (.slice A lv.length cap) J q i wr)
  case atStart => exact ⟨0, Nat.zero_le _, rfl, rfl, hj0, hv1⟩
  case round =>
    clear hj0 hv1 cb c2
    obtain ⟨k, hk, hq, rfl, hJ2, hv2⟩ := hrel
    have Hq := Lib.hid hq
    clear hq
    by_cases hlt : k < lv.length
    · obtain ⟨g, rfl⟩ := hA0 (by omega)
      obtain ⟨y, hy0⟩ : ∃ y, lv.attach[k]? = some y := ⟨lv.attach[k]'(by simpa using hlt), by simp [hlt]⟩
      have hx : lv[k]? = some y.1 := attach_at hy0
      obtain ⟨x, hxm⟩ := y
      obtain ⟨e0, e1, e2, e3⟩ := lvs_at hv2 hx
      have k0 : (0 : Int) ≤ (k : Int) := Int.natCast_nonneg _
      have k1 : (k : Int) < (lv.length : Int) := by omega
      have hg := hv2.lt (g := g) rfl
      have hCA := Chg.alloc [] wr (.cells #[.int .i64 x.p, .int .i64 x.q, .int .i64 x.n, .int .i64 x.u] 167)
      have hJ3 := hJ _ _ _ none hJ2 (grown_of_chgT hCA) (fun r e => by cases e)
      have hv3 := hv2.chg hCA (by simp)
      obtain ⟨fn, tmps, assign, body, hy, hR⟩ := hY (lv.attach.take k) ⟨x, hxm⟩ _ hJ3 (by rw [List.length_take]; omega)
      simp only [encLv] at hy
      have hT := take_snocL hy0
      have HT := Lib.hid hT
      clear hT hx hy0 hJ2 hv2 hCA
      gi_wp2
      refine hR.mono ?_
      rintro e W3 (⟨rfl, hJ4, hk4⟩ | ⟨rfl, hJx4⟩)
      · have hv4 := hv3.keepL hk4 (fun g hg => by simp [ownL, hg])
        rw [HT.out] at hJ4
        clear e0 e1 e2 e3 hg hJ3 hv3 hR hy hk4
        gi_wp2
        gi_roundg (lv.length - (k + 1) + 1)
        case measure => rw [Hq.out]; omega
        case rel => exact ⟨k + 1, by omega, rfl, by go_num, hJ4, hv4⟩
      · clear e0 e1 e2 e3 hg hJ3 hv3 hR hy
        rw [HT.out] at hJx4
        gi_wp2
        refine bodyPost_ret (results_none rfl _ _ _) rfl ?_
        exact ⟨⟨_, rfl⟩, .inr ⟨_, List.take_prefix _ _, hJx4⟩⟩
    · have hkn : k = lv.length := by omega
      subst hkn
      rw [List.take_of_length_le (by simp)] at hJ2
      gi_wp2
      go_end0
      exact ⟨⟨_, rfl⟩, .inl ⟨_, rfl, hJ2⟩⟩

theorem links_next {nf : Nat → Int} : ∀ {s : List Nat} {k a : Nat}, Links nf s → s[k]? = some a → nf (a * 3 + 1) = (match s[k + 1]? with | some b => (b : Int) | none => -1)
  | [], k, a, _, h => by simp at h
  | [b], k, a, hl, h => by
    cases k with
    | zero => simp at h; subst h; simpa [Links] using hl
    | succ k => simp at h
  | b :: c :: r, k, a, hl, h => by
    simp only [Links] at hl
    cases k with
    | zero => simp at h; subst h; simpa using hl.1
    | succ k =>
      simp only [List.getElem?_cons_succ] at h
      have := links_next hl.2 h
      simpa using this

def nodeAt (s : List Nat) (k : Nat) : Int := match s[k]? with | some b => (b : Int) | none => -1
def QuRel (s : List Nat) (q nb eb bx : Nat) (nf _ef : Nat → Int) (J : List { i : Nat // i ∈ s } → World → Prop) (g : Nat) (i : Value) (wr : World) : Prop :=
  ∃ k : Nat, k ≤ s.length ∧ g = s.length - k + 1 ∧ i = .int .i64 (nodeAt s k) ∧ J (s.attach.take k) wr ∧ wr.heap[bx]? = some (.cells #[.pointer (some ⟨q, 0, none⟩)] 146 (0, 0)) ∧
    wr.heap[q]? = some (.cells #[.slice (some ⟨nb, 0, none⟩) 60 60, .slice (some ⟨eb, 0, none⟩) 60 60] 183 (0, 0)) ∧ IntsAt wr nb 185 180 nf

set_option maxRecDepth 100000 in
set_option maxHeartbeats 2000000 in
theorem iter106 (m : Nat) (hm : 1 ≤ m) (bx by_ q nb eb : Nat) (nf ef : Nat → Int) (u : Nat) (_a : Nat) (s : List Nat) (w : World) (hbx : w.heap[bx]? = some (.cells #[.pointer (some ⟨q, 0, none⟩)] 146 (0, 0))) (hby : w.heap[by_]? = some (.cells #[.int .i64 (u : Nat)] 3 (0, 0)))
    (hF : FfAt w q nb eb nf ef) (hu : u < 60) (he : ef (u * 3) = nodeAt s 0) (hl : Links nf s) (hs : ∀ i ∈ s, i < 60) :
    SeqStopsK Fence.wide m Try.prog 106 #[.pointer (some ⟨bx, 0, none⟩), .pointer (some ⟨by_, 0, none⟩)] (fun i : { i : Nat // i ∈ s } => #[Value.int .i64 i.1]) (KeepL [bx, q, nb]) (fun xs => xs = s.attach) (fun pre => pre <+: s.attach) s.length w := fun yl J Jx W hW hJ hJx hY hj0 => by
  refine callsIn_of_wp Try.func106 rfl trivial ?_ rfl
  simp only [Try.ntmps106, List.size_toArray, List.length_cons, List.length_nil, Nat.reduceAdd, Nat.reduceSub, Array.replicate_succ, Array.replicate_zero, List.push_toArray, List.append_toArray, List.nil_append, List.cons_append]
  have hC : Chg [] w W := Chg.of_below hW []
  have hbx1 := hC.at_ hbx (by simp)
  have cx := blk1 hbx1
  have cy := blk1 (hC.at_ hby (by simp))
  have hF1 := hF.chg hC (by simp) (by simp) (by simp)
  have hqc := queue102 W q nb eb nf ef hF1 u hu
  have e0 := hF1.eds.cell (j := u * 3) (by omega)
  have el := hF1.eds.lt
  rw [he] at e0
  clear hC hbx hby hF he
  gi_wp2_with fail
  refine ⟨trivial, ?_⟩
  refine (callsIn_wide.2 hqc).mono ?_
  rintro e w' ⟨rfl, rfl⟩
  clear hqc
  gi_wp2_with fail
  gi_loopg [5] (s.length + 1) (fun g i wr => QuRel s q nb eb bx nf ef J g i wr)
  case atStart => exact ⟨0, Nat.zero_le _, rfl, rfl, hj0, hbx1, hF1.blk, hF1.nds⟩
  case round =>
    clear hj0 hbx1 hF1 cx cy e0 el
    obtain ⟨k, hk, hq, rfl, hJ2, hb2, hq2, hn2⟩ := hrel
    have Hq := Lib.hid hq
    clear hq
    by_cases hlt : k < s.length
    · obtain ⟨y, hy0⟩ : ∃ y, s.attach[k]? = some y := ⟨s.attach[k]'(by simpa using hlt), by simp [hlt]⟩
      have hx : s[k]? = some y.1 := attach_at hy0
      obtain ⟨x, hxm⟩ := y
      have hna : nodeAt s k = (x : Int) := by simp [nodeAt, hx]
      have hnb : nf (x * 3 + 1) = nodeAt s (k + 1) := by rw [links_next hl hx]; rfl
      have hx6 := hs x (List.mem_of_getElem? hx)
      rw [hna]
      have x0 : (0 : Int) ≤ (x : Int) := Int.natCast_nonneg _
      have x1 : (x : Int) < 60 := by omega
      have t1 : ((x : Int) != -1) = true := by rw [bne_iff_ne]; omega
      obtain ⟨fn, tmps, assign, body, hy, hR⟩ := hY (s.attach.take k) ⟨x, hxm⟩ wr hJ2 (by rw [List.length_take]; omega)
      have hT := take_snocL hy0
      have HT := Lib.hid (And.intro hT hnb)
      clear hT hx hy0 hna hnb
      gi_wp2
      refine hR.mono ?_
      rintro e W3 (⟨rfl, hJ4, hk4⟩ | ⟨rfl, hJx4⟩)
      · have hb3 := hk4 _ (by simp) _ hb2
        have hq3 := hk4 _ (by simp) _ hq2
        have hn3 := hn2.keepL hk4 (by simp)
        have d0 := blk1 hb3
        obtain ⟨d1, _⟩ := blk2 hq3
        have d2 := hn3.cell (j := x * 3 + 1) (by omega)
        rw [HT.out.2] at d2
        rw [HT.out.1] at hJ4
        have l3 := hn3.lt
        clear hR hy hk4 hb2 hq2 hn2 hJ2
        gi_wp2
        gi_roundg (s.length - (k + 1) + 1)
        case measure => rw [Hq.out]; omega
        case rel => exact ⟨k + 1, by omega, rfl, rfl, hJ4, hb3, hq3, hn3⟩
      · clear hR hy hb2 hq2 hn2 hJ2
        rw [HT.out.1] at hJx4
        gi_wp2
        refine bodyPost_ret (results_none rfl _ _ _) rfl ?_
        exact ⟨⟨_, rfl⟩, .inr ⟨_, List.take_prefix _ _, hJx4⟩⟩
    · have hkn : k = s.length := by omega
      subst hkn
      rw [List.take_of_length_le (by simp)] at hJ2
      have hna : nodeAt s s.length = -1 := by simp [nodeAt]
      rw [hna]
      clear hb2 hq2 hn2 hna
      gi_wp2
      go_end0
      exact ⟨⟨_, rfl⟩, .inl ⟨_, rfl, hJ2⟩⟩
end Go.Proofs.Ytdcjfaplgpeonaa

/-
  The book's iterator over a side's orders.
-/
namespace Go.Proofs.Ytdcjfaplgpeonaa
open Go.RowKit Go.Dm Go.Shelf
attribute [local go_sem] Oper.semAt_some
attribute [local simp] wide_fn
attribute [local go_sem] wide_fn

theorem each88 (w : World) (p : Option Addr) :
    Calls Try.prog 88 #[.pointer p] w fun e w' => e = .returned (.func (.func 105) #[] #[.pointer (some ⟨w.heap.size, 0, none⟩)]) ∧ w' = w.alloc (.cells #[.pointer p] 145) := by
  go_enter Try.func88, Try.ntmps88
  go_wp2
  go_ret
  exact ⟨rfl, rfl⟩
theorem each89 (w : World) (p : Option Addr) (i : Int) :
    Calls Try.prog 89 #[.pointer p, .int .i64 i] w fun e w' => e = .returned (.func (.func 106) #[] #[.pointer (some ⟨w.heap.size, 0, none⟩), .pointer (some ⟨w.heap.size + 1, 0, none⟩)]) ∧ w' = (w.alloc (.cells #[.pointer p] 146)).alloc (.cells #[.int .i64 i] 3) := by
  go_enter Try.func89, Try.ntmps89
  go_wp2
  go_ret
  exact ⟨rfl, rfl⟩
theorem each68 (w : World) (p : Option Addr) (i : Int) :
    Calls Try.prog 68 #[.pointer p, .int .i64 i] w fun e w' => e = .returned (.func (.func 87) #[] #[.pointer (some ⟨w.heap.size, 0, none⟩), .pointer (some ⟨w.heap.size + 1, 0, none⟩)]) ∧ w' = (w.alloc (.cells #[.pointer p] 87)).alloc (.cells #[.int .i64 i] 3) := by
  go_enter Try.func68, Try.ntmps68
  go_wp2
  go_ret
  exact ⟨rfl, rfl⟩

theorem ownFrom_le {β : Type} {B B' : Nat} {I : β → World → Prop} (h : OwnFrom B I) (hle : B ≤ B') : OwnFrom B' I := fun s A C row hs hg hr => h s A C row hs hg (fun r e => ⟨Nat.le_trans hle (hr r e).1, (hr r e).2⟩)
theorem ownFrom_chgT {β : Type} (S : List Nat) (W0 : World) : OwnFrom W0.heap.size (fun (_ : β) W => Chg S W0 W) := fun s W W' row hs hg hr =>
  ⟨hg.os.trans hs.os, hg.tape.trans hs.tape, hg.output.trans hs.output, Nat.le_trans hs.size hg.size, fun k hk hn =>
    (hg.block k (Nat.lt_of_lt_of_le hk hs.size) (fun e => by have := (hr k e.symm).1; omega)).trans (hs.block k hk hn)⟩
theorem KeepsFrom.of_chgT {B : Nat} {S : List Nat} {W W' : World} (hC : Chg S W W') (hS : ∀ k ∈ S, k < B) : KeepsFrom B W W' :=
  ⟨hC.size, fun k o hk ho _ => hC.at_ ho (fun hm => by have := hS k hm; omega)⟩

/-- The slots of a book's orders. -/
abbrev SlotL (L : List Ord) := { i : Nat // i < L.length }
def toS (L : List Ord) (s : List Nat) : List (SlotL L) := s.filterMap (fun i => if h : i < L.length then some ⟨i, h⟩ else none)
theorem toS_app (L : List Ord) (a b : List Nat) : toS L (a ++ b) = toS L a ++ toS L b := by simp [toS]
theorem toS_one (L : List Ord) (i : Nat) (h : i < L.length) : toS L [i] = [⟨i, h⟩] := by simp [toS, h]
theorem toS_len (L : List Ord) (s : List Nat) : (toS L s).length ≤ s.length := List.length_filterMap_le _ _
theorem toS_pre (L : List Ord) {a b : List Nat} (h : a <+: b) : toS L a <+: toS L b := by
  obtain ⟨t, rfl⟩ := h
  rw [toS_app]; exact List.prefix_append _ _
theorem toS_val (L : List Ord) (s : List Nat) (h : ∀ i ∈ s, i < L.length) : (toS L s).map (·.1) = s := by
  induction s with
  | nil => rfl
  | cons a s ih =>
    have h1 := ih (fun i hi => h i (List.mem_cons_of_mem _ hi))
    have ha := h a (by simp)
    simp only [toS, List.filterMap_cons, ha, dif_pos, List.map_cons] at *
    rw [h1]
def slotV (L : List Ord) (i : SlotL L) : Array Value := #[oV (L.getD i.1 (fun _ => 0))]
/-- The slots of some levels. -/
def lvS {lv : List Lvl} (pre : List { x : Lvl // x ∈ lv }) : List Nat := pre.flatMap (fun x => x.1.s)
theorem lvS_app {lv : List Lvl} (a b : List { x : Lvl // x ∈ lv }) : lvS (a ++ b) = lvS a ++ lvS b := by simp [lvS]
theorem lvS_all (lv : List Lvl) : lvS lv.attach = lv.flatMap (·.s) := by
  unfold lvS
  rw [← List.flatMap_map (f := Subtype.val) (g := fun x : Lvl => x.s), List.attach_map_subtype_val]
theorem lvS_pre {lv : List Lvl} {a b : List { x : Lvl // x ∈ lv }} (h : a <+: b) : lvS a <+: lvS b := by
  obtain ⟨t, rfl⟩ := h
  rw [lvS_app]; exact List.prefix_append _ _
theorem lvS_len {lv : List Lvl} (h : ∀ x ∈ lv, x.s.length ≤ 60) : ∀ (pre : List { x : Lvl // x ∈ lv }), (lvS pre).length ≤ pre.length * 60
  | [] => by simp [lvS]
  | x :: pre => by
    have h1 := lvS_len h pre
    have h2 := h x.1 x.2
    simp only [lvS, List.flatMap_cons, List.length_append, List.length_cons] at *
    omega

/-- What the iterator reads. -/
structure It87 (w : World) (bx by_ b off ar x : Nat) (S : Sdb) (sd : Int) (D : Nat) (L : List Ord) (lv : List Lvl) (v : Value) (c : Nat → Int) : Prop where
  hbx : w.heap[bx]? = some (.cells #[.pointer (some ⟨b, 0, none⟩)] 87 (0, 0))
  hby : w.heap[by_]? = some (.cells #[.int .i64 sd] 3 (0, 0))
  bc : BC w b off ar x S
  sd : SdAt w D sd S L lv v
  ar : ArAt w ar c
theorem It87.chg {w w' : World} {bx by_ b off ar x : Nat} {S : Sdb} {sd : Int} {D : Nat} {L : List Ord} {lv : List Lvl} {v : Value} {c : Nat → Int} {T : List Nat} (h : It87 w bx by_ b off ar x S sd D L lv v c) (hC : Chg T w w')
    (h0 : bx ∉ T) (h1 : by_ ∉ T) (h2 : b ∉ T) (h3 : ar ∉ T) (h4 : S.l ∉ T) (h5 : S.q ∉ T) (h6 : S.n ∉ T) (h7 : S.e ∉ T) (h8 : ∀ g, v.ownBlock = some g → g ∉ T) : It87 w' bx by_ b off ar x S sd D L lv v c :=
  ⟨hC.at_ h.hbx h0, hC.at_ h.hby h1, h.bc.chg hC h2, h.sd.chg hC h4 h5 h6 h7 h8, h.ar.chg hC h3⟩

theorem ownFrom_cellsT {β : Type} {B k : Nat} (f : β → Obj) (hc : ∀ s, (f s).isCells = true) : OwnFrom B (fun s W => W.heap[k]? = some (f s)) := fun s W W' row hs hg hr =>
  (hg.block k (blk_lt hs) (fun e => by obtain ⟨_, o, ho, hc'⟩ := hr k e.symm; rw [hs] at ho; cases ho; rw [hc s] at hc'; cases hc')).trans hs
theorem RoundIn.rounds {m : Nat} (m' : Nat) {P : Program} {l a b : Nat} {f : FuncId} {tmps : Array Value} {assign body : Code} {w : World} {R : Ending → World → Prop}
    (h : RoundIn Fence.wide m P l f tmps assign body w R) : RoundIn ((Fence.wide.inRound a).inRound b) m' P l f tmps assign body w R := ⟨h.1, fun c cs _ => h.2 c cs (fun d h => by cases h)⟩
theorem ordVT {L : List Ord} {c : Nat → Int} (hH : Hold 60 L.length L c) (i : Nat) (hi : i < L.length) : oV (ordAt c (i * 8)) = oV (L.getD i (fun _ => 0)) := by
  have ho : L[i]? = some (L.getD i (fun _ => 0)) := by simp [List.getD, hi]
  have h := hH.ord i _ hi ho
  simp only [oV, ordAt]
  rw [h 0 (by omega), h 1 (by omega), h 2 (by omega), h 3 (by omega), h 4 (by omega), h 5 (by omega), h 6 (by omega)]
theorem tail_round {n l0 : Nat} {P : Program} {Q : Exit → Act → World → Prop} {id : Nat} {a : Act} {w : World} {l : List Oper} (k : Nat) (hm : P.follows .mixedOrders = true) (hB : Region.lexTailB .any l.toArray k = true) (hd : l.toArray.all noDefer = true)
    (h : wpStill P l.toArray w.drew (fun a' => wpListIn Fence.wide n P l.toArray Q (l.drop k) a' w.drew) (l.take k) a) : (Code.region id l.toArray true).wpIn (Fence.wide.inRound l0) n P Q a w := by
  simp only [Region.lexTailB, Bool.and_eq_true, decide_eq_true_eq] at hB
  obtain ⟨⟨⟨⟨hsel, hn⟩, hs⟩, hc⟩, hlex⟩ := hB
  have hn' : k < l.length := by simpa using hn
  have htl : (l.take k).length = k := by simp; omega
  have hdl : (l.drop k).length = l.toArray.size - k := by simp
  have inv0 : HeadInv .any l.toArray k (Array.replicate l.toArray.size false) :=
    ⟨by simp, fun j oj _ hl => (by rw [getD_replicate_false] at hl; cases hl), fun t _ ht => getD_in (by simpa using ht) (getD_replicate_false _ _)⟩
  have H := wpAnyL_lex (md := .any) (g := l.toArray.size - k) hsel hs hc hn (l.take k) 0 _ a (fun j hj => by
    have hj' : j < k := by rw [htl] at hj; exact hj
    simp [hj']) (by simpa using htl) inv0 (by rw [htl]; exact hlex) h
  refine wpIn_region_any hm ?_
  have := head_wide (n := n) (Q := Q) (g := l.toArray.size - k) (fun listed a' hL => by
    have := seq_wide (n := n) (md := .any) (Q := Q) (l.drop k) k listed a' w.drew (fun j => by simp [List.getElem?_drop]) (by rw [hdl]; exact hL.1) hL.2
    rwa [hdl] at this) _ _ _ H
  rw [htl, show k + (l.toArray.size - k) = l.toArray.size by omega] at this
  exact any_round hd _ _ _ _ this
theorem name_actIn {F : Fence} {n : Nat} {P : Program} {c : Code} {Q : Exit → Act → World → Prop} {a : Act} {w : World} (h : ∀ a0, a0 = a → c.wpIn F n P Q a0 w) : c.wpIn F n P Q a w := h a rfl
theorem name_actW {P : Program} {c : Code} {Q : Exit → Act → World → Prop} {a : Act} {w : World} (h : ∀ a0, a0 = a → c.wp P Q a0 w) : c.wp P Q a w := h a rfl

theorem s_len {sd : Int} {lv : List Lvl} {L : List Ord} (ok : LvOk sd lv L) (hlen : L.length ≤ 60) : ∀ x ∈ lv, x.s.length ≤ 60 := fun x hx => by
  have hs : x.s ⊆ List.range L.length := fun i hi => List.mem_range.2 (ok.lt hx hi)
  have := List.Nodup.length_le_of_subset (flat_mem_nodup ok.nodup hx) hs
  simp at this
  omega

set_option maxRecDepth 100000 in
set_option maxHeartbeats 4000000 in
theorem iter87 (m : Nat) (hm : 8 ≤ m) (w : World) (bx by_ b off ar x : Nat) (S : Sdb) (sd : Int) (D : Nat) (L : List Ord) (lv : List Lvl) (v : Value) (c : Nat → Int) (hI : It87 w bx by_ b off ar x S sd D L lv v c) (hof : OfIs b off sd) (hH : Hold 60 L.length L c) (hlen : L.length ≤ 60)
    (T : List Nat) (t2 : b ∉ T) (t3 : ar ∉ T) (t5 : S.q ∉ T) (t6 : S.n ∉ T) (t7 : S.e ∉ T) (t4 : S.l ∉ T) (t8 : ∀ g, v.ownBlock = some g → g ∉ T) :
    SeqO m Try.prog 87 #[.pointer (some ⟨bx, 0, none⟩), .pointer (some ⟨by_, 0, none⟩)] (slotV L) T (fun xs => xs = toS L (lv.flatMap (·.s))) (fun pre => pre <+: toS L (lv.flatMap (·.s))) 4000 w := fun yl J Jx W hW hTW hJ hJx hY hj0 => by
  refine callsIn_of_wp_marks (n := m) Try.func87 rfl trivial (wpIn_wide.2 ?_) rfl
  simp only [Try.ntmps87, List.size_toArray, List.length_cons, List.length_nil, Nat.reduceAdd, Nat.reduceSub, Array.replicate_succ, Array.replicate_zero, List.push_toArray, List.append_toArray, List.nil_append, List.cons_append]
  have hC : Chg [] w W := Chg.of_below hW []
  have hI1 := hI.chg hC (by simp) (by simp) (by simp) (by simp) (by simp) (by simp) (by simp) (by simp) (by simp)
  have hA1 := Chg.alloc [] W (.cells #[.func (.yield yl) #[] #[]] 162)
  have hI2 := hI1.chg hA1 (by simp) (by simp) (by simp) (by simp) (by simp) (by simp) (by simp) (by simp) (by simp)
  have cx := blk1 hI2.hbx
  have cy := blk1 hI2.hby
  have bz := heap_alloc_new W (.cells #[.func (.yield yl) #[] #[]] 162)
  have hA2 := Chg.alloc [] (W.alloc (.cells #[.func (.yield yl) #[] #[]] 162)) (.cells #[.pointer (some ⟨b, off, none⟩)] 156)
  have hI3 := hI2.chg hA2 (by simp) (by simp) (by simp) (by simp) (by simp) (by simp) (by simp) (by simp) (by simp)
  have bs := heap_alloc_new (W.alloc (.cells #[.func (.yield yl) #[] #[]] 162)) (.cells #[.pointer (some ⟨b, off, none⟩)] 156)
  have cx3 := blk1 hI3.hbx
  have c03 := hI3.bc.c0
  have cl3 := hI3.bc.cl
  have hA3 := Chg.alloc [] ((W.alloc (.cells #[.func (.yield yl) #[] #[]] 162)).alloc (.cells #[.pointer (some ⟨b, off, none⟩)] 156)) (.cells #[.func (.func 25) #[.pointer (some ⟨ar, 0, none⟩)] #[]] 54)
  have hI4 := hI3.chg hA3 (by simp) (by simp) (by simp) (by simp) (by simp) (by simp) (by simp) (by simp) (by simp)
  have bg := heap_alloc_new ((W.alloc (.cells #[.func (.yield yl) #[] #[]] 162)).alloc (.cells #[.pointer (some ⟨b, off, none⟩)] 156)) (.cells #[.func (.func 25) #[.pointer (some ⟨ar, 0, none⟩)] #[]] 54)
  have cl4 := hI4.bc.cl
  have lx := blk_lt hI1.hbx
  have ly := blk_lt hI1.hby
  have lb := hI1.bc.kind.lt
  simp only [World.size_alloc] at bs bg
  go_wp2_with fail
  go_step3
  go_wp2_with fail
  refine (hof _).mono ?_
  rintro e w' ⟨rfl, rfl⟩
  go_wp2_with fail
  go_step3
  go_wp2_with fail
  refine (each88 _ _).mono ?_
  rintro e w' ⟨rfl, rfl⟩
  have hA4 := Chg.alloc [] (((W.alloc (.cells #[.func (.yield yl) #[] #[]] 162)).alloc (.cells #[.pointer (some ⟨b, off, none⟩)] 156)).alloc (.cells #[.func (.func 25) #[.pointer (some ⟨ar, 0, none⟩)] #[]] 54)) (.cells #[.pointer (some ⟨S.l, 0, none⟩)] 145)
  have bl := heap_alloc_new (((W.alloc (.cells #[.func (.yield yl) #[] #[]] 162)).alloc (.cells #[.pointer (some ⟨b, off, none⟩)] 156)).alloc (.cells #[.func (.func 25) #[.pointer (some ⟨ar, 0, none⟩)] #[]] 54)) (.cells #[.pointer (some ⟨S.l, 0, none⟩)] 145)
  simp only [World.size_alloc] at bl
  have hI5 := hI4.chg hA4 (by simp) (by simp) (by simp) (by simp) (by simp) (by simp) (by simp) (by simp) (by simp)
  have hz := hA2.at_ bz (by simp)
  have hz := hA3.at_ hz (by simp)
  have hz := hA4.at_ hz (by simp)
  have hs := hA3.at_ bs (by simp)
  have hs := hA4.at_ hs (by simp)
  have hg := hA4.at_ bg (by simp)
  have hC0 : Chg [] W _ := ((hA1.trans hA2).trans hA3).trans hA4
  have z0 : ((((W.alloc (.cells #[.func (.yield yl) #[] #[]] 162)).alloc (.cells #[.pointer (some ⟨b, off, none⟩)] 156)).alloc (.cells #[.func (.func 25) #[.pointer (some ⟨ar, 0, none⟩)] #[]] 54)).alloc (.cells #[.pointer (some ⟨S.l, 0, none⟩)] 145)).heap.size = W.heap.size + 1 + 1 + 1 + 1 := by simp
  go_wp2_with fail
  obtain ⟨W0, eW0⟩ : ∃ W0, ((((W.alloc (.cells #[.func (.yield yl) #[] #[]] 162)).alloc (.cells #[.pointer (some ⟨b, off, none⟩)] 156)).alloc (.cells #[.func (.func 25) #[.pointer (some ⟨ar, 0, none⟩)] #[]] 54)).alloc (.cells #[.pointer (some ⟨S.l, 0, none⟩)] 145)) = W0 := ⟨_, rfl⟩
  rw [eW0] at hI5 hC0 z0 hz hs hg bl ⊢
  clear eW0 hA1 hA2 hA3 hA4 hI1 hI2 hI3 hI4 bz bs bg cx cy cx3 c03 cl3 cl4 hI
  have hj : J [] W0 := hJ _ _ _ none hj0 (grown_of_chgT hC0) (fun r e => by cases e)
  have hJ0 := ownFrom_le hJ hC0.size
  have hJx0 := ownFrom_le hJx hC0.size
  have hT0 : ∀ k ∈ T, k < W0.heap.size := fun k hk => Nat.lt_of_lt_of_le (hTW k hk) hC0.size
  have hS60 := s_len hI5.sd.ok hlen
  have hlvl := lv_len hI5.sd.ok
  have l_l : S.l < W0.heap.size := blk_lt hI5.sd.ld
  have keepT : ∀ {W1 W2 : World}, Chg T W1 W2 → KeepL (ownL v) W1 W2 := fun hC => KeepL.chg hC (fun k hk hm => by
    unfold ownL at hk
    cases hv : v.ownBlock with
    | none => simp [hv] at hk
    | some g => simp [hv] at hk; subst hk; exact t8 k hv hm)
  have vlt : ∀ k ∈ ownL v, k < W0.heap.size := fun k hk => by
    unfold ownL at hk
    cases hv : v.ownBlock with
    | none => simp [hv] at hk
    | some g => simp [hv] at hk; subst hk; exact hI5.sd.sl.lt hv
  refine name_actW (fun a0 ha => ?_)
  obtain ⟨f, hf⟩ : ∃ f : { x : Lvl // x ∈ lv } → Nat → Act, ∀ x B, f x B = { tmps := (a0.tmps.setIfInBounds 25 (.agg (lvE x.1).toArray)).setIfInBounds 6 (ptr B), defers := [] } := ⟨_, fun _ _ => rfl⟩
  subst ha
  refine (wpIn_wide (n := m)).1 ?_
  refine wpIn_rangeFunc_ownH rfl (by omega) (gf := 105) (lb := #[ptr (W.heap.size + 1 + 1 + 1)]) rfl trivial (enters_of Try.func105 (by kernel_rfl) rfl)
    (iter105 (m - 1) (by omega) (W.heap.size + 1 + 1 + 1) S.l sd lv v (ones lv.length) W0 bl hI5.sd.ld hI5.sd.sl (by omega)) (fun h k => KeepL.t h k) (KeepL.put vlt) (Below.refl _ _) (fun _ => rfl)
    (fun pre Wc => J (toS L (lvS pre)) Wc ∧ Chg T W0 Wc)
    (fun c xs Wc => c = .exit 0 ∧ ∃ pre x q, xs = pre ++ [x] ∧ q <+: x.1.s ∧ Jx (toS L (lvS pre) ++ toS L q) Wc)
    (fun pre A B row ⟨h1, h2⟩ hg hr => ⟨hJ0 _ _ _ _ h1 hg hr, ownFrom_chgT (β := Unit) T W0 () _ _ _ h2 hg hr⟩)
    (fun c xs A B row ⟨h0, pre, x, q, h1, h2, h3⟩ hg hr => ⟨h0, pre, x, q, h1, h2, hJx0 _ _ _ _ h3 hg hr⟩)
    ⟨by simpa [lvS, toS] using hj, Chg.refl _ _⟩
    (fun x a' Wc => ∃ B : Nat, W0.heap.size ≤ B ∧ Wc.heap[B]? = some (Obj.cells (lvE x.1).toArray 167 (0, 0)) ∧ a' = f x B)
    (fun x a' s A C row ⟨B, hB0, hB, e⟩ hg hr => ⟨B, hB0, ownFrom_cellsT (fun _ => Obj.cells (lvE x.1).toArray 167 (0, 0)) (fun _ => rfl) () A C row hB hg hr, e⟩) ?assign ?body ?done ?stop
  case assign =>
    intro l pre x W1 K hi hK
    obtain ⟨B, hB⟩ : ∃ B, W1.heap.size = B := ⟨_, rfl⟩
    simp only [encLv]
    gi_wp2
    have hA := Chg.alloc T W1 (.cells #[.int .i64 x.1.p, .int .i64 x.1.q, .int .i64 x.1.n, .int .i64 x.1.u] 167)
    refine hK _ _ (KeepsFrom.of_chgT hA hT0) (keepT hA) ⟨hJ0 _ _ _ none hi.1 (grown_of_chgT (Chg.alloc [] _ _)) (fun r e => by cases e), hi.2.trans hA⟩ ⟨B, by rw [← hB]; exact hi.2.size, hB ▸ heap_alloc_new W1 _, ?_⟩
    rw [hf]; simp [lvE, ptr]
  case body =>
    rintro l pre x a' W1 hl ⟨r₀, hrec⟩ ⟨hi1, hi2⟩ ⟨B, hB0, hBx, ea⟩ hlen2
    rw [hf] at ea
    subst ea
    have hWT : ∀ k, W.heap.size ≤ k → k ∉ T := fun k hk hm => by have := hTW k hm; omega
    have bc1 := hI5.bc.chg hi2 t2
    have sd1 := hI5.sd.chg hi2 t4 t5 t6 t7 t8
    have ar1 := hI5.ar.chg hi2 t3
    have z1 := hi2.at_ hz (hWT _ (by omega))
    have s1 := hi2.at_ hs (hWT _ (by omega))
    have g1 := hi2.at_ hg (hWT _ (by omega))
    clear bl hz hs hg hj hI5
    have cs := blk1 s1
    have cq := bc1.cq
    obtain ⟨x0, x1, x2, x3⟩ := blk4v hBx
    obtain ⟨x, hx⟩ := x
    simp only at x0 x1 x2 x3
    simp only [ptr, lvE]
    gi_wp2
    have hCd : Chg [] W1 W1.drew := Chg.drew _ _
    refine tail_round 6 (by kernel_rfl) (by kernel_rfl) (by kernel_rfl) ?_
    obtain ⟨Wd, hd⟩ : ∃ Wd, W1.drew = Wd := ⟨_, rfl⟩
    rw [hd] at hCd ⊢
    clear hd
    have hdsz := hCd.size
    have cs := hCd.cell cs (by simp)
    have cq := hCd.cell cq (by simp)
    have x2 := hCd.cell x2 (by simp)
    have x3 := hCd.cell x3 (by simp)
    simp only [List.take_succ_cons, List.take_zero, List.drop_succ_cons, List.drop_zero]
    repeat still_step
    refine wpStill_nil ?_
    gi_wp2_with fail
    refine ⟨fun h => (by cases h), (callsIn_wide.2 (each89 Wd _ _)).mono ?_⟩
    rintro e w' ⟨rfl, rfl⟩
    gi_wp2
    have bq := heap_alloc_new Wd (.cells #[.pointer (some ⟨S.q, 0, none⟩)] 146)
    have hA1 := Chg.alloc [] Wd (.cells #[.pointer (some ⟨S.q, 0, none⟩)] 146)
    have bu := heap_alloc_new (Wd.alloc (.cells #[.pointer (some ⟨S.q, 0, none⟩)] 146)) (.cells #[.int .i64 (x.u : Nat)] 3)
    have hA2 := Chg.alloc [] (Wd.alloc (.cells #[.pointer (some ⟨S.q, 0, none⟩)] 146)) (.cells #[.int .i64 (x.u : Nat)] 3)
    have bq := hA2.at_ bq (by simp)
    simp only [World.size_alloc] at bu
    have hC2 : Chg [] W1 _ := (hCd.trans hA1).trans hA2
    obtain ⟨Wx, eWx⟩ : ∃ Wx, ((Wd.alloc (.cells #[.pointer (some ⟨S.q, 0, none⟩)] 146)).alloc (.cells #[.int .i64 (x.u : Nat)] 3)) = Wx := ⟨_, rfl⟩
    rw [eWx] at bq bu hC2 ⊢
    clear eWx hA1 hA2 hCd cs cq x0 x1 x2 x3
    obtain ⟨dz, hdz⟩ : ∃ dz, Wd.heap.size = dz := ⟨_, rfl⟩
    rw [hdz] at bq bu ⊢
    have hdz0 : W0.heap.size ≤ dz := by rw [← hdz]; exact Nat.le_trans hi2.size hdsz
    clear hdz
    obtain ⟨nf, ef, ff, qs⟩ := sd1.ff
    obtain ⟨a1, r1, hs1, he1, _, hlk1⟩ := qs.ends x hx
    rw [← hs1] at hlk1
    have he2 : ef (x.u * 3) = nodeAt x.s 0 := by rw [he1, hs1]; rfl
    have ff2 := ff.chg hC2 (by simp) (by simp) (by simp)
    have hu60 : x.u < 60 := by have := sd1.ok.qlt x hx; omega
    have hslt : ∀ i ∈ x.s, i < L.length := fun i hi => sd1.ok.lt hx hi
    have hrec2 := hC2.at_ hrec (by simp)
    have hJ2 := hJ0 _ _ _ none hi1 (grown_of_chgT hC2) (fun r e => by cases e)
    have hi3 := hi2.trans hC2.nil
    have hWx : ∀ k ∈ T, k < Wx.heap.size := fun k hk => Nat.lt_of_lt_of_le (hT0 k hk) hi3.size
    have hJi := ownFrom_le hJ0 hi3.size
    have hJxi := ownFrom_le hJx0 hi3.size
    have kT : ∀ {W1 W2 : World}, Chg T W1 W2 → (∀ k ∈ [dz, S.q, S.n], k ∉ T) → KeepL [dz, S.q, S.n] W1 W2 := fun hC hn => KeepL.chg hC hn
    have kn : ∀ k ∈ [dz, S.q, S.n], k ∉ T := fun k hk hm => by
      simp only [List.mem_cons, List.not_mem_nil, or_false] at hk
      rcases hk with rfl | rfl | rfl
      · exact absurd (hT0 _ hm) (by have := hdz0; omega)
      · exact t5 hm
      · exact t6 hm
    have klt : ∀ k ∈ [dz, S.q, S.n], k < Wx.heap.size := fun k hk => by
      simp only [List.mem_cons, List.not_mem_nil, or_false] at hk
      rcases hk with rfl | rfl | rfl
      · exact blk_lt bq
      · exact blk_lt ff2.blk
      · exact ff2.nds.lt
    refine name_actIn (fun a0 ha => ?_)
    obtain ⟨f2, hf2⟩ : ∃ f2 : { i : Nat // i ∈ x.s } → Act, ∀ i, f2 i = { tmps := (a0.tmps.setIfInBounds 33 (.int .i64 (i.1 : Nat))).setIfInBounds 7 (.int .i64 (i.1 : Nat)), defers := [] } := ⟨_, fun _ => rfl⟩
    subst ha
    refine wpIn_rangeFunc_ownN rfl hrec2 (by omega) (gf := 106) (lb := #[ptr dz, ptr (dz + 1)]) rfl trivial (enters_of Try.func106 (by kernel_rfl) rfl)
      ((iter106 (m - 1 - 1 - 1) (by omega) dz (dz + 1) S.q S.n S.e nf ef x.u a1 x.s Wx bq bu ff2 hu60 he2 hlk1 (fun i hi => by have := hslt i hi; omega)).inRound l) (fun h k => KeepL.t h k) (KeepL.put klt) (Below.refl _ _) (fun _ => rfl)
      (fun pre' Wc => J (toS L (lvS pre) ++ toS L (pre'.map (·.1))) Wc ∧ Chg T Wx Wc)
      (fun c xs Wc => c = .exit 0 ∧ Jx (toS L (lvS pre) ++ toS L (xs.map (·.1))) Wc ∧ Chg T Wx Wc)
      (fun pre A B row ⟨h1, h2⟩ hg hr => ⟨hJi _ _ _ _ h1 hg hr, ownFrom_chgT (β := Unit) T Wx () _ _ _ h2 hg hr⟩)
      (fun c xs A B row ⟨h0, h1, h2⟩ hg hr => ⟨h0, hJxi _ _ _ _ h1 hg hr, ownFrom_chgT (β := Unit) T Wx () _ _ _ h2 hg hr⟩)
      ⟨by simpa [toS] using hJ2, Chg.refl _ _⟩
      (fun i a' Wc => a' = f2 i)
      (fun i a' s A C row e hg hr => e) ?assignI ?bodyI ?doneI ?stopI
    case assignI =>
      intro l2 pre' i W2 K hi hK
      gi_wp2
      refine hK _ _ (KeepsFrom.refl _ _) (fun k hk o ho => ho) hi ?_
      rw [hf2]; simp []
    case bodyI =>
      rintro l2 pre' i a' W2 hl2 ⟨r2, hrec3⟩ ⟨hk1, hk2⟩ ea hlen3
      rw [hf2] at ea
      subst ea
      obtain ⟨i, hi⟩ := i
      have hiL := hslt i hi
      have hC3 := hC2.nil.trans hk2
      have ar2 := ar1.chg hC3 t3
      have z2 := blk1 (hC3.at_ z1 (hWT _ (by omega)))
      have g2 := blk1 (hC3.at_ g1 (hWT _ (by omega)))
      have hget := get09_yes W2 ar c ar2 i (by rw [hH.size]; omega) (by rw [hH.size]; omega) (hH.low i hiL)
      rw [ordVT hH i hiL] at hget
      obtain ⟨o, ho⟩ : ∃ o, L.getD i (fun _ => 0) = o := ⟨_, rfl⟩
      rw [ho] at hget
      simp only [oV] at hget
      simp only
      clear bq bu hrec hrec2 hrec3 s1 he1 he2 hlk1 ff ff2 qs sd1 bc1 ar1 z1 g1 ar2 hBx hs1
      gi_wp2_with fail
      refine ⟨fun h => (by cases h), (CallsIn.inRound l2 (CallsIn.inRound l (callsIn_wide.2 hget))).mono ?_⟩
      rintro e W3 ⟨rfl, hC4⟩
      clear hget
      have hA := Chg.alloc [] W3 (.cells #[.int .i64 (o 0), .int .i64 (o 1), .int .i64 (o 2), .int .i64 (o 3), .int .i64 (o 4), .int .i64 (o 5), .int .i64 (o 6)] 52)
      have z3 := hA.cell (hC4.cell z2 (by simp)) (by simp)
      have hC5 := hC4.trans hA
      have hJ3 := hJi _ _ _ none hk1 (grown_of_chgT hC5) (fun r e => by cases e)
      have hlenY : (toS L (lvS pre) ++ toS L (pre'.map (·.1))).length < 4000 := by
        have q1 := toS_len L (lvS pre)
        have q2 := toS_len L (pre'.map (·.1))
        have q3 := lvS_len hS60 pre
        have q4 := hS60 x hx
        simp only [List.length_append, List.length_map] at *
        have q5 : pre.length * 60 ≤ 3600 := by omega
        omega
      obtain ⟨fn, tmps, assign, body, hy, hR⟩ := hY _ ⟨i, hiL⟩ _ hJ3 hlenY
      simp only [slotV, ho, oV] at hy
      clear z2 g2 hJ3 hA
      gi_wp2
      have hmap : toS L (lvS pre) ++ toS L ((pre' ++ [(⟨i, hi⟩ : { i : Nat // i ∈ x.s })]).map (·.1)) = toS L (lvS pre) ++ toS L (pre'.map (·.1)) ++ [(⟨i, hiL⟩ : SlotL L)] := by
        rw [List.map_append, toS_app, ← List.append_assoc]; simp only [List.map_cons, List.map_nil]; rw [toS_one L i hiL]
      have hTW2 : ∀ k ∈ T, k < Wx.heap.size := hWx
      refine ⟨fun h => (by cases h), (RoundIn.rounds _ hR).mono ?_⟩
      clear hR hy
      rintro e W6 (⟨rfl, hJ6, hC6⟩ | ⟨rfl, hJx6, hC6⟩)
      · rw [← hmap] at hJ6
        have hC7 := hC5.nil.trans hC6
        gi_wp2
        exact ⟨KeepsFrom.of_chgT hC7 hWx, kT hC7 kn, hJ6, hk2.trans hC7⟩
      · rw [← hmap] at hJx6
        have hC7 := hC5.nil.trans hC6
        gi_wp2
        exact ⟨KeepsFrom.of_chgT hC7 hWx, rfl, hJx6, hk2.trans hC7⟩
    case doneI =>
      rintro xs W2 rfl ⟨hk1, hk2⟩
      gi_wp2
      have hCb : Chg T W1 W2 := hC2.nil.trans hk2
      refine ⟨KeepsFrom.of_chgT hCb (fun k hk => by have := hTW k hk; omega), keepT hCb, ?_, hi2.trans hCb⟩
      have : lvS [(⟨x, hx⟩ : { x : Lvl // x ∈ lv })] = x.s := by simp [lvS]
      rw [lvS_app, toS_app, this]
      rw [List.attach_map_subtype_val] at hk1
      exact hk1
    case stopI =>
      rintro c' pre' W2 hp ⟨rfl, hx1, hk2⟩
      gi_wp2
      have hCb : Chg T W1 W2 := hC2.nil.trans hk2
      have hp2 := hp.map (f := Subtype.val)
      rw [List.attach_map_subtype_val] at hp2
      exact ⟨KeepsFrom.of_chgT hCb (fun k hk => by have := hTW k hk; omega), rfl, pre, x, ⟨hx, rfl⟩, _, hp2, hx1⟩
  case done =>
    rintro D xs W1 hD rfl ⟨hi1, hi2⟩ hK
    go_wp2
    refine ⟨by simp, .inl ⟨_, _, rfl, run_takeDeferred hK, ?_⟩⟩
    have hj5 := hJ0 _ _ _ (some D) hi1 (grownBy_putObj' _ D (.deferred none)) (fun r e => by cases e; exact ⟨hD, _, hK, rfl⟩)
    rw [lvS_all] at hj5
    exact ⟨_, results_none rfl _ _ _, ⟨_, rfl⟩, .inl ⟨_, rfl, hj5⟩⟩
  case stop =>
    rintro D c' pre W1 hD hp ⟨rfl, pre', x, q, rfl, hq, hx⟩ hK
    gi_wp2
    refine ⟨by simp, .inl ⟨_, _, rfl, run_takeDeferred hK, ?_⟩⟩
    have hj5 := hJx0 _ _ _ (some D) hx (grownBy_putObj' _ D (.deferred none)) (fun r e => by cases e; exact ⟨hD, _, hK, rfl⟩)
    refine ⟨_, results_none rfl _ _ _, ⟨_, rfl⟩, .inr ⟨_, ?_, hj5⟩⟩
    rw [← toS_app]
    refine toS_pre L ?_
    have h1 := lvS_pre hp
    rw [lvS_all, lvS_app] at h1
    have h2 : lvS pre' ++ q <+: lvS pre' ++ lvS [x] := by
      have : lvS [x] = x.1.s := by simp [lvS]
      rw [this]
      obtain ⟨t, ht⟩ := hq
      exact ⟨t, by rw [← ht, List.append_assoc]⟩
    exact h2.trans h1
end Go.Proofs.Ytdcjfaplgpeonaa
