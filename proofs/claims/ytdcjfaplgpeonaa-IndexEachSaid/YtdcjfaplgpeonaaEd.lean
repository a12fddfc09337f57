/-
  The index's iterator over a symbol's IDs.
-/
import Derived.Test.YtdcjfaplgpeonaaEc
import Derived.Test.YtdcjfaplgpeonaaCr
import Derived.RangeFuncNested
import Derived.RangeFuncBound
import Derived.RangeFuncCalls
import Derived.RangeFuncLeaves
import Derived.Shelf.Abstract
import Derived.Shelf.RegionOpen
import Derived.WalkKit
import Derived.OwnWalkIn
import Derived.TacticsInMore
import Derived.LoopNIn
import Derived.LoopIn
import Derived.Sort.LoopGhostIn
import Derived.Sort.QuietIn
namespace Go.Proofs.Ytdcjfaplgpeonaa
open Go.RowKit Go.Dm Go.Shelf
attribute [local go_sem] Oper.semAt_some

/-- What a round must keep: cells and maps, but for the blocks of S. -/
def KeepC (S : List Nat) (W W' : World) : Prop := ∀ (k : Nat) (o : Obj), W.heap[k]? = some o → (o.isCells = true ∨ o.isWalk = true) → k ∉ S → W'.heap[k]? = some o
theorem KeepC.t {S : List Nat} {A B C : World} (h : KeepC S A B) (k : KeepC S B C) : KeepC S A C := fun i o ho hc hn => k i o (h i o ho hc hn) hc hn
theorem KeepC.put {S : List Nat} {w : World} (W : World) (l : Nat) (o o' : Obj) (_hl : w.heap.size ≤ l) (h : W.heap[l]? = some o) (h2 : o.isCells = false) (h3 : o.isWalk = false) : KeepC S W (W.putObj l o') := fun k x hx hc _ => by
  have : k ≠ l := by rintro rfl; rw [h] at hx; cases hx; rw [h2, h3] at hc; simp at hc
  rw [World.putObj_heap_other this]; exact hx
theorem KeepC.chg {S : List Nat} {W W' : World} (hC : Chg S W W') : KeepC S W W' := fun _ _ ho _ hn => hC.at_ ho hn
theorem MapAt.keep {κ ν : Type} {enc : κ → Value} {venc : ν → Value} {S : List Nat} {W W' : World} {m : Nat} {l : List (κ × ν)} (h : MapAt enc venc W m l) (hK : KeepC S W W') (hm : m ∉ S) : MapAt enc venc W' m l := by
  obtain ⟨es, c, h1, r⟩ := h; exact ⟨es, c, hK _ _ h1 (.inr rfl) hm, r⟩
theorem XAt.keep {S : List Nat} {W W' : World} {x m1 m2 : Nat} {l : IL} (h : XAt W x m1 m2 l) (hK : KeepC S W W') (h0 : x ∉ S) (h1 : m1 ∉ S) (h2 : m2 ∉ S) : XAt W' x m1 m2 l :=
  ⟨hK _ _ h.blk (.inl rfl) h0, MapAt.keep h.ents hK h1, by obtain ⟨m, hm, e⟩ := h.many; exact ⟨m, MapAt.keep hm hK h2, e⟩, h.ne⟩
theorem _root_.Go.Dm.SlAt.keep {α : Type} {e sz : Nat} {renc : α → List Value} {S : List Nat} {W W' : World} {v : Value} {l : List α} (h : SlAt e sz renc W v l) (hK : KeepC S W W') (hn : ∀ g, v.ownBlock = some g → g ∉ S) : SlAt e sz renc W' v l := by
  refine ⟨h.1, ?_⟩
  rcases h.2 with hz | ⟨g, cap, cur, rfl, hb0, hg, r⟩
  · exact .inl hz
  · exact .inr ⟨g, cap, cur, rfl, hb0, hK _ _ hg (.inl rfl) (hn g rfl), r⟩
theorem grown_of_chgI {W W' : World} (hC : Chg [] W W') : W.grownBy W' none := ⟨hC.os, hC.tape, hC.output, hC.size, fun k hk _ => hC.block k hk (by simp)⟩

def encIP (p : IP) : Array Value := #[.int .i64 p.1.2, .int .i64 p.2]
structure ItX (W : World) (x m1 m2 : Nat) (l : IL) (b1 b2 : Nat) (s : Int) : Prop where
  ix : XAt W x m1 m2 l
  c1 : W.heap[b1]? = some (.cells #[.pointer (some ⟨x, 0, none⟩)] 24 (0, 0))
  c2 : W.heap[b2]? = some (.cells #[.int .i64 s] 3 (0, 0))
theorem ItX.keep {S : List Nat} {W W' : World} {x m1 m2 : Nat} {l : IL} {b1 b2 : Nat} {s : Int} (h : ItX W x m1 m2 l b1 b2 s) (hK : KeepC S W W') (h0 : x ∉ S) (h1 : m1 ∉ S) (h2 : m2 ∉ S) (h3 : b1 ∉ S) (h4 : b2 ∉ S) : ItX W' x m1 m2 l b1 b2 s :=
  ⟨h.ix.keep hK h0 h1 h2, hK _ _ h.c1 (.inl rfl) h3, hK _ _ h.c2 (.inl rfl) h4⟩
theorem ItX.chg {W W' : World} {x m1 m2 : Nat} {l : IL} {b1 b2 : Nat} {s : Int} (h : ItX W x m1 m2 l b1 b2 s) (hC : Chg [] W W') : ItX W' x m1 m2 l b1 b2 s :=
  h.keep (KeepC.chg hC) (by simp) (by simp) (by simp) (by simp) (by simp)

def IdRel (l : IL) (s : Int) (x m1 m2 b1 b2 : Nat) (v : Value) (J : List IP → World → Prop) (q : Nat) (i : Value) (wr : World) : Prop :=
  ∃ k : Nat, k ≤ (ofL l s).length ∧ q = (ofL l s).length - k + 1 ∧ i = .int .i64 k ∧ J ((ofL l s).take k) wr ∧ ItX wr x m1 m2 l b1 b2 s ∧ SlAt 2 1 idE wr v ((ofL l s).map (·.1.2))

set_option maxRecDepth 100000 in
set_option maxHeartbeats 2000000 in
theorem iter12 (m : Nat) (hm : 1 ≤ m) (x m1 m2 b1 b2 : Nat) (l : IL) (s : Int) (S : List Nat) (hlen : l.length ≤ 1000) (w : World) (hX : ItX w x m1 m2 l b1 b2 s)
    (h0 : x ∉ S) (h1 : m1 ∉ S) (h2 : m2 ∉ S) (h3 : b1 ∉ S) (h4 : b2 ∉ S) (hS : ∀ k ∈ S, k < w.heap.size) :
    SeqStopsK Fence.wide m Try.prog 61 #[.pointer (some ⟨b1, 0, none⟩), .pointer (some ⟨b2, 0, none⟩)] encIP (KeepC S) (fun xs => xs = ofL l s) (fun pre => pre <+: ofL l s) (ofL l s).length w := fun yl J Jx W hW hJ hJx hY hj0 => by
  refine callsIn_of_wp Try.func61 rfl trivial ?_ rfl
  simp only [Try.ntmps61, List.size_toArray, List.length_cons, List.length_nil, Nat.reduceAdd, Nat.reduceSub, Array.replicate_succ, Array.replicate_zero, List.push_toArray, List.append_toArray, List.nil_append, List.cons_append]
  have hXW : ItX W x m1 m2 l b1 b2 s := by
    have hC : Chg [] w W := Chg.of_below hW []
    exact hX.chg hC
  have c1 := blk1 hXW.c1
  have c2 := blk1 hXW.c2
  have hids := ids_rise W x m1 m2 l hXW.ix s hlen
  have hsz := hW.size
  gi_wp2_with fail
  refine ⟨trivial, ?_⟩
  refine (callsIn_wide.2 hids).mono ?_
  rintro e W2 ⟨v, out, rfl, hs, hP, hC2, hF⟩
  rw [srt_of hP] at hs
  have hX2 := hXW.chg hC2
  have hJ2 : J [] W2 := hJ _ _ _ none hj0 (grown_of_chgI hC2) (fun r e => by cases e)
  have hvS : ∀ g, v.ownBlock = some g → g ∉ S := fun g hg hmem => by
    have := hF g hg
    have := hS g hmem
    omega
  have hnod := hXW.ix.ents.nodup
  have hOl : (ofL l s).length ≤ 1000 := by rw [ofL_length]; have := icnt_le l s; omega
  clear hids c1 c2 hj0 hP hF
  obtain ⟨A, cap, rfl, _, hA0⟩ := hs.form
  rw [List.length_map] at *
  gi_wp2
  gi_loopg [10] ((ofL l s).length + 1) (fun q i wr => IdRel l s x m1 m2 b1 b2 (.slice A (ofL l s).length cap) J q i wr)
  case atStart => exact ⟨0, Nat.zero_le _, rfl, rfl, hJ2, hX2, hs⟩
  case round =>
    clear hX2 hJ2 hs
    obtain ⟨k, hk, hq, rfl, hJ3, hX3, hs3⟩ := hrel
    have Hq := Lib.hid hq
    clear hq
    by_cases hlt : k < (ofL l s).length
    · obtain ⟨g, rfl⟩ := hA0 (by omega)
      obtain ⟨p, hp⟩ : ∃ p, (ofL l s)[k]? = some p := ⟨(ofL l s)[k], by simp [hlt]⟩
      obtain ⟨hp1, hlook⟩ := of_look hnod hp
      have hid := hs3.at_ idR (i := k) (j := 0) (a := p.1.2) (by simp [hp]) (by omega)
      simp only [Nat.mul_one, Nat.add_zero, idE, List.getElem?_cons_zero] at hid
      have k0 : (0 : Int) ≤ (k : Int) := Int.natCast_nonneg _
      have k1 : (k : Int) < ((ofL l s).length : Int) := by omega
      have hg := hs3.lt (g := g) rfl
      gi_wp2
      have hCd : Chg [] wr wr.drew := Chg.drew _ _
      refine tail_wide 10 (by kernel_rfl) (by kernel_rfl) ?_
      obtain ⟨Wd, hd⟩ : ∃ Wd, wr.drew = Wd := ⟨_, rfl⟩
      rw [hd] at hCd ⊢
      clear hd hid hg
      have hX4 := hX3.chg hCd
      have hs4 := hs3.chg hCd (by simp)
      have hJ4 := hJ _ _ _ none hJ3 (grown_of_chgI hCd) (fun r e => by cases e)
      have d1 := blk1 hX4.c1
      have d2 := blk1 hX4.c2
      have d3 := hX4.ix.c0
      have hl := hX4.ix.ents.lookup MK Try.underlying103 z3 (s, p.1.2) false
      simp only [kenc, found_i, hlook, Option.getD_some, Bool.false_eq_true, if_false] at hl
      obtain ⟨fn, tmps, assign, body, hy, hR⟩ := hY ((ofL l s).take k) p Wd hJ4 (by rw [List.length_take]; omega)
      simp only [encIP] at hy
      clear hX3 hs3 hJ3 hCd
      simp only [List.take_succ_cons, List.take_zero, List.drop_succ_cons, List.drop_zero]
      repeat still_step
      refine wpStill_nil ?_
      gi_wp2
      have hT : (ofL l s).take k ++ [p] = (ofL l s).take (k + 1) := by
        rw [List.take_add_one, hp]; rfl
      refine hR.mono ?_
      rintro e W3 (⟨rfl, hJ5, hk5⟩ | ⟨rfl, hJx5⟩)
      · have hX5 := hX4.keep hk5 h0 h1 h2 h3 h4
        have hs5 := hs4.keep hk5 hvS
        rw [hT] at hJ5
        clear hX4 hs4 hJ4 d1 d2 d3 hl hy hR hk5
        gi_wp2
        gi_roundg ((ofL l s).length - (k + 1) + 1)
        case measure => rw [Hq.out]; omega
        case rel => exact ⟨k + 1, by omega, rfl, by go_num, hJ5, hX5, hs5⟩
      · rw [hT] at hJx5
        clear hX4 hs4 hJ4 d1 d2 d3 hl hy hR
        gi_wp2
        refine bodyPost_ret (results_none rfl _ _ _) rfl ?_
        exact ⟨⟨_, rfl⟩, .inr ⟨_, List.take_prefix _ _, hJx5⟩⟩
    · have hkl : k = (ofL l s).length := by omega
      rw [hkl, List.take_length] at hJ3
      clear Hq hX3 hs3
      gi_wp2
      go_end0
      exact ⟨⟨_, rfl⟩, .inl ⟨_, rfl, hJ3⟩⟩
end Go.Proofs.Ytdcjfaplgpeonaa
