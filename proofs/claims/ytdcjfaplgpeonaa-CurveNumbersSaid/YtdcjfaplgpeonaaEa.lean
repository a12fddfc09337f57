/-
  The program's index: a symbol's IDs, as the map hands them (ahead of the sort).
-/
import Derived.Test.YtdcjfaplgpeonaaLd
namespace Go.Proofs.Ytdcjfaplgpeonaa
open Go.RowKit Go.Dm

def idE (d : Int) : List Value := [.int .i64 d]
theorem idR : REnc 1 idE := ⟨fun _ => rfl, fun a u hu => by simp [idE] at hu; subst hu; rfl⟩
theorem elem91 : ElemIs Try.prog 91 2 1 8 := ⟨Try.underlying91, by
  obtain ⟨i, hi, hz, h1, h2⟩ := info_parts (show (Try.prog.info? 2).map (fun i => (i.zero, i.size, i.bytes)) = some (some (.int .i64 0), 1, 8) by kernel_rfl)
  exact ⟨i, _, hi, hz, h1, h2, rfl⟩, by decide⟩
def idsOf (l : IL) (s : Int) : List Int := (l.filter fun p => decide (p.1.1 = s)).map (·.1.2)
theorem idsOf_len (l : IL) (s : Int) : (idsOf l s).length ≤ l.length := by
  unfold idsOf; rw [List.length_map]; exact List.length_filter_le _ _
theorem idsOf_mid (pre post : IL) (p : (Int × Int) × Int) (s : Int) : (idsOf (pre ++ p :: post) s).Perm ((if p.1.1 = s then [p.1.2] else []) ++ idsOf (pre ++ post) s) := by
  unfold idsOf
  simp only [List.filter_append, List.filter_cons, List.map_append]
  by_cases h : p.1.1 = s
  · simp only [h, decide_true, if_true, List.map_cons, List.singleton_append]
    exact List.perm_middle
  · simp [h]

def srt (l : List Int) : List Int := l.mergeSort (fun x y => decide (x ≤ y))
theorem chg_below {w a b : World} (h : Chg [] w a) (k : Below w.heap.size a b) : Chg [] w b :=
  ⟨k.os.trans h.os, k.tape.trans h.tape, k.output.trans h.output, Nat.le_trans h.size k.size, fun i hi hn => (k.block i hi).trans (h.block i hi hn)⟩

def IdsRel (w : World) (it m1 : Nat) (l : IL) (s : Int) (q : Nat) (v : Value) (wr : World) : Prop :=
  ∃ todo out, IterAt kenc ienc wr it m1 l todo ∧ SlAt 2 1 idE wr v out ∧ Fresh w.heap.size v ∧ (out ++ idsOf todo s).Perm (idsOf l s) ∧ Chg [] w wr ∧ q = todo.length + 1

/-- What the loop leaves, and behind it the sort: given as a hypothesis. -/
def SortsAt : Prop := ∀ (w : World) (v : Value) (out : List Int), SlAt 2 1 idE w v out → out.length ≤ 1000 →
  Calls Try.prog 76 #[v] w fun e w' => e = .returned (.tuple #[]) ∧ SlAt 2 1 idE w' v (srt out) ∧ ∀ B, B ≤ w.heap.size → Fresh B v → Below B w w'

set_option maxRecDepth 100000 in
set_option maxHeartbeats 4000000 in
theorem _root_.Go.Dm.IterAt.lt {w : World} {it m : Nat} {l todo : IL} (h : IterAt kenc ienc w it m l todo) : it < w.heap.size := by
  obtain ⟨_, _, _, _, _, _, hh, _⟩ := h; exact blk_lt hh

set_option maxRecDepth 100000 in
set_option maxHeartbeats 4000000 in
theorem ids_any (hsort : SortsAt) (w : World) (x m1 m2 : Nat) (l : IL) (h : XAt w x m1 m2 l) (s : Int) (hlen : l.length ≤ 1000) :
    Calls Try.prog 62 #[.pointer (some ⟨x, 0, none⟩), .int .i64 s] w fun e w' => ∃ (v : Value) (out : List Int), e = .returned v ∧ SlAt 2 1 idE w' v (srt out) ∧ out.Perm (idsOf l s) ∧ Chg [] w w' ∧ Fresh w.heap.size v := by
  have c0 := h.c0
  have hx := h.lt
  obtain ⟨ob, hrg, hI⟩ := IterAt.start h.ents Try.underlying103
  have hCa : Chg [] w (w.alloc ob) := Chg.alloc _ _ _
  go_enter Try.func62, Try.ntmps62
  go_wp2
  clear hrg
  go_loopg [4] (l.length + 1) (fun q v wr => IdsRel w w.heap.size m1 l s q v wr)
  case atStart => exact ⟨l, [], hI, SlAt.nil _ _ _ _, Fresh.none, by simp, hCa, rfl⟩
  case round =>
    clear hI hCa c0 hx
    obtain ⟨todo, out, hI', hS, hF, hP, hC, hq⟩ := hrel
    have Hq := Lib.hid hq
    have HP := Lib.hid hP
    clear hq hP
    rcases hI'.next (P := Try.prog) 0 with ⟨rfl, hnx⟩ | ⟨pre, k, v, post, W, he, hnx, hI2, hCn, hsz, hen⟩
    · have hp2 := HP.out
      simp only [idsOf, List.filter_nil, List.map_nil, List.append_nil] at hp2
      have hl2 : out.length ≤ 1000 := by
        have := hp2.length_eq
        have := idsOf_len l s
        unfold idsOf at this
        omega
      have hso := hsort wr u4 out hS hl2
      go_wp2_with fail
      refine hso.mono ?_
      rintro e W2 ⟨rfl, hS2, hB⟩
      have hB2 := hB w.heap.size hC.size hF
      clear hso hB hS hnx
      go_wp2
      go_ret
      exact ⟨u4, out, rfl, hS2, hp2, chg_below hC hB2, hF⟩
    · obtain ⟨k1, k2⟩ := k
      simp only [kenc, ienc] at hnx hen
      have hC3 : Chg [] w W := hC.trans' hCn (by simp) (by simp)
      have hit : ∀ g, u4.ownBlock = some g → g ∉ [w.heap.size] := fun g hg hm => by
        obtain ⟨cur, hcur⟩ := hS.typed hg
        obtain ⟨_, _, _, _, _, _, hh, _⟩ := hI'
        simp at hm; subst hm; rw [hcur] at hh; cases hh
      have hS2 := hS.chg hCn hit
      have hA : Chg [] W (W.alloc (.cells #[.int .i64 k1, .int .i64 k2] 37)) := Chg.alloc _ _ _
      have hC4 := hC3.trans hA
      have hI3 := hI2.chg hA (by simp) (by simp)
      have hS3 := hS2.chg hA (by simp)
      have bk : (W.alloc (.cells #[.int .i64 k1, .int .i64 k2] 37)).heap[wr.heap.size]? = some (.cells #[.int .i64 k1, .int .i64 k2] 37 (0, 0)) := by
        have := heap_alloc_new W (.cells #[.int .i64 k1, .int .i64 k2] 37)
        rw [hsz] at this; exact this
      have B := Lib.hid he
      clear he hI' hC hCn hS hit hI2 hS2 hC3
      have hlt : 0 < (W.alloc (.cells #[.int .i64 k1, .int .i64 k2] 37)).heap.size := by simp
      by_cases hks : k1 = s
      · subst hks
        have hlen1 : out.length + [k2].length ≤ 1000000 := by
          have := HP.out.length_eq
          have := idsOf_len l k1
          simp at *
          omega
        have hC5 := hC4.trans (Chg.alloc [] _ (.cells #[.int .i64 k2] 2))
        have hS4 := hS3.chg (Chg.alloc [] _ (.cells #[.int .i64 k2] 2)) (by simp)
        have hI4 := hI3.chg (Chg.alloc [] _ (.cells #[.int .i64 k2] 2)) (by simp) (by simp)
        have hsrc : SrcAt idE ((W.alloc (.cells #[.int .i64 k1, .int .i64 k2] 37)).alloc (.cells #[.int .i64 k2] 2)) (.slice (some ⟨wr.heap.size + 1, 0, none⟩) 1 1) [k2] := SrcAt.one (renc := idE) (a := k2) (t := 2) (fr := (0, 0)) (by
          have := heap_alloc_new (W.alloc (.cells #[.int .i64 k1, .int .i64 k2] 37)) (.cells #[.int .i64 k2] 2)
          rw [World.size_alloc, hsz] at this
          exact this) 1
        have nit : ∀ g, u4.ownBlock = some g → g ∉ [w.heap.size] := fun g hg hm => by
          obtain ⟨cur, hcur⟩ := hS4.typed hg
          obtain ⟨_, _, _, _, _, _, hh, _⟩ := hI4
          simp at hm; subst hm; rw [hcur] at hh; cases hh
        have nmm : ∀ g, u4.ownBlock = some g → g ≠ m1 := fun g hg e => by
          obtain ⟨cur, hcur⟩ := hS4.typed hg
          obtain ⟨_, _, hh, _⟩ := hI4.map
          subst e; rw [hcur] at hh; cases hh
        have lit := hI4.lt
        have lm := hI4.map.lt
        go_wp2_with (at_builtin; go_must (refine wpL_append' rfl _ _ 91 rfl idR elem91 hC5 hS4 hF hsrc rfl rfl hlen1 (by omega) ?_))
        intro v1 W1 hs1 hC1 hF1 hg1
        have hI5 : IterAt kenc ienc W1 w.heap.size m1 l (pre ++ post) := by
          cases ho : u4.ownBlock with
          | none => exact hI4.chg (S := []) (Chg.of_grown hg1 (by rw [ho]; simp)) (by simp) (by simp)
          | some g =>
            refine hI4.chg (S := [g]) (Chg.of_grown hg1 (fun k e => by rw [ho] at e; cases e; simp)) ?_ ?_
            · have := nit g ho; simp at this; simpa using fun e => this e.symm
            · have := nmm g ho; simpa using fun e => this e.symm
        have hE := idsOf_mid pre post ((k1, k2), v) k1
        simp only [if_true] at hE
        have HE := Lib.hid hE
        clear hE hI4 hS4 hsrc hC5 nit nmm hg1 hC4 hI3 hS3
        go_wp2
        go_roundg ((pre ++ post).length + 1)
        case measure => rw [Hq.out, B.out]; simp
        case rel =>
          refine ⟨_, out ++ [k2], hI5, hs1, hF1, ?_, hC1, rfl⟩
          have h1 := HP.out
          rw [B.out] at h1
          rw [List.append_assoc]
          exact ((HE.out.symm).append_left out).trans h1
      · have hcond : (k1 == s) = false := by rw [beq_eq_false_iff_ne]; exact hks
        have hE := idsOf_mid pre post ((k1, k2), v) s
        simp only [hks, if_false, List.nil_append] at hE
        have HE := Lib.hid hE
        clear hE hks
        go_wp2
        go_roundg ((pre ++ post).length + 1)
        case measure => rw [Hq.out, B.out]; simp
        case rel => exact ⟨_, out, hI3, hS3, hF, (((HE.out.symm).append_left out).trans (by have := HP.out; rw [B.out] at this; exact this)), hC4, rfl⟩
end Go.Proofs.Ytdcjfaplgpeonaa
