/-
  The program's book: Fits, Room, Add.
-/
import Derived.Test.YtdcjfaplgpeonaaPp
namespace Go.Proofs.Ytdcjfaplgpeonaa
open Go.RowKit Go.Dm

/-- The cells of the book that a side's work reads. -/
structure BC (w : World) (b off ar x : Nat) (S : Sdb) : Prop where
  kind : KindIs w b 151
  c0 : w.cell? ⟨b, 0, none⟩ = some (.pointer (some ⟨ar, 0, none⟩))
  c5 : w.cell? ⟨b, 5, none⟩ = some (.pointer (some ⟨x, 0, none⟩))
  cl : w.cell? ⟨b, off, none⟩ = some (.pointer (some ⟨S.l, 0, none⟩))
  cq : w.cell? ⟨b, off + 1, none⟩ = some (.pointer (some ⟨S.q, 0, none⟩))
theorem BC.chg {w w' : World} {b off ar x : Nat} {S : Sdb} {T : List Nat} (h : BC w b off ar x S) (hC : Chg T w w') (hb : b ∉ T) : BC w' b off ar x S :=
  ⟨by obtain ⟨cs, hk⟩ := h.kind; exact ⟨cs, hC.at_ hk hb⟩, hC.cell h.c0 hb, hC.cell h.c5 hb, hC.cell h.cl hb, hC.cell h.cq hb⟩
def OfIs (b off : Nat) (sd : Int) : Prop := ∀ w : World, Calls Try.prog 79 #[.pointer (some ⟨b, 0, none⟩), .int .i64 sd] w fun e w' => e = .returned (.pointer (some ⟨b, off, none⟩)) ∧ w = w'

set_option maxRecDepth 100000 in
set_option maxHeartbeats 2000000 in
theorem fits97 (w : World) (b off ar x : Nat) (S : Sdb) (sd : Int) (hB : BC w b off ar x S) (hof : OfIs b off sd) (D : Nat) (L : List Ord) (lv : List Lvl) (v : Value) (hS : SdAt w D sd S L lv v) (hlen : L.length < 60) (p : Int) (hp : PrOk p) :
    Calls Try.prog 97 #[.pointer (some ⟨b, 0, none⟩), .int .i64 sd, .int .i64 p] w fun e w' => e = .returned (.bool true) ∧ Chg [] w w' := by
  have hll := lv_len hS.ok
  have hf := fits119 w S.l sd _ lv ⟨v, hS.ld, hS.sl⟩ hS.ok.pr hS.ok.sorted (by omega) p hp
  have cl := hB.cl
  go_enter Try.func97, Try.ntmps97
  go_wp2_with fail
  refine (hof w).mono ?_
  rintro e w' ⟨rfl, rfl⟩
  go_wp2_with fail
  refine hf.mono ?_
  rintro e w' ⟨rfl, hC⟩
  clear hf
  go_wp2
  go_ret
  exact ⟨rfl, hC⟩

set_option maxRecDepth 100000 in
set_option maxHeartbeats 2000000 in
theorem room81 (w : World) (b off ar x : Nat) (S : Sdb) (sd : Int) (hB : BC w b off ar x S) (hof : OfIs b off sd) (D : Nat) (L : List Ord) (lv : List Lvl) (v : Value) (hS : SdAt w D sd S L lv v) (hlen : L.length < 60) (p : Int) (hp : PrOk p)
    (c : Nat → Int) (hA : ArAt w ar c) (hH : Hold 60 L.length L c) :
    Calls Try.prog 81 #[.pointer (some ⟨b, 0, none⟩), .int .i64 sd, .int .i64 p] w fun e w' => e = .returned (.bool true) ∧ Chg [] w w' := by
  have hf := fits97 w b off ar x S sd hB hof D L lv v hS hlen p hp
  have e1 : c 4000 - c 4002 = 60 - (L.length : Int) := by rw [hH.size, hH.used]; rfl
  have d1 : decide ((L.length : Int) < 60) = true := by simp; omega
  have hr := fun W (hC : Chg [] w W) => room09 W ar c (hA.chg hC (by simp)) (by rw [e1]; exact IntWalk.i64_in _ (by omega))
  rw [e1] at hr
  have c0 := hB.c0
  have HR := Lib.hid hr
  clear hr e1
  go_enter Try.func81, Try.ntmps81
  go_wp2_with fail
  refine hf.mono ?_
  rintro e W ⟨rfl, hC⟩
  have c0 := hC.cell c0 (by simp)
  have hr := HR.out W hC
  clear hf
  go_wp2_with fail
  refine hr.mono ?_
  rintro e W2 ⟨rfl, hC2⟩
  clear hr
  go_wp2
  go_ret
  exact ⟨rfl, hC.trans hC2⟩

/-- Push finds the side's queues as they must be. -/
def PushOk (S : Sdb) (lv lv' : List Lvl) (m : Nat) (q : Nat) : Prop := ∀ (w : World) (nf ef : Nat → Int), FfAt w S.q S.n S.e nf ef → Qs nf ef lv m →
  Calls Try.prog 83 #[.pointer (some ⟨S.q, 0, none⟩), .int .i64 q, .int .i64 m] w fun e w' => e = .returned (.bool true) ∧ (∃ nf' ef', FfAt w' S.q S.n S.e nf' ef' ∧ Qs nf' ef' lv' (m + 1)) ∧ Chg [S.n, S.e] w w'
def PutAny (w : World) (sd : Int) (S : Sdb) (L : List Ord) (lv : List Lvl) (v : Value) (o : Ord) (e : Ending) (w' : World) : Prop :=
  ∃ lv' v' q, e = .returned (.tuple #[.int .i64 (q : Nat), .int .i64 0]) ∧ LdBlk w' S.l sd v' (ones lv'.length) ∧ SlAt 167 4 lvE w' v' lv' ∧ LvOk sd lv' (L ++ [o]) ∧ PushOk S lv lv' L.length q ∧
    Chg (S.l :: ownL v) w w' ∧ (v'.ownBlock = v.ownBlock ∨ ∃ g, v'.ownBlock = some g ∧ w.heap.size ≤ g)

theorem put_any (w : World) (D : Nat) (sd : Int) (S : Sdb) (L : List Ord) (lv : List Lvl) (v : Value) (hS : SdAt w D sd S L lv v) (hlen : L.length < 60) (o : Ord) (ho : o 2 = sd) (hok : okO o = true) :
    Calls Try.prog 82 #[.pointer (some ⟨S.l, 0, none⟩), .int .i64 (o 3), .int .i64 (o 4)] w (PutAny w sd S L lv v o) := by
  have hll := lv_len hS.ok
  have hok2 := hok
  simp only [okO, Bool.and_eq_true, decide_eq_true_eq] at hok2
  obtain ⟨_, ⟨⟨hp1, hp2⟩, hq1⟩, hq2⟩ := hok2
  by_cases hex : ∃ (j : Nat) (x : Lvl), lv[j]? = some x ∧ x.p = o 3
  · obtain ⟨j, x, hx, hxp⟩ := hex
    have hq := hS.ok.qty x (List.mem_of_getElem? hx)
    have h := lput_old w S.l sd lv v hS.ld hS.sl hS.ok.pr hS.ok.sorted (by omega) (o 4) hq1 (by omega) j x hx hq.1 (by omega) (x.s ++ [L.length])
    rw [hxp] at h
    refine h.mono ?_
    rintro e w' ⟨v', rfl, h1, h2, h3, h4⟩
    refine ⟨_, v', x.u, rfl, by rw [List.length_set]; exact h1, h2, ok_old hS.ok ho hok hx hxp, ?_, h3, h4⟩
    intro w1 nf ef hf hqs
    obtain ⟨m, hm, he, hqs'⟩ := qs_old (q := o 4) hx hqs hS.ok
    have hu := hS.ok.qlt x (List.mem_of_getElem? hx)
    refine (push1 w1 S.q S.n S.e nf ef hf x.u L.length m (by omega) (by omega) (by omega) (by omega) (hqs.loose _ (Nat.le_refl _) (by omega)) he).mono ?_
    rintro e w2 ⟨rfl, g1, g2⟩
    exact ⟨rfl, ⟨_, _, g1, hqs'⟩, g2⟩
  · have hno : ∀ x ∈ lv, x.p ≠ o 3 := fun x hx e => by
      obtain ⟨j, hj⟩ := List.mem_iff_getElem?.1 hx
      exact hex ⟨j, x, hj, e⟩
    refine (lput_new w S.l sd lv v hS.ld hS.sl hS.ok.pr hS.ok.sorted (by omega) (o 3) (o 4) ⟨hp1, hp2⟩ hq1 hno [L.length]).mono ?_
    rintro e w' ⟨i, hi, v', rfl, h1, h2, h3, h4⟩
    refine ⟨_, v', lv.length, rfl, by rw [insL_length _ _ _ hi.1]; exact h1, h2, ok_new hS.ok ho hok hi hno, ?_, h3, h4⟩
    intro w1 nf ef hf hqs
    refine (push0 w1 S.q S.n S.e nf ef hf lv.length L.length (by omega) (by omega) (hqs.loose _ (Nat.le_refl _) (by omega)) (hqs.fresh _ (Nat.le_refl _) (by omega))).mono ?_
    rintro e w2 ⟨rfl, g1, g2⟩
    exact ⟨rfl, ⟨_, _, g1, qs_new hi.1 hqs hS.ok⟩, g2⟩
end Go.Proofs.Ytdcjfaplgpeonaa
