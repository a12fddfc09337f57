/-
  The program's book: Add, an order that is taken.
-/
import Derived.Test.YtdcjfaplgpeonaaQ8
namespace Go.Proofs.Ytdcjfaplgpeonaa
open Go.RowKit Go.Dm

/-- What Add leaves of the parts. -/
structure Added (w w' : World) (D ar x m1 m2 : Nat) (sd : Int) (S : Sdb) (L : List Ord) (v : Value) : Prop where
  har : ∃ c, ArAt w' ar c ∧ Hold 60 L.length L c
  hix : ∃ il, XAt w' x m1 m2 il ∧ (∀ id, (mLook il (0, id)).isSome = hasId L id) ∧ il.length ≤ L.length
  hsd : ∃ lv' v', SdAt w' D sd S L lv' v' ∧ (v'.ownBlock = v.ownBlock ∨ ∃ g, v'.ownBlock = some g ∧ w.heap.size ≤ g)
  hch : Chg (ar :: m1 :: m2 :: S.l :: S.n :: S.e :: ownL v) w w'

theorem hold_app {n : Nat} {L : List Ord} {c : Nat → Int} {o : Ord} (h : Hold n L.length L c) (hi : L.length < n) (h1 : n ≤ 500) : Hold n (L ++ [o]).length (L ++ [o]) (tookC c L.length o) := by
  have h2 : Hold n L.length (L ++ [o]) c := ⟨h.size, h.used, h.free, h.low, fun j p hj hp q hq => h.ord j p hj (by rw [List.getElem?_append_left hj] at hp; exact hp) q hq, h.high⟩
  have := hold_step h2 hi h1 (o := o) (by simp)
  simpa using this

theorem KindIs.ne' {w : World} {a b t : Nat} (h : KindIs w a t) (k : MapIs w b) : a ≠ b := MapIs.ne h k
/-- The blocks are apart. -/
structure Ap (b g ar l q n e x m1 m2 : Nat) (own : List Nat) : Prop where
  b_ar : b ∉ [ar]
  g_ar : g ∉ [ar]
  l_ar : l ∉ [ar]
  q_ar : q ∉ [ar]
  n_ar : n ∉ [ar]
  e_ar : e ∉ [ar]
  x_ar : x ∉ [ar]
  m1_ar : m1 ∉ [ar]
  m2_ar : m2 ∉ [ar]
  o_ar : ∀ k ∈ own, k ∉ [ar]
  b_l : b ∉ l :: own
  g_l : g ∉ l :: own
  ar_l : ar ∉ l :: own
  q_l : q ∉ l :: own
  n_l : n ∉ l :: own
  e_l : e ∉ l :: own
  x_l : x ∉ l :: own
  m1_l : m1 ∉ l :: own
  m2_l : m2 ∉ l :: own
  b_n : b ∉ [n, e]
  g_n : g ∉ [n, e]
  ar_n : ar ∉ [n, e]
  l_n : l ∉ [n, e]
  x_n : x ∉ [n, e]
  m1_n : m1 ∉ [n, e]
  m2_n : m2 ∉ [n, e]
  o_n : ∀ k ∈ own, k ∉ [n, e]
  ar_m : ar ∉ [m1, m2]
  l_m : l ∉ [m1, m2]
  q_m : q ∉ [m1, m2]
  n_m : n ∉ [m1, m2]
  e_m : e ∉ [m1, m2]
  o_m : ∀ k ∈ own, k ∉ [m1, m2]

theorem ap_of {w : World} {b off ar x m1 m2 g D : Nat} {S : Sdb} {sd : Int} {L : List Ord} {lv : List Lvl} {v : Value} {c : Nat → Int} {il : IL} {o : Ord} (hB : BC w b off ar x S) (hS : SdAt w D sd S L lv v) (hX : XAt w x m1 m2 il) (hA : ArAt w ar c) (hg : w.heap[g]? = some (.cells (oCs o) 52 (0, 0))) :
    Ap b g ar S.l S.q S.n S.e x m1 m2 (ownL v) := by
  have Kb := hB.kind
  have Kg : KindIs w g 52 := ⟨_, hg⟩
  have Ka := hA.kind
  have Kl : KindIs w S.l 179 := ⟨_, hS.ld⟩
  obtain ⟨nf, ef, hf, _⟩ := hS.ff
  have Kq : KindIs w S.q 183 := ⟨_, hf.blk⟩
  have Kn := hf.nds.kind
  have Ke := hf.eds.kind
  have Kx := hX.kind
  have K1 := hX.map1
  have K2 := hX.map2
  have Kv : ∀ k ∈ ownL v, KindIs w k 167 := fun k hk => hS.sl.kind (by simpa [ownL] using hk)
  have own : ∀ {z t : Nat}, KindIs w z t → t ≠ 167 → z ∉ ownL v := fun hz ht hm => hz.ne (Kv _ hm) ht rfl
  have ownM : ∀ {z : Nat}, MapIs w z → z ∉ ownL v := fun hz hm => (Kv _ hm).ne' hz rfl
  refine ⟨?_, ?_, ?_, ?_, ?_, ?_, ?_, ?_, ?_, ?_, ?_, ?_, ?_, ?_, ?_, ?_, ?_, ?_, ?_, ?_, ?_, ?_, ?_, ?_, ?_, ?_, ?_, ?_, ?_, ?_, ?_, ?_, ?_⟩
  · simpa using Kb.ne Ka (by decide)
  · simpa using Kg.ne Ka (by decide)
  · simpa using Kl.ne Ka (by decide)
  · simpa using Kq.ne Ka (by decide)
  · simpa using Kn.ne Ka (by decide)
  · simpa using Ke.ne Ka (by decide)
  · simpa using Kx.ne Ka (by decide)
  · simpa using Ne.symm (Ka.ne' K1)
  · simpa using Ne.symm (Ka.ne' K2)
  · intro k hk; simpa using (Kv k hk).ne Ka (by decide)
  · simpa using ⟨Kb.ne Kl (by decide), own Kb (by decide)⟩
  · simpa using ⟨Kg.ne Kl (by decide), own Kg (by decide)⟩
  · simpa using ⟨Ka.ne Kl (by decide), own Ka (by decide)⟩
  · simpa using ⟨Kq.ne Kl (by decide), own Kq (by decide)⟩
  · simpa using ⟨Kn.ne Kl (by decide), own Kn (by decide)⟩
  · simpa using ⟨Ke.ne Kl (by decide), own Ke (by decide)⟩
  · simpa using ⟨Kx.ne Kl (by decide), own Kx (by decide)⟩
  · simpa using ⟨Ne.symm (Kl.ne' K1), ownM K1⟩
  · simpa using ⟨Ne.symm (Kl.ne' K2), ownM K2⟩
  · simpa using ⟨Kb.ne Kn (by decide), Kb.ne Ke (by decide)⟩
  · simpa using ⟨Kg.ne Kn (by decide), Kg.ne Ke (by decide)⟩
  · simpa using ⟨Ka.ne Kn (by decide), Ka.ne Ke (by decide)⟩
  · simpa using ⟨Kl.ne Kn (by decide), Kl.ne Ke (by decide)⟩
  · simpa using ⟨Kx.ne Kn (by decide), Kx.ne Ke (by decide)⟩
  · simpa using ⟨Ne.symm (Kn.ne' K1), Ne.symm (Ke.ne' K1)⟩
  · simpa using ⟨Ne.symm (Kn.ne' K2), Ne.symm (Ke.ne' K2)⟩
  · intro k hk; simpa using ⟨(Kv k hk).ne Kn (by decide), (Kv k hk).ne Ke (by decide)⟩
  · simpa using ⟨Ka.ne' K1, Ka.ne' K2⟩
  · simpa using ⟨Kl.ne' K1, Kl.ne' K2⟩
  · simpa using ⟨Kq.ne' K1, Kq.ne' K2⟩
  · simpa using ⟨Kn.ne' K1, Kn.ne' K2⟩
  · simpa using ⟨Ke.ne' K1, Ke.ne' K2⟩
  · intro k hk; simpa using ⟨(Kv k hk).ne' K1, (Kv k hk).ne' K2⟩

theorem has_app (L : List Ord) (o : Ord) (id : Int) : hasId (L ++ [o]) id = (hasId L id || decide (o 0 = id)) := by simp [hasId]
theorem badd_end {w W3 W4 Wd W5 W6 W7 W8 : World} {b g ar x m1 m2 D : Nat} {S : Sdb} {sd : Int} {L : List Ord} {lv' : List Lvl} {v v' : Value} {o : Ord} {c : Nat → Int} {il : IL} {nf ef nf' ef' : Nat → Int} (AP : Ap b g ar S.l S.q S.n S.e x m1 m2 (ownL v))
    (hI : ∀ id, (mLook il (0, id)).isSome = hasId L id) (hil : il.length ≤ L.length)
    (HR : ArAt W4 ar (tookC c L.length o) ∧ Hold 60 (L ++ [o]).length (L ++ [o]) (tookC c L.length o) ∧ Chg [] w W3 ∧ Chg [ar] W3 W4)
    (HP : LdBlk W5 S.l sd v' (ones lv'.length) ∧ SlAt 167 4 lvE W5 v' lv' ∧ LvOk sd lv' (L ++ [o]) ∧ Chg (S.l :: ownL v) W4 W5 ∧ (v'.ownBlock = v.ownBlock ∨ ∃ g, v'.ownBlock = some g ∧ Wd.heap.size ≤ g) ∧ Fresh D v ∧ D ≤ S.l ∧ D ≤ S.q ∧ D ≤ S.n ∧ D ≤ S.e ∧ Chg [] W4 Wd)
    (hf5 : FfAt W5 S.q S.n S.e nf ef) (X6 : XAt W6 x m1 m2 il) (HQ : FfAt W6 S.q S.n S.e nf' ef' ∧ Qs nf' ef' lv' (L.length + 1) ∧ Chg [S.n, S.e] W5 W6) (HE : Chg [] W6 W7) (X8 : XAt W8 x m1 m2 (il ++ [((0, o 0), ((L.length : Nat) : Int))])) (hC8 : Chg [m1, m2] W7 W8) (hD : D ≤ w.heap.size) :
    Added w W8 D ar x m1 m2 sd S (L ++ [o]) v := by
  obtain ⟨R4, H4, hA3, hC34⟩ := HR
  obtain ⟨P1, P2, P3, hC45, P6, fr, dl, dq, dn, de, hWd⟩ := HP
  obtain ⟨hf6, hqs6, hC6⟩ := HQ
  have hC68 : Chg [m1, m2] W6 W8 := HE.nil.trans hC8
  have z4 : w.heap.size ≤ W4.heap.size := Nat.le_trans hA3.size hC34.size
  have Kv : ∀ k, v'.ownBlock = some k → KindIs W5 k 167 := fun k hk => P2.kind hk
  have vn : ∀ k, v'.ownBlock = some k → k ∉ [S.n, S.e] := fun k hk => by
    simpa using ⟨(Kv k hk).ne hf5.nds.kind (by decide), (Kv k hk).ne hf5.eds.kind (by decide)⟩
  have s6 := P2.chg hC6 vn
  have vm : ∀ k, v'.ownBlock = some k → k ∉ [m1, m2] := fun k hk => by
    simpa using ⟨(s6.kind hk).ne' X6.map1, (s6.kind hk).ne' X6.map2⟩
  refine ⟨⟨_, ((R4.chg hC45 AP.ar_l).chg hC6 AP.ar_n).chg hC68 AP.ar_m, H4⟩, ⟨_, X8, fun id => ?_, by simp; omega⟩, ⟨lv', v', ⟨hC68.at_ (hC6.at_ P1 AP.l_n) AP.l_m, s6.chg hC68 vm, ?_, ⟨nf', ef', hf6.chg hC68 AP.q_m AP.n_m AP.e_m, by simpa using hqs6⟩, P3, dl, dq, dn, de⟩, ?_⟩, ?_⟩
  · rw [mLook_app, has_app, ← hI id]
    by_cases e : o 0 = id
    · subst e; cases mLook il (0, o 0) <;> simp
    · have : ¬ ((0, o 0) = ((0, id) : Int × Int)) := fun h => e (by simpa using h)
      simp [this, e]
  · intro k hk
    rcases P6 with h | ⟨g', h, hg⟩
    · exact fr k (h ▸ hk)
    · rw [h] at hk; cases hk
      have := hWd.size
      omega
  · rcases P6 with h | ⟨g', h, hg⟩
    · exact .inl h
    · refine .inr ⟨g', h, ?_⟩
      have := hWd.size
      omega
  · have t1 : Chg (ar :: m1 :: m2 :: S.l :: S.n :: S.e :: ownL v) w W4 := hA3.nil.trans (hC34.mono (by simp))
    have t2 : Chg (ar :: m1 :: m2 :: S.l :: S.n :: S.e :: ownL v) W4 W5 := hC45.mono (fun k hk => .inl (by
      rcases List.mem_cons.1 hk with rfl | hk
      · simp
      · simp [hk]))
    have t3 : Chg (ar :: m1 :: m2 :: S.l :: S.n :: S.e :: ownL v) W5 W6 := hC6.mono (fun k hk => .inl (by
      simp at hk; rcases hk with rfl | rfl <;> simp))
    have t4 : Chg (ar :: m1 :: m2 :: S.l :: S.n :: S.e :: ownL v) W6 W8 := hC68.mono (fun k hk => .inl (by
      simp at hk; rcases hk with rfl | rfl <;> simp))
    exact ((t1.trans t2).trans t3).trans t4

set_option maxRecDepth 100000 in
set_option maxHeartbeats 4000000 in
theorem badd_yes (w : World) (b off ar x m1 m2 : Nat) (S : Sdb) (sd : Int) (hB : BC w b off ar x S) (hof : OfIs b off sd) (D : Nat) (hD : D ≤ w.heap.size) (L : List Ord) (lv : List Lvl) (v : Value) (hS : SdAt w D sd S L lv v) (hlen : L.length < 60)
    (c : Nat → Int) (hA : ArAt w ar c) (hH : Hold 60 L.length L c) (il : IL) (hX : XAt w x m1 m2 il) (hI : ∀ id, (mLook il (0, id)).isSome = hasId L id) (hil : il.length ≤ L.length) (o : Ord) (ho : o 2 = sd) (hok : okO o = true) (hid : hasId L (o 0) = false) :
    Calls Try.prog 66 #[.pointer (some ⟨b, 0, none⟩), oV o] w fun e w' => e = .returned (.int .i64 0) ∧ Added w w' D ar x m1 m2 sd S (L ++ [o]) v := by
  have hA0 := Chg.alloc [] w (.cells #[.int .i64 (o 0), .int .i64 (o 1), .int .i64 (o 2), .int .i64 (o 3), .int .i64 (o 4), .int .i64 (o 5), .int .i64 (o 6)] 52)
  have bx0 : (w.alloc (.cells #[.int .i64 (o 0), .int .i64 (o 1), .int .i64 (o 2), .int .i64 (o 3), .int .i64 (o 4), .int .i64 (o 5), .int .i64 (o 6)] 52)).heap[w.heap.size]? = some (.cells (oCs o) 52 (0, 0)) := heap_alloc_new w _
  obtain ⟨W0, hW0⟩ : ∃ W0, W0 = w.alloc (.cells #[.int .i64 (o 0), .int .i64 (o 1), .int .i64 (o 2), .int .i64 (o 3), .int .i64 (o 4), .int .i64 (o 5), .int .i64 (o 6)] 52) := ⟨_, rfl⟩
  have hz0 : W0.heap.size = w.heap.size + 1 := by rw [hW0]; simp
  rw [← hW0] at hA0 bx0
  have hok2 := hok
  simp only [okO, Bool.and_eq_true, decide_eq_true_eq] at hok2
  obtain ⟨_, ⟨⟨hp1, hp2⟩, hq1⟩, hq2⟩ := hok2
  have hp : PrOk (o 3) := ⟨hp1, hp2⟩
  have g1 : decide (o 3 < 1) = false := decide_eq_false (by omega)
  have g2 : decide (o 3 > 1099511627776) = false := decide_eq_false (by omega)
  have g3 : decide (o 4 < 1) = false := decide_eq_false (by omega)
  have g4 : decide (o 4 > 4294967296) = false := decide_eq_false (by omega)
  have hof1 := hof W0
  rw [← ho] at hof1
  unfold oV
  have hnone : mLook il (0, o 0) = none := by have := hI (o 0); rw [hid] at this; simpa using this
  have HK := Lib.hid (And.intro hok (And.intro hid (And.intro hI (And.intro hil (And.intro hH hnone)))))
  have B0 := hB.chg hA0 (by simp)
  have S0 := hS.chg hA0 (by simp) (by simp) (by simp) (by simp) (by simp)
  have X0 := hX.chg hA0 (by simp) (by simp) (by simp)
  have R0 := hA.chg hA0 (by simp)
  obtain ⟨x0, x1, x2, x3, x4, x5, x6⟩ := blk7 (o := o) bx0
  rw [ho] at x2
  have HO := Lib.hid ho
  clear ho hok hid hI hil hH hnone hB hS hX hA hq1 hq2 hp1 hp2
  go_enter Try.func66, Try.ntmps66
  go_wp2_with fail
  rw [← hW0]
  refine hof1.mono ?_
  rintro e w' ⟨rfl, rfl⟩
  clear hof1
  go_wp2_with fail
  have hx5 := B0.c5
  have hx5n : KindIs W0 w.heap.size 52 := ⟨_, bx0⟩
  rw [← hW0]
  refine wp_cutR (Chg [] W0) 12 (by kernel_rfl) (by kernel_rfl) (fun _ h => Chg.nil h) (fun W hW hS => ?_)
  simp only [List.take_succ_cons, List.take_zero, List.drop_succ_cons, List.drop_zero]
  have HW := Lib.hid hW
  clear hW
  refine takeH 0 (v := ?vv198) rfl (by kernel_rfl) (by kernel_rfl) (by kernel_rfl) (fun _ _ _ h => h) (by kernel_rfl) (fun Wx hSx => ?hy198) (by assumption) ?hrest198
  case hy198 => go_simp; (try with_reducible rfl)
  simp only [Act.put, List.setIfInBounds_toArray]
  refine takeH 1 (v := ?vv201) rfl (by kernel_rfl) (by kernel_rfl) (by kernel_rfl) (fun _ _ _ h => h) (by kernel_rfl) (fun Wx hSx => ?hy201) (by assumption) ?hrest201
  case hy201 => go_simp; (try with_reducible rfl)
  simp only [Act.put]
  refine takeH 2 (v := ?vv204) rfl (by kernel_rfl) (by kernel_rfl) (by kernel_rfl) (fun _ _ _ h => h) (by kernel_rfl) (fun Wx hSx => ?hy204) (by assumption) ?hrest204
  case hy204 => go_simp; (try with_reducible rfl)
  simp only [Act.put]
  refine takeH 3 (v := ?vv207) rfl (by kernel_rfl) (by kernel_rfl) (by kernel_rfl) (fun _ _ _ h => h) (by kernel_rfl) (fun Wx hSx => ?hy207) (by assumption) ?hrest207
  case hy207 => have q0 := hSx.cell hx5 (by simp); go_simp; (try with_reducible rfl)
  simp only [Act.put]
  refine takeH 4 (v := ?vv210) rfl (by kernel_rfl) (by kernel_rfl) (by kernel_rfl) (fun _ _ _ h => h) (by kernel_rfl) (fun Wx hSx => ?hy210) (by assumption) ?hrest210
  case hy210 => go_simp; (try with_reducible rfl)
  simp only [Act.put]
  refine takeH 5 (v := ?vv213) rfl (by kernel_rfl) (by kernel_rfl) (by kernel_rfl) (fun _ _ _ h => h) (by kernel_rfl) (fun Wx hSx => ?hy213) (by assumption) ?hrest213
  case hy213 => have q0 := hSx.cell x0 (by simp); go_simp; (try with_reducible rfl)
  simp only [Act.put]
  refine wpAnyH_ready (rs := [6]) (by kernel_rfl) (by simp) ?_
  refine (AllReadyH.cons rfl (fun K hK => ?_) AllReadyH.nil)
  all_goals try simp only [List.getElem_toArray, List.getElem_cons_succ, List.getElem_cons_zero]
  go_simp
  refine (key80 _ _).mono ?_
  rintro e W1 ⟨rfl, hC1⟩
  go_simp
  refine hK.out _ _ (hS.trans hC1) (fun hHeld => ?_)
  clear hK K
  try simp only [Act.put, List.getElem_toArray, List.getElem_cons_succ, List.getElem_cons_zero, List.setIfInBounds_toArray, List.set_cons_zero, List.set_cons_succ]
  have hg := get_any W1 x m1 m2 il (X0.chg hHeld (by simp) (by simp) (by simp)) 0 (o 0)
  rw [HK.out.2.2.2.2.2] at hg
  refine wpAnyH_ready (rs := [7]) (by kernel_rfl) (by simp) ?_
  refine (AllReadyH.cons rfl (fun K hK => ?_) AllReadyH.nil)
  all_goals try simp only [List.getElem_toArray, List.getElem_cons_succ, List.getElem_cons_zero]
  go_simp
  refine hg.mono ?_
  rintro e W2 ⟨rfl, hC2⟩
  go_simp
  refine hK.out _ _ (hHeld.trans hC2) (fun hHeld => ?_)
  clear hK K
  try simp only [Act.put, List.getElem_toArray, List.getElem_cons_succ, List.getElem_cons_zero, List.setIfInBounds_toArray, List.set_cons_zero, List.set_cons_succ]
  clear hC2 hg hC1 hS HW
  refine takeH 8 (v := ?vv239) rfl (by kernel_rfl) (by kernel_rfl) (by kernel_rfl) (fun _ _ _ h => h) (by kernel_rfl) (fun Wx hSx => ?hy239) (by assumption) ?hrest239
  case hy239 => go_simp; (try with_reducible rfl)
  simp only [Act.put, List.setIfInBounds_toArray]
  refine takeH 9 (v := ?vv242) rfl (by kernel_rfl) (by kernel_rfl) (by kernel_rfl) (fun _ _ _ h => h) (by kernel_rfl) (fun Wx hSx => ?hy242) (by assumption) ?hrest242
  case hy242 => go_simp; (try with_reducible rfl)
  simp only [Act.put]
  refine takeH 10 (v := ?vv245) rfl (by kernel_rfl) (by kernel_rfl) (by kernel_rfl) (fun _ _ _ h => h) (by kernel_rfl) (fun Wx hSx => ?hy245) (by assumption) ?hrest245
  case hy245 => go_simp; (try with_reducible rfl)
  simp only [Act.put]
  refine takeH 11 (v := ?vv248) rfl (by kernel_rfl) (by kernel_rfl) (by kernel_rfl) (fun _ _ _ h => h) (by kernel_rfl) (fun Wx hSx => ?hy248) (by assumption) ?hrest248
  case hy248 => go_simp; (try with_reducible rfl)
  simp only [Act.put]
  refine wpAnyH_done (by kernel_rfl) ?_ _
  simp only [cutQ]
  have B2 := B0.chg hHeld (by simp)
  have S2 := S0.chg hHeld (by simp) (by simp) (by simp) (by simp) (by simp)
  have X2 := X0.chg hHeld (by simp) (by simp) (by simp)
  have R2 := R0.chg hHeld (by simp)
  have by2 := hHeld.at_ bx0 (by simp)
  have hA2 := hA0.trans hHeld
  clear B0 S0 X0 R0 bx0 hA0 hHeld x0 x1 x2 x3 x4 x5 x6 hx5 hx5n
  obtain ⟨x0, x1, x2, x3, x4, x5, x6⟩ := blk7 (o := o) by2
  rw [HO.out] at x2
  have hr := room81 W2 b off ar x S sd B2 hof D L lv v S2 hlen (o 3) hp c R2 HK.out.2.2.2.2.1
  go_wp2_with fail
  refine hr.mono ?_
  rintro e W3 ⟨rfl, hC3⟩
  clear hr
  have B3 := B2.chg hC3 (by simp)
  have S3 := S2.chg hC3 (by simp) (by simp) (by simp) (by simp) (by simp)
  have X3 := X2.chg hC3 (by simp) (by simp) (by simp)
  have R3 := R2.chg hC3 (by simp)
  have by3 := hC3.at_ by2 (by simp)
  have hA3 := hA2.trans hC3
  have x0 := hC3.cell x0 (by simp)
  have x1 := hC3.cell x1 (by simp)
  have x2 := hC3.cell x2 (by simp)
  have x3 := hC3.cell x3 (by simp)
  have x4 := hC3.cell x4 (by simp)
  have x5 := hC3.cell x5 (by simp)
  have x6 := hC3.cell x6 (by simp)
  have AP := Lib.hid (ap_of B3 S3 X3 R3 by3)
  have c0 := B3.c0
  clear B2 S2 X2 R2 by2 hA2 hC3 hp
  go_wp2_with fail
  refine wp_cutR (Chg [ar] W3) 10 (by kernel_rfl) (by kernel_rfl) (fun _ h => Chg.nil h) (fun W hW hS => ?_)
  simp only [List.take_succ_cons, List.take_zero, List.drop_succ_cons, List.drop_zero]
  have ht := take09_yes W ar c (R3.chg hW (by simp)) L.length (by rw [HK.out.2.2.2.2.1.free, if_pos hlen]) (by omega) o (by rw [HK.out.2.2.2.2.1.used]; exact IntWalk.i64_in _ (by omega))
  unfold oV at ht
  rw [HO.out] at ht
  have HT := Lib.hid (And.intro ht hW)
  clear ht hW
  refine takeH 0 (v := ?vv291) rfl (by kernel_rfl) (by kernel_rfl) (by kernel_rfl) (fun _ _ _ h => h) (by kernel_rfl) (fun Wx hSx => ?hy291) (by assumption) ?hrest291
  case hy291 => go_simp; (try with_reducible rfl)
  simp only [Act.put, List.setIfInBounds_toArray]
  refine takeH 1 (v := ?vv294) rfl (by kernel_rfl) (by kernel_rfl) (by kernel_rfl) (fun _ _ _ h => h) (by kernel_rfl) (fun Wx hSx => ?hy294) (by assumption) ?hrest294
  case hy294 => go_simp; (try with_reducible rfl)
  simp only [Act.put]
  refine takeH 2 (v := ?vv297) rfl (by kernel_rfl) (by kernel_rfl) (by kernel_rfl) (fun _ _ _ h => h) (by kernel_rfl) (fun Wx hSx => ?hy297) (by assumption) ?hrest297
  case hy297 => go_simp; (try with_reducible rfl)
  simp only [Act.put]
  refine takeH 3 (v := ?vv300) rfl (by kernel_rfl) (by kernel_rfl) (by kernel_rfl) (fun _ _ _ h => h) (by kernel_rfl) (fun Wx hSx => ?hy300) (by assumption) ?hrest300
  case hy300 => have q0 := hSx.cell c0 AP.out.b_ar; go_simp; (try with_reducible rfl)
  simp only [Act.put]
  refine takeH 4 (v := ?vv303) rfl (by kernel_rfl) (by kernel_rfl) (by kernel_rfl) (fun _ _ _ h => h) (by kernel_rfl) (fun Wx hSx => ?hy303) (by assumption) ?hrest303
  case hy303 => have q0 := hSx.cell x0 AP.out.g_ar; have q1 := hSx.cell x1 AP.out.g_ar; have q2 := hSx.cell x2 AP.out.g_ar; have q3 := hSx.cell x3 AP.out.g_ar; have q4 := hSx.cell x4 AP.out.g_ar; have q5 := hSx.cell x5 AP.out.g_ar; have q6 := hSx.cell x6 AP.out.g_ar; go_simp; (try with_reducible rfl)
  simp only [Act.put]
  refine wpAnyH_ready (rs := [5]) (by kernel_rfl) (by simp) ?_
  refine (AllReadyH.cons rfl (fun K hK => ?_) AllReadyH.nil)
  all_goals try simp only [List.getElem_toArray, List.getElem_cons_succ, List.getElem_cons_zero]
  go_simp
  refine HT.out.1.mono ?_
  rintro e W4 ⟨rfl, R4, hC4⟩
  go_simp
  have hC34 : Chg [ar] W3 W4 := HT.out.2.nil.trans hC4
  refine hK.out _ _ (hC34) (fun hHeld => ?_)
  clear hK K
  try simp only [Act.put, List.getElem_toArray, List.getElem_cons_succ, List.getElem_cons_zero, List.setIfInBounds_toArray, List.set_cons_zero, List.set_cons_succ]
  refine takeH 6 (v := ?vv317) rfl (by kernel_rfl) (by kernel_rfl) (by kernel_rfl) (fun _ _ _ h => h) (by kernel_rfl) (fun Wx hSx => ?hy317) (by assumption) ?hrest317
  case hy317 => go_simp; (try with_reducible rfl)
  simp only [Act.put, List.setIfInBounds_toArray]
  refine takeH 7 (v := ?vv320) rfl (by kernel_rfl) (by kernel_rfl) (by kernel_rfl) (fun _ _ _ h => h) (by kernel_rfl) (fun Wx hSx => ?hy320) (by assumption) ?hrest320
  case hy320 => go_simp; (try with_reducible rfl)
  simp only [Act.put]
  refine takeH 8 (v := ?vv323) rfl (by kernel_rfl) (by kernel_rfl) (by kernel_rfl) (fun _ _ _ h => h) (by kernel_rfl) (fun Wx hSx => ?hy323) (by assumption) ?hrest323
  case hy323 => go_simp; (try with_reducible rfl)
  simp only [Act.put]
  refine takeH 9 (v := ?vv326) rfl (by kernel_rfl) (by kernel_rfl) (by kernel_rfl) (fun _ _ _ h => h) (by kernel_rfl) (fun Wx hSx => ?hy326) (by assumption) ?hrest326
  case hy326 => go_simp; (try with_reducible rfl)
  simp only [Act.put]
  refine wpAnyH_done (by kernel_rfl) ?_ _
  simp only [cutQ]
  have B4 := B3.chg hC34 AP.out.b_ar
  have S4 := S3.chg hC34 AP.out.l_ar AP.out.q_ar AP.out.n_ar AP.out.e_ar (fun k hk => AP.out.o_ar k (by simp [ownL, hk]))
  have X4 := X3.chg hC34 AP.out.x_ar AP.out.m1_ar AP.out.m2_ar
  have by4 := hC34.at_ by3 AP.out.g_ar
  have H4 := hold_app (o := o) HK.out.2.2.2.2.1 (by omega) (by omega)
  have x0 := hC34.cell x0 AP.out.g_ar
  have x3 := hC34.cell x3 AP.out.g_ar
  have x4 := hC34.cell x4 AP.out.g_ar
  have HR := Lib.hid (And.intro R4 (And.intro H4 (And.intro hA3 hC34)))
  have cl := B4.cl
  have hput := put_any
  clear B3 S3 X3 R3 by3 hA3 R4 H4 hC4 hHeld hS HT x1 x2 x5 x6 c0 hC34 hput
  go_wp2_with fail
  refine wp_cutR (Chg (S.l :: ownL v) W4) 13 (by kernel_rfl) (by kernel_rfl) (fun _ h => Chg.nil h) (fun W hW hS => ?_)
  simp only [List.take_succ_cons, List.take_zero, List.drop_succ_cons, List.drop_zero]
  have hpu := put_any W D sd S L lv v (S4.chg hW (by simp) (by simp) (by simp) (by simp) (by simp)) hlen o HO.out HK.out.1
  have HT := Lib.hid (And.intro hpu hW)
  clear hpu hW
  refine takeH 0 (v := ?vv349) rfl (by kernel_rfl) (by kernel_rfl) (by kernel_rfl) (fun _ _ _ h => h) (by kernel_rfl) (fun Wx hSx => ?hy349) (by assumption) ?hrest349
  case hy349 => go_simp; (try with_reducible rfl)
  simp only [Act.put, List.setIfInBounds_toArray]
  refine takeH 1 (v := ?vv352) rfl (by kernel_rfl) (by kernel_rfl) (by kernel_rfl) (fun _ _ _ h => h) (by kernel_rfl) (fun Wx hSx => ?hy352) (by assumption) ?hrest352
  case hy352 => go_simp; (try with_reducible rfl)
  simp only [Act.put]
  refine takeH 2 (v := ?vv355) rfl (by kernel_rfl) (by kernel_rfl) (by kernel_rfl) (fun _ _ _ h => h) (by kernel_rfl) (fun Wx hSx => ?hy355) (by assumption) ?hrest355
  case hy355 => go_simp; (try with_reducible rfl)
  simp only [Act.put]
  refine takeH 3 (v := ?vv358) rfl (by kernel_rfl) (by kernel_rfl) (by kernel_rfl) (fun _ _ _ h => h) (by kernel_rfl) (fun Wx hSx => ?hy358) (by assumption) ?hrest358
  case hy358 => have q0 := hSx.cell cl AP.out.b_l; go_simp; (try with_reducible rfl)
  simp only [Act.put]
  refine takeH 4 (v := ?vv361) rfl (by kernel_rfl) (by kernel_rfl) (by kernel_rfl) (fun _ _ _ h => h) (by kernel_rfl) (fun Wx hSx => ?hy361) (by assumption) ?hrest361
  case hy361 => go_simp; (try with_reducible rfl)
  simp only [Act.put]
  refine takeH 5 (v := ?vv364) rfl (by kernel_rfl) (by kernel_rfl) (by kernel_rfl) (fun _ _ _ h => h) (by kernel_rfl) (fun Wx hSx => ?hy364) (by assumption) ?hrest364
  case hy364 => have q0 := hSx.cell x3 AP.out.g_l; go_simp; (try with_reducible rfl)
  simp only [Act.put]
  refine takeH 6 (v := ?vv367) rfl (by kernel_rfl) (by kernel_rfl) (by kernel_rfl) (fun _ _ _ h => h) (by kernel_rfl) (fun Wx hSx => ?hy367) (by assumption) ?hrest367
  case hy367 => go_simp; (try with_reducible rfl)
  simp only [Act.put]
  refine takeH 7 (v := ?vv370) rfl (by kernel_rfl) (by kernel_rfl) (by kernel_rfl) (fun _ _ _ h => h) (by kernel_rfl) (fun Wx hSx => ?hy370) (by assumption) ?hrest370
  case hy370 => have q0 := hSx.cell x4 AP.out.g_l; go_simp; (try with_reducible rfl)
  simp only [Act.put]
  refine wpAnyH_ready (rs := [8]) (by kernel_rfl) (by simp) ?_
  refine (AllReadyH.cons rfl (fun K hK => ?_) AllReadyH.nil)
  all_goals try simp only [List.getElem_toArray, List.getElem_cons_succ, List.getElem_cons_zero]
  go_simp
  refine HT.out.1.mono ?_
  rintro e W5 ⟨lv', v', q, rfl, P1, P2, P3, P4, P5, P6⟩
  go_simp
  have hC45 : Chg (S.l :: ownL v) W4 W5 := HT.out.2.nil.trans P5
  refine hK.out _ _ (hC45) (fun hHeld => ?_)
  clear hK K
  try simp only [Act.put, List.getElem_toArray, List.getElem_cons_succ, List.getElem_cons_zero, List.setIfInBounds_toArray, List.set_cons_zero, List.set_cons_succ]
  refine takeH 9 (v := ?vv384) rfl (by kernel_rfl) (by kernel_rfl) (by kernel_rfl) (fun _ _ _ h => h) (by kernel_rfl) (fun Wx hSx => ?hy384) (by assumption) ?hrest384
  case hy384 => go_simp; (try with_reducible rfl)
  simp only [Act.put, List.setIfInBounds_toArray]
  refine takeH 10 (v := ?vv387) rfl (by kernel_rfl) (by kernel_rfl) (by kernel_rfl) (fun _ _ _ h => h) (by kernel_rfl) (fun Wx hSx => ?hy387) (by assumption) ?hrest387
  case hy387 => go_simp; (try with_reducible rfl)
  simp only [Act.put]
  refine takeH 11 (v := ?vv390) rfl (by kernel_rfl) (by kernel_rfl) (by kernel_rfl) (fun _ _ _ h => h) (by kernel_rfl) (fun Wx hSx => ?hy390) (by assumption) ?hrest390
  case hy390 => go_simp; (try with_reducible rfl)
  simp only [Act.put]
  refine takeH 12 (v := ?vv393) rfl (by kernel_rfl) (by kernel_rfl) (by kernel_rfl) (fun _ _ _ h => h) (by kernel_rfl) (fun Wx hSx => ?hy393) (by assumption) ?hrest393
  case hy393 => go_simp; (try with_reducible rfl)
  simp only [Act.put]
  refine wpAnyH_done (by kernel_rfl) ?_ _
  simp only [cutQ]
  have B5 := B4.chg hC45 AP.out.b_l
  have X5 := X4.chg hC45 AP.out.x_l AP.out.m1_l AP.out.m2_l
  have by5 := hC45.at_ by4 AP.out.g_l
  have x0 := hC45.cell x0 AP.out.g_l
  obtain ⟨nf, ef, hf, hqs⟩ := S4.ff
  have hf5 := hf.chg hC45 AP.out.q_l AP.out.n_l AP.out.e_l
  have hps := P4 W5 nf ef hf5 hqs
  have HP := Lib.hid (And.intro P1 (And.intro P2 (And.intro P3 (And.intro hC45 (And.intro P6 (And.intro S4.fr (And.intro S4.dl (And.intro S4.dq (And.intro S4.dn (And.intro S4.de HT.out.2))))))))))
  have cq := B5.cq
  clear B4 S4 X4 by4 x3 x4 P1 P2 P3 P4 P5 P6 HT hf hqs hHeld hS cl hC45
  go_wp2_with fail
  refine hps.mono ?_
  rintro e W6 ⟨rfl, ⟨nf', ef', hf6, hqs6⟩, hC6⟩
  clear hps
  have B6 := B5.chg hC6 AP.out.b_n
  have X6 := X5.chg hC6 AP.out.x_n AP.out.m1_n AP.out.m2_n
  have by6 := hC6.at_ by5 AP.out.g_n
  have x0 := hC6.cell x0 AP.out.g_n
  have c5 := B6.c5
  have HQ := Lib.hid (And.intro hf6 (And.intro hqs6 hC6))
  have H5 := Lib.hid (And.intro hf5 X6)
  clear B5 X5 by5 cq hf6 hqs6 hC6 hf5
  go_wp2_with fail
  refine wp_cutR (Chg [] W6) 8 (by kernel_rfl) (by kernel_rfl) (fun _ h => Chg.nil h) (fun W hW hS => ?_)
  simp only [List.take_succ_cons, List.take_zero, List.drop_succ_cons, List.drop_zero]
  have HT := Lib.hid hW
  clear hW
  refine takeH 0 (v := ?vv425) rfl (by kernel_rfl) (by kernel_rfl) (by kernel_rfl) (fun _ _ _ h => h) (by kernel_rfl) (fun Wx hSx => ?hy425) (by assumption) ?hrest425
  case hy425 => go_simp; (try with_reducible rfl)
  simp only [Act.put, List.setIfInBounds_toArray]
  refine takeH 1 (v := ?vv428) rfl (by kernel_rfl) (by kernel_rfl) (by kernel_rfl) (fun _ _ _ h => h) (by kernel_rfl) (fun Wx hSx => ?hy428) (by assumption) ?hrest428
  case hy428 => go_simp; (try with_reducible rfl)
  simp only [Act.put]
  refine takeH 2 (v := ?vv431) rfl (by kernel_rfl) (by kernel_rfl) (by kernel_rfl) (fun _ _ _ h => h) (by kernel_rfl) (fun Wx hSx => ?hy431) (by assumption) ?hrest431
  case hy431 => go_simp; (try with_reducible rfl)
  simp only [Act.put]
  refine takeH 3 (v := ?vv434) rfl (by kernel_rfl) (by kernel_rfl) (by kernel_rfl) (fun _ _ _ h => h) (by kernel_rfl) (fun Wx hSx => ?hy434) (by assumption) ?hrest434
  case hy434 => have q0 := hSx.cell c5 (by simp); go_simp; (try with_reducible rfl)
  simp only [Act.put]
  refine takeH 4 (v := ?vv437) rfl (by kernel_rfl) (by kernel_rfl) (by kernel_rfl) (fun _ _ _ h => h) (by kernel_rfl) (fun Wx hSx => ?hy437) (by assumption) ?hrest437
  case hy437 => go_simp; (try with_reducible rfl)
  simp only [Act.put]
  refine takeH 5 (v := ?vv440) rfl (by kernel_rfl) (by kernel_rfl) (by kernel_rfl) (fun _ _ _ h => h) (by kernel_rfl) (fun Wx hSx => ?hy440) (by assumption) ?hrest440
  case hy440 => have q0 := hSx.cell x0 (by simp); go_simp; (try with_reducible rfl)
  simp only [Act.put]
  refine takeH 7 (v := ?vv443) rfl (by kernel_rfl) (by kernel_rfl) (by kernel_rfl) (fun _ _ _ h => h) (by kernel_rfl) (fun Wx hSx => ?hy443) (by assumption) ?hrest443
  case hy443 => go_simp; (try with_reducible rfl)
  simp only [Act.put]
  refine wpAnyH_ready (rs := [6]) (by kernel_rfl) (by simp) ?_
  refine (AllReadyH.cons rfl (fun K hK => ?_) AllReadyH.nil)
  all_goals try simp only [List.getElem_toArray, List.getElem_cons_succ, List.getElem_cons_zero]
  go_simp
  refine (key80 _ _).mono ?_
  rintro e W7 ⟨rfl, hC7⟩
  go_simp
  refine hK.out _ _ (hS.trans hC7) (fun hHeld => ?_)
  clear hK K
  try simp only [Act.put, List.getElem_toArray, List.getElem_cons_succ, List.getElem_cons_zero, List.setIfInBounds_toArray, List.set_cons_zero, List.set_cons_succ]
  refine wpAnyH_done (by kernel_rfl) ?_ _
  simp only [cutQ]
  have hpx := put_new W7 x m1 m2 il (X6.chg hHeld (by simp) (by simp) (by simp)) 0 (o 0) (L.length : Nat) HK.out.2.2.2.2.2 (by have := HK.out.2.2.2.1; omega)
  have HE := Lib.hid hHeld
  clear X6 hC7 hHeld hS x0 c5 B6 by6
  go_wp2_with fail
  refine hpx.mono ?_
  rintro e W8 ⟨rfl, X8, hC8⟩
  clear hpx
  go_wp2
  go_ret
  exact ⟨rfl, badd_end AP.out HK.out.2.2.1 HK.out.2.2.2.1 HR.out HP.out H5.out.1 H5.out.2 HQ.out HE.out X8 hC8 hD⟩
end Go.Proofs.Ytdcjfaplgpeonaa
