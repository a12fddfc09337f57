/-
  The plain law of the two arenas: what holds of both at once, and that each act keeps it. No program stands in it.
-/
import Derived.Test.YtdcjfaplgpeonaaBb
namespace Go.Proofs.Ytdcjfaplgpeonaa
open Go.RowKit Go.Dm

/-- The chain of free slots from f on. -/
def Chain (c : Nat → Int) : Int → List Nat → Prop
  | f, [] => f = -1
  | f, i :: l => f = i ∧ Chain c (c (i * 8 + 7)) l
theorem Chain.ne {c : Nat → Int} {f : Int} {l : List Nat} (h : Chain c f l) : f ≠ -2 := by
  cases l with
  | nil => simp only [Chain] at h; omega
  | cons i l => simp only [Chain] at h; omega
theorem Chain.mem {c : Nat → Int} : ∀ {f : Int} {l : List Nat}, Chain c f l → ∀ i ∈ l, c (i * 8 + 7) ≠ -2
  | f, [], _, i, hi => by simp at hi
  | f, k :: l, h, i, hi => by
    rcases List.mem_cons.1 hi with rfl | hi
    · exact h.2.ne
    · exact Chain.mem h.2 i hi
theorem Chain.congr {c c' : Nat → Int} : ∀ {f : Int} {l : List Nat}, Chain c f l → (∀ i ∈ l, c' (i * 8 + 7) = c (i * 8 + 7)) → Chain c' f l
  | f, [], h, _ => h
  | f, k :: l, h, he => ⟨h.1, by rw [he k (by simp)]; exact Chain.congr h.2 fun i hi => he i (by simp [hi])⟩

structure Pair (n : Nat) (c o : Nat → Int) (T : Nat → Bool) (D : List Nat) (m : Nat) : Prop where
  n1 : 1 ≤ n
  n5 : n ≤ 500
  size : c 4000 = n
  used : c 4002 = cntT T n
  mle : m ≤ n
  nd : D.Nodup
  dlt : ∀ d ∈ D, d < m
  tk : ∀ i, i < n → (T i = true ↔ (i < m ∧ i ∉ D))
  nx : ∀ i, i < n → T i = true → c (i * 8 + 7) = -2
  ord : ∀ i, i < n → T i = true → ∀ j, j < 7 → c (i * 8 + j) = o (i * 7 + j)
  ch : Chain c (c 4001) (D.reverse ++ List.range' m (n - m))
variable {n m : Nat} {c o : Nat → Int} {T : Nat → Bool} {D : List Nat}

theorem Pair.freeMem (h : Pair n c o T D m) {i : Nat} (hi : i < n) (hT : T i = false) : i ∈ D.reverse ++ List.range' m (n - m) := by
  have := h.tk i hi
  rw [hT] at this
  simp only [Bool.false_eq_true, false_iff, not_and, Classical.not_not] at this
  by_cases hm : i < m
  · exact List.mem_append_left _ (by simpa using this hm)
  · exact List.mem_append_right _ (by rw [List.mem_range'_1]; omega)
theorem Pair.notFree (h : Pair n c o T D m) {i : Nat} (hi : i < n) (hT : T i = true) : i ∉ D.reverse ++ List.range' m (n - m) := by
  have := (h.tk i hi).1 hT
  intro hm
  rcases List.mem_append.1 hm with hm | hm
  · exact this.2 (by simpa using hm)
  · rw [List.mem_range'_1] at hm; omega
theorem Pair.taken (h : Pair n c o T D m) (i : Int) : takenI c i = hasR n T i := by
  unfold takenI hasR
  rw [h.size]
  by_cases h0 : 0 ≤ i
  · by_cases h1 : i < n
    · obtain ⟨k, rfl⟩ := Int.eq_ofNat_of_zero_le h0
      have hk : k < n := by omega
      simp only [Int.toNat_natCast, Nat.mul_comm 8 k]
      cases hT : T k with
      | true => simp [h.nx k hk hT]
      | false => simp [h.ch.mem k (h.freeMem hk hT)]
    · simp [h1]
  · simp [h0]

theorem cntT_true (T : Nat → Bool) (i : Nat) (hT : T i = false) : ∀ k, cntT (updB T i true) k = cntT T k + if i < k then 1 else 0
  | 0 => by simp [cntT]
  | k + 1 => by
    rw [cntT_succ, cntT_succ, cntT_true T i hT k]
    by_cases e : k = i
    · subst e; simp [updB, hT]
    · have h1 : updB T i true k = T k := by simp [updB, e]
      rw [h1]
      by_cases hk : i < k
      · rw [if_pos hk, if_pos (show i < k + 1 by omega)]; omega
      · rw [if_neg hk, if_neg (show ¬ i < k + 1 by omega)]; omega
theorem cntT_false (T : Nat → Bool) (i : Nat) (hT : T i = true) : ∀ k, cntT (updB T i false) k + (if i < k then 1 else 0) = cntT T k
  | 0 => by simp [cntT]
  | k + 1 => by
    have ih := cntT_false T i hT k
    rw [cntT_succ, cntT_succ, ← ih]
    by_cases e : k = i
    · subst e; simp [updB, hT]
    · have h1 : updB T i false k = T k := by simp [updB, e]
      rw [h1]
      by_cases hk : i < k
      · rw [if_pos hk, if_pos (show i < k + 1 by omega)]; omega
      · rw [if_neg hk, if_neg (show ¬ i < k + 1 by omega)]; omega

/-- A slot is taken, from the head of the free ones. -/
theorem Pair.take (h : Pair n c o T D m) {k m' : Nat} {D' : List Nat} (hk : k < n) (hT : T k = false) (x : Nat → Int)
    (hL : D.reverse ++ List.range' m (n - m) = k :: (D'.reverse ++ List.range' m' (n - m'))) (hm' : m' ≤ n) (hnd : D'.Nodup) (hdl : ∀ d ∈ D', d < m')
    (htk : ∀ i, i < n → ((i < m' ∧ i ∉ D') ↔ (i = k ∨ (i < m ∧ i ∉ D)))) (hkn : k ∉ D'.reverse ++ List.range' m' (n - m')) :
    Pair n (tookC c k x) (updO o (k * 7) x) (updB T k true) D' m' := by
  have h5 := h.n5
  have hc := h.ch
  rw [hL] at hc
  refine ⟨h.n1, h.n5, ?_, ?_, hm', hnd, hdl, ?_, ?_, ?_, ?_⟩
  · rw [took_4000 (by omega)]; exact h.size
  · rw [took_4002, h.used, cntT_true T k hT, if_pos hk]; simp
  · intro i hi
    rw [htk i hi]
    by_cases e : i = k
    · subst e; simp [updB]
    · simp only [updB, e, if_false, false_or]; exact h.tk i hi
  · intro i hi hTi
    by_cases e : i = k
    · subst e; exact took_next (by omega)
    · rw [took_other (by omega) e (by omega)]
      exact h.nx i hi (by simpa [updB, e] using hTi)
  · intro i hi hTi j hj
    by_cases e : i = k
    · subst e; rw [took_ord (by omega) hj, updO_in hj]
    · rw [took_other (by omega) e (by omega), updO_out (by omega)]
      exact h.ord i hi (by simpa [updB, e] using hTi) j hj
  · rw [took_4001 (by omega)]
    refine hc.2.congr fun i hi => ?_
    have hin : i ≠ k := fun e => hkn (e ▸ hi)
    have hi5 : i < 500 := by
      rcases List.mem_append.1 hi with hi | hi
      · have := hdl i (by simpa using hi); omega
      · rw [List.mem_range'_1] at hi; omega
    exact took_other hi5 hin (by omega)

theorem Pair.head_full (h : Pair n c o T [] n) : c 4001 = -1 := by
  have := h.ch
  simp only [List.reverse_nil, List.nil_append, Nat.sub_self, List.range'_zero, Chain] at this
  exact this
theorem Pair.head_next (h : Pair n c o T [] m) (hm : m < n) : c 4001 = m ∧ T m = false := by
  obtain ⟨q, hq⟩ : ∃ q, n - m = q + 1 := ⟨n - m - 1, by omega⟩
  have hc := h.ch
  rw [hq] at hc
  simp only [List.reverse_nil, List.nil_append, List.range'_succ, Chain] at hc
  refine ⟨hc.1, ?_⟩
  have := h.tk m hm
  cases hT : T m with
  | false => rfl
  | true => have := this.1 hT; omega
theorem Pair.take_next (h : Pair n c o T [] m) (hm : m < n) (x : Nat → Int) : Pair n (tookC c m x) (updO o (m * 7) x) (updB T m true) [] (m + 1) := by
  obtain ⟨q, hq⟩ : ∃ q, n - m = q + 1 := ⟨n - m - 1, by omega⟩
  have hq2 : n - (m + 1) = q := by omega
  refine h.take hm (h.head_next hm).2 x ?_ (by omega) List.nodup_nil (by simp) ?_ ?_
  · rw [hq, hq2, List.range'_succ]; rfl
  · intro i hi; simp; omega
  · rw [hq2]; simp [List.mem_range'_1]; omega
theorem Pair.head_back {d : Nat} (h : Pair n c o T (D ++ [d]) m) : c 4001 = d ∧ d < n ∧ T d = false := by
  have hc := h.ch
  simp only [List.reverse_append, List.reverse_cons, List.reverse_nil, List.nil_append, List.cons_append, Chain] at hc
  have hd := h.dlt d (by simp)
  have hdn : d < n := by have := h.mle; omega
  refine ⟨hc.1, hdn, ?_⟩
  cases hT : T d with
  | false => rfl
  | true => have := ((h.tk d hdn).1 hT).2; simp at this
theorem Pair.take_back {d : Nat} (h : Pair n c o T (D ++ [d]) m) (x : Nat → Int) : Pair n (tookC c d x) (updO o (d * 7) x) (updB T d true) D m := by
  have hnd := h.nd
  rw [List.nodup_append] at hnd
  have hdD : d ∉ D := fun hm => hnd.2.2 d hm d (by simp) rfl
  have hd := h.dlt d (by simp)
  refine h.take h.head_back.2.1 h.head_back.2.2 x ?_ h.mle hnd.1 (fun y hy => h.dlt y (by simp [hy])) ?_ ?_
  · simp
  · intro i hi
    simp only [List.mem_append, List.mem_singleton]
    by_cases e : i = d
    · subst e; simp [hdD, hd]
    · simp [e]
  · intro hm
    rcases List.mem_append.1 hm with hm | hm
    · exact hdD (by simpa using hm)
    · rw [List.mem_range'_1] at hm; omega

def dropC (c : Nat → Int) (i : Nat) : Nat → Int := upd (upd (upd (updO c (i * 8) (fun _ => 0)) (i * 8 + 7) (c 4001)) 4001 i) 4002 (c 4002 - 1)
theorem dropC_other {i k : Nat} (hk : k < 500) (hne : k ≠ i) {q : Nat} (hq : q < 8) : dropC c i (k * 8 + q) = c (k * 8 + q) := by
  unfold dropC
  rw [upd_ne (by omega), upd_ne (by omega), upd_ne (by omega), updO_out (by omega)]
theorem Pair.drop (h : Pair n c o T D m) {i : Nat} (hi : i < n) (hT : T i = true) : Pair n (dropC c i) o (updB T i false) (D ++ [i]) m := by
  have h5 := h.n5
  have htk := (h.tk i hi).1 hT
  refine ⟨h.n1, h.n5, ?_, ?_, h.mle, ?_, ?_, ?_, ?_, ?_, ?_⟩
  · unfold dropC
    rw [upd_ne (by omega), upd_ne (by omega), upd_ne (by omega), updO_out (by omega)]; exact h.size
  · have := cntT_false T i hT n
    rw [if_pos hi] at this
    unfold dropC
    rw [upd_same, h.used]; omega
  · rw [List.nodup_append]
    refine ⟨h.nd, by simp, fun a ha b hb e => ?_⟩
    simp at hb
    subst hb; subst e; exact htk.2 ha
  · intro d hd
    rcases List.mem_append.1 hd with hd | hd
    · exact h.dlt d hd
    · simp at hd; subst hd; exact htk.1
  · intro k hk
    by_cases e : k = i
    · subst e; simp [updB]
    · simp only [updB, e, if_false, List.mem_append, List.mem_singleton, or_false]; exact h.tk k hk
  · intro k hk hTk
    by_cases e : k = i
    · subst e; simp [updB] at hTk
    · rw [dropC_other (by omega) e (by omega)]; exact h.nx k hk (by simpa [updB, e] using hTk)
  · intro k hk hTk j hj
    by_cases e : k = i
    · subst e; simp [updB] at hTk
    · rw [dropC_other (by omega) e (by omega)]; exact h.ord k hk (by simpa [updB, e] using hTk) j hj
  · rw [List.reverse_append, List.reverse_singleton, List.singleton_append, List.cons_append]
    have h1 : dropC c i 4001 = i := by unfold dropC; rw [upd_ne (by omega), upd_same]
    have h2 : dropC c i (i * 8 + 7) = c 4001 := by unfold dropC; rw [upd_ne (by omega), upd_ne (by omega), upd_same]
    refine ⟨h1, ?_⟩
    rw [h2]
    refine h.ch.congr fun k hk => ?_
    have hki : k ≠ i := fun e => h.notFree hi hT (e ▸ hk)
    have hk5 : k < 500 := by
      have := h.mle
      rcases List.mem_append.1 hk with hk | hk
      · have := h.dlt k (by simpa using hk); omega
      · rw [List.mem_range'_1] at hk; omega
    exact dropC_other hk5 hki (by omega)
theorem Pair.set (h : Pair n c o T D m) {i : Nat} (hi : i < n) (x : Nat → Int) : Pair n (updO c (i * 8) x) (updO o (i * 7) x) T D m := by
  have h5 := h.n5
  have hn : ∀ k, k < 500 → updO c (i * 8) x (k * 8 + 7) = c (k * 8 + 7) := fun k hk => updO_out (by omega)
  refine ⟨h.n1, h.n5, ?_, ?_, h.mle, h.nd, h.dlt, h.tk, ?_, ?_, ?_⟩
  · rw [updO_out (by omega)]; exact h.size
  · rw [updO_out (by omega)]; exact h.used
  · intro k hk hT; rw [hn k (by omega)]; exact h.nx k hk hT
  · intro k hk hT j hj
    by_cases e : k = i
    · subst e; rw [updO_in hj, updO_in hj]
    · rw [updO_out (by omega), updO_out (by omega)]; exact h.ord k hk hT j hj
  · rw [updO_out (by omega)]
    refine h.ch.congr fun k hk => hn k ?_
    have := h.mle
    rcases List.mem_append.1 hk with hk | hk
    · have := h.dlt k (by simpa using hk); omega
    · rw [List.mem_range'_1] at hk; omega
theorem chain_new : ∀ (q i n : Nat) (c : Nat → Int), n = i + q → (∀ j, i ≤ j → j < n → c (j * 8 + 7) = if j + 1 < n then ((j + 1 : Nat) : Int) else -1) → Chain c (if i < n then (i : Int) else -1) (List.range' i q)
  | 0, i, n, c, hn, _ => by simp [Chain, hn]
  | q + 1, i, n, c, hn, h => by
    rw [List.range'_succ, if_pos (by omega)]
    refine ⟨rfl, ?_⟩
    rw [h i (Nat.le_refl _) (by omega)]
    exact chain_new q (i + 1) n c (by omega) fun j hj hjn => h j (by omega) hjn
theorem Pair.new (h0 : 1 ≤ n) (h1 : n ≤ 500) : Pair n (newC n) (fun _ => 0) (fun _ => false) [] 0 := by
  have hH := hold_new n h0 h1 []
  refine ⟨h0, h1, hH.size, ?_, Nat.zero_le _, List.nodup_nil, by simp, by simp, by simp, by simp, ?_⟩
  · rw [hH.used]
    have : (List.range n).filter (fun _ => false) = [] := by rw [List.filter_eq_nil_iff]; simp
    simp [cntT, this]
  · have := chain_new n 0 n (newC n) (by omega) fun j hj hjn => hH.high j hj hjn
    rw [hH.free]
    simpa using this
end Go.Proofs.Ytdcjfaplgpeonaa
