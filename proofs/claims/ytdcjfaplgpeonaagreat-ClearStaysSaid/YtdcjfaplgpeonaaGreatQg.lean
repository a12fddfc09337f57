/-
  The price of an auction: plain laws. Nothing of the program stands in it.
-/
import Derived.Test.YtdcjfaplgpeonaaGreatQ3
namespace Go.Proofs.YtdcjfaplgpeonaaGreat

/-- A price, how much it trades, what is left over. -/
structure Pr where
  p : Int
  v : Int
  o : Int
def farI (a b : Int) : Int := max a b - min a b
def LessP (r : Int) (a b : Pr) : Prop := a.v > b.v ∨ (a.v = b.v ∧ (a.o < b.o ∨ (a.o = b.o ∧ (farI a.p r < farI b.p r ∨ (farI a.p r = farI b.p r ∧ a.p < b.p)))))
instance (r : Int) (a b : Pr) : Decidable (LessP r a b) := by unfold LessP; infer_instance
theorem LessP.irr (r : Int) (a : Pr) : ¬ LessP r a a := by unfold LessP; omega
theorem LessP.t {r : Int} {a b c : Pr} (h : LessP r a b) (k : LessP r b c) : LessP r a c := by
  unfold LessP at *
  generalize farI a.p r = x at *
  generalize farI b.p r = y at *
  generalize farI c.p r = z at *
  omega
theorem LessP.tri (r : Int) (a b : Pr) : LessP r a b ∨ a = b ∨ LessP r b a := by
  obtain ⟨ap, av, ao⟩ := a
  obtain ⟨bp, bv, bo⟩ := b
  unfold LessP
  simp only [Pr.mk.injEq]
  by_cases h1 : ap = bp
  · subst h1
    generalize farI ap r = x at *
    omega
  · generalize farI ap r = x at *
    generalize farI bp r = y at *
    omega
/-- -1: the first one is before the second one. -/
def cmpI (x y : Int) : Int := if x < y then -1 else if x > y then 1 else 0
def orI : List Int → Int
  | [] => 0
  | x :: l => if x ≠ 0 then x else orI l
def ordI (r : Int) (a b : Pr) : Int := orI [cmpI b.v a.v, cmpI a.o b.o, cmpI (farI a.p r) (farI b.p r), cmpI a.p b.p]
theorem ordI_less (r : Int) (a b : Pr) : decide (ordI r a b < 0) = decide (LessP r a b) := by
  rw [decide_eq_decide]
  unfold ordI LessP
  generalize farI a.p r = x
  generalize farI b.p r = y
  simp only [orI, cmpI]
  split <;> split <;> (try split) <;> (try split) <;> (try split) <;> (try split) <;> (try split) <;> (try split) <;> omega

def pick1 (r : Int) (b x : Pr) : Pr := if LessP r x b then x else b
def pickL (r : Int) : List Pr → Pr
  | [] => ⟨0, 0, 0⟩
  | x :: l => l.foldl (pick1 r) x
theorem fold_pick (r : Int) : ∀ (l : List Pr) (x : Pr), (l.foldl (pick1 r) x = x ∨ l.foldl (pick1 r) x ∈ l) ∧ ¬ LessP r x (l.foldl (pick1 r) x) ∧ ∀ y ∈ l, ¬ LessP r y (l.foldl (pick1 r) x)
  | [], x => ⟨.inl rfl, LessP.irr r x, by simp⟩
  | z :: l, x => by
    simp only [List.foldl_cons]
    obtain ⟨h1, h2, h3⟩ := fold_pick r l (pick1 r x z)
    have hm : pick1 r x z = x ∨ pick1 r x z = z := by unfold pick1; split <;> simp
    have hz : ¬ LessP r z (pick1 r x z) := by
      unfold pick1; split
      · exact LessP.irr r z
      · assumption
    have hx : ¬ LessP r x (pick1 r x z) := by
      unfold pick1; split
      · rename_i h; exact fun k => LessP.irr r _ (h.t k)
      · exact LessP.irr r x
    have up : ∀ y, ¬ LessP r y (pick1 r x z) → ¬ LessP r y (l.foldl (pick1 r) (pick1 r x z)) := fun y hy k => by
      rcases LessP.tri r y (pick1 r x z) with h | h | h
      · exact hy h
      · subst h; exact h2 k
      · exact h2 (h.t k)
    refine ⟨?_, up x hx, fun y hy => ?_⟩
    · rcases h1 with h1 | h1
      · rcases hm with h | h
        · exact .inl (h1.trans h)
        · exact .inr (by rw [h1, h]; simp)
      · exact .inr (List.mem_cons_of_mem _ h1)
    · rcases List.mem_cons.1 hy with rfl | hy
      · exact up _ hz
      · exact h3 y hy
theorem pickL_mem (r : Int) {l : List Pr} (h : l ≠ []) : pickL r l ∈ l := by
  cases l with
  | nil => exact absurd rfl h
  | cons x l =>
    rcases (fold_pick r l x).1 with h1 | h1
    · show l.foldl (pick1 r) x ∈ _; rw [h1]; simp
    · exact List.mem_cons_of_mem _ h1
theorem pickL_min (r : Int) (l : List Pr) : ∀ y ∈ l, ¬ LessP r y (pickL r l) := by
  cases l with
  | nil => simp
  | cons x l =>
    intro y hy
    obtain ⟨_, h2, h3⟩ := fold_pick r l x
    rcases List.mem_cons.1 hy with rfl | hy
    · exact h2
    · exact h3 y hy
theorem pickL_eq (r : Int) {l : List Pr} {b : Pr} (hb : b ∈ l) (h : ∀ y ∈ l, ¬ LessP r y b) : pickL r l = b := by
  have h1 := pickL_mem r (l := l) (fun e => by rw [e] at hb; simp at hb)
  have h2 := pickL_min r l b hb
  rcases LessP.tri r (pickL r l) b with k | k | k
  · exact absurd k (h _ h1)
  · exact k
  · exact absurd k h2
theorem pickL_app (r : Int) (l : List Pr) (x : Pr) (h : l ≠ []) : pickL r (l ++ [x]) = pick1 r (pickL r l) x := by
  cases l with
  | nil => exact absurd rfl h
  | cons z l => simp [pickL, List.foldl_append]

/-- Rising lists with the same members are the same. -/
theorem rise_eq : ∀ {a b : List Int}, a.Pairwise (· < ·) → b.Pairwise (· < ·) → (∀ q, q ∈ a ↔ q ∈ b) → a = b
  | [], [], _, _, _ => rfl
  | [], y :: b, _, _, h => by have := (h y).2 (by simp); simp at this
  | x :: a, [], _, _, h => by have := (h x).1 (by simp); simp at this
  | x :: a, y :: b, ha, hb, h => by
    rw [List.pairwise_cons] at ha hb
    have hxy : x = y := by
      have h1 := (h x).1 (by simp)
      have h2 := (h y).2 (by simp)
      rw [List.mem_cons] at h1 h2
      rcases h1 with h1 | h1
      · exact h1
      · rcases h2 with h2 | h2
        · exact h2.symm
        · have := ha.1 y h2; have := hb.1 x h1; omega
    subst hxy
    congr 1
    refine rise_eq ha.2 hb.2 fun q => ?_
    have := h q
    rw [List.mem_cons, List.mem_cons] at this
    constructor
    · intro hq
      rcases this.1 (.inr hq) with rfl | h2
      · have := ha.1 q hq; omega
      · exact h2
    · intro hq
      rcases this.2 (.inr hq) with rfl | h2
      · have := hb.1 q hq; omega
      · exact h2

/-- Which prices are allowed: those of the orders in the band, and the nearest one. -/
structure AllowedIs (ps : List Int) (lo hi near : Int) (out : List Int) : Prop where
  rise : out.Pairwise (· < ·)
  all : ∀ q, q ∈ out ↔ (q = near ∨ (lo ≤ q ∧ q ≤ hi ∧ q ∈ ps))
theorem AllowedIs.eq {ps : List Int} {lo hi near : Int} {a b : List Int} (h : AllowedIs ps lo hi near a) (k : AllowedIs ps lo hi near b) : a = b :=
  rise_eq h.rise k.rise (fun q => by rw [h.all, k.all])
theorem AllowedIs.ne {ps : List Int} {lo hi near : Int} {a : List Int} (h : AllowedIs ps lo hi near a) : a ≠ [] := fun e => by
  have := (h.all near).2 (.inl rfl); rw [e] at this; simp at this
def insU (q : Int) : List Int → List Int
  | [] => [q]
  | x :: l => if q < x then q :: x :: l else if q = x then x :: l else x :: insU q l
theorem insU_mem (q : Int) : ∀ (l : List Int) (z : Int), z ∈ insU q l ↔ z = q ∨ z ∈ l
  | [], z => by simp [insU]
  | x :: l, z => by
    unfold insU
    split
    · simp
    · split
      · rename_i h1 h2; subst h2; simp
      · rw [List.mem_cons, insU_mem q l z, List.mem_cons]
        constructor
        · rintro (h | h | h) <;> simp [h]
        · rintro (h | h | h) <;> simp [h]
theorem insU_rise (q : Int) : ∀ (l : List Int), l.Pairwise (· < ·) → (insU q l).Pairwise (· < ·)
  | [], _ => by simp [insU]
  | x :: l, h => by
    unfold insU
    have h' := List.pairwise_cons.1 h
    split
    · rename_i hq
      refine List.pairwise_cons.2 ⟨fun z hz => ?_, h⟩
      rcases List.mem_cons.1 hz with rfl | hz
      · exact hq
      · have := h'.1 z hz; omega
    · split
      · exact h
      · refine List.pairwise_cons.2 ⟨fun z hz => ?_, insU_rise q l h'.2⟩
        rcases (insU_mem q l z).1 hz with rfl | hz
        · omega
        · exact h'.1 z hz
def allowL (ps : List Int) (lo hi near : Int) : List Int := insU near (ps.foldr (fun q acc => if lo ≤ q ∧ q ≤ hi then insU q acc else acc) [])
theorem allowL_is (ps : List Int) (lo hi near : Int) : AllowedIs ps lo hi near (allowL ps lo hi near) := by
  have h1 : ∀ ps : List Int, (ps.foldr (fun q acc => if lo ≤ q ∧ q ≤ hi then insU q acc else acc) []).Pairwise (· < ·) := fun ps => by
    induction ps with
    | nil => simp
    | cons q ps ih =>
      simp only [List.foldr_cons]
      split
      · exact insU_rise q _ ih
      · exact ih
  have h2 : ∀ (ps : List Int) (z : Int), z ∈ ps.foldr (fun q acc => if lo ≤ q ∧ q ≤ hi then insU q acc else acc) [] ↔ lo ≤ z ∧ z ≤ hi ∧ z ∈ ps := fun ps z => by
    induction ps with
    | nil => simp
    | cons q ps ih =>
      simp only [List.foldr_cons]
      split
      · rename_i hq
        rw [insU_mem, ih, List.mem_cons]
        constructor
        · rintro (rfl | h)
          · exact ⟨hq.1, hq.2, .inl rfl⟩
          · exact ⟨h.1, h.2.1, .inr h.2.2⟩
        · rintro ⟨h1, h2, rfl | h3⟩
          · exact .inl rfl
          · exact .inr ⟨h1, h2, h3⟩
      · rename_i hq
        rw [ih, List.mem_cons]
        constructor
        · rintro ⟨h1, h2, h3⟩; exact ⟨h1, h2, .inr h3⟩
        · rintro ⟨h1, h2, rfl | h3⟩
          · exact absurd ⟨h1, h2⟩ hq
          · exact ⟨h1, h2, h3⟩
  exact ⟨insU_rise near _ (h1 ps), fun q => by unfold allowL; rw [insU_mem, h2]⟩

/-- What is chosen of a band that lies within all prices. -/
def prAt (D S : Int → Int) (q : Int) : Pr := ⟨q, min (D q) (S q), max (D q) (S q) - min (D q) (S q)⟩
def nearI (r lo hi : Int) : Int := max (min r hi) lo
def bestL (ps : List Int) (D S : Int → Int) (r lo hi : Int) : Pr := pickL r ((allowL ps lo hi (nearI r lo hi)).map (prAt D S))
def chooseB (ps : List Int) (D S : Int → Int) (r lo hi : Int) : Pr × Bool := if (bestL ps D S r lo hi).v = 0 then (⟨0, 0, 0⟩, false) else (bestL ps D S r lo hi, true)
/-- .. of any band. -/
def chooseL (ps : List Int) (D S : Int → Int) (r lo hi : Int) : Pr × Bool := if min hi 1099511627776 < max lo 1 then (⟨0, 0, 0⟩, false) else chooseB ps D S r (max lo 1) (min hi 1099511627776)
theorem bestL_mem (ps : List Int) (D S : Int → Int) (r lo hi : Int) : ∃ q, (q = nearI r lo hi ∨ (lo ≤ q ∧ q ≤ hi ∧ q ∈ ps)) ∧ bestL ps D S r lo hi = prAt D S q := by
  have h := pickL_mem r (l := (allowL ps lo hi (nearI r lo hi)).map (prAt D S)) (by simpa using (allowL_is ps lo hi _).ne)
  obtain ⟨q, hq, he⟩ := List.mem_map.1 h
  exact ⟨q, ((allowL_is ps lo hi _).all q).1 hq, he.symm⟩
theorem bestL_min (ps : List Int) (D S : Int → Int) (r lo hi q : Int) (h : q = nearI r lo hi ∨ (lo ≤ q ∧ q ≤ hi ∧ q ∈ ps)) : ¬ LessP r (prAt D S q) (bestL ps D S r lo hi) :=
  pickL_min r _ _ (List.mem_map.2 ⟨q, ((allowL_is ps lo hi _).all q).2 h, rfl⟩)

/-- How demand and supply go. -/
structure DSok (ps : List Int) (D S : Int → Int) : Prop where
  d0 : ∀ p, 0 ≤ D p
  s0 : ∀ p, 0 ≤ S p
  dm : ∀ p q, p ≤ q → D q ≤ D p
  sm : ∀ p q, p ≤ q → S p ≤ S q
  dc : ∀ p q, p ≤ q → (∀ x ∈ ps, ¬ (p ≤ x ∧ x < q)) → D p = D q
  sc : ∀ p q, p ≤ q → (∀ x ∈ ps, ¬ (p < x ∧ x ≤ q)) → S p = S q
theorem least_ge (p : Int) : ∀ ps : List Int, (∀ x ∈ ps, ¬ p ≤ x) ∨ ∃ x ∈ ps, p ≤ x ∧ ∀ y ∈ ps, p ≤ y → x ≤ y
  | [] => .inl (by simp)
  | z :: ps => by
    rcases least_ge p ps with h | ⟨x, hx, h1, h2⟩
    · by_cases hz : p ≤ z
      · exact .inr ⟨z, by simp, hz, fun y hy hpy => by
          rcases List.mem_cons.1 hy with rfl | hy
          · exact Int.le_refl _
          · exact absurd hpy (h y hy)⟩
      · exact .inl (fun y hy => by
          rcases List.mem_cons.1 hy with rfl | hy
          · exact hz
          · exact h y hy)
    · by_cases hz : p ≤ z ∧ z < x
      · exact .inr ⟨z, by simp, hz.1, fun y hy hpy => by
          rcases List.mem_cons.1 hy with rfl | hy
          · exact Int.le_refl _
          · have := h2 y hy hpy; omega⟩
      · exact .inr ⟨x, List.mem_cons_of_mem _ hx, h1, fun y hy hpy => by
          rcases List.mem_cons.1 hy with rfl | hy
          · omega
          · exact h2 y hy hpy⟩
theorem most_le (p : Int) : ∀ ps : List Int, (∀ x ∈ ps, ¬ x ≤ p) ∨ ∃ x ∈ ps, x ≤ p ∧ ∀ y ∈ ps, y ≤ p → y ≤ x
  | [] => .inl (by simp)
  | z :: ps => by
    rcases most_le p ps with h | ⟨x, hx, h1, h2⟩
    · by_cases hz : z ≤ p
      · exact .inr ⟨z, by simp, hz, fun y hy hpy => by
          rcases List.mem_cons.1 hy with rfl | hy
          · exact Int.le_refl _
          · exact absurd hpy (h y hy)⟩
      · exact .inl (fun y hy => by
          rcases List.mem_cons.1 hy with rfl | hy
          · exact hz
          · exact h y hy)
    · by_cases hz : z ≤ p ∧ x < z
      · exact .inr ⟨z, by simp, hz.1, fun y hy hpy => by
          rcases List.mem_cons.1 hy with rfl | hy
          · exact Int.le_refl _
          · have := h2 y hy hpy; omega⟩
      · exact .inr ⟨x, List.mem_cons_of_mem _ hx, h1, fun y hy hpy => by
          rcases List.mem_cons.1 hy with rfl | hy
          · omega
          · exact h2 y hy hpy⟩
theorem not_less_v {r : Int} {a b : Pr} (h : ¬ LessP r a b) : a.v ≤ b.v := by unfold LessP at h; omega
/-- No price in the band trades more. -/
theorem most_vol {ps : List Int} {D S : Int → Int} (h : DSok ps D S) {r lo hi p : Int} (h1 : lo ≤ p) (h2 : p ≤ hi) : min (D p) (S p) ≤ (bestL ps D S r lo hi).v := by
  have key : ∀ q, (q = nearI r lo hi ∨ (lo ≤ q ∧ q ≤ hi ∧ q ∈ ps)) → min (D p) (S p) ≤ min (D q) (S q) → min (D p) (S p) ≤ (bestL ps D S r lo hi).v := fun q hq hle => by
    have := not_less_v (bestL_min ps D S r lo hi q hq)
    simp only [prAt] at this
    omega
  by_cases hA : ∃ x ∈ ps, p ≤ x ∧ x ≤ hi
  · obtain ⟨z, hz, hz1, hz2⟩ := hA
    rcases least_ge p ps with hl | ⟨x, hx, hx1, hx2⟩
    · exact absurd hz1 (hl z hz)
    · have hxz := hx2 z hz hz1
      refine key x (.inr ⟨by omega, by omega, hx⟩) ?_
      have e1 := h.dc p x hx1 (fun y hy hk => by have := hx2 y hy hk.1; omega)
      have e2 := h.sm p x hx1
      omega
  · by_cases hB : ∃ x ∈ ps, x ≤ p ∧ lo ≤ x
    · obtain ⟨z, hz, hz1, hz2⟩ := hB
      rcases most_le p ps with hl | ⟨x, hx, hx1, hx2⟩
      · exact absurd hz1 (hl z hz)
      · have hxz := hx2 z hz hz1
        refine key x (.inr ⟨by omega, by omega, hx⟩) ?_
        have e1 := h.sc x p hx1 (fun y hy hk => by have := hx2 y hy hk.2; omega)
        have e2 := h.dm x p hx1
        omega
    · have hno : ∀ x ∈ ps, ¬ (lo ≤ x ∧ x ≤ hi) := fun x hx hk => by
        by_cases hpx : p ≤ x
        · exact hA ⟨x, hx, hpx, hk.2⟩
        · exact hB ⟨x, hx, by omega, hk.1⟩
      refine key _ (.inl rfl) ?_
      have hn1 : lo ≤ nearI r lo hi := by unfold nearI; omega
      have hn2 : nearI r lo hi ≤ hi := by unfold nearI; omega
      generalize nearI r lo hi = n at hn1 hn2
      by_cases hpn : p ≤ n
      · have e1 := h.dc p n hpn (fun y hy hk => hno y hy (by omega))
        have e2 := h.sc p n hpn (fun y hy hk => hno y hy (by omega))
        omega
      · have e1 := h.dc n p (by omega) (fun y hy hk => hno y hy (by omega))
        have e2 := h.sc n p (by omega) (fun y hy hk => hno y hy (by omega))
        omega
theorem band_in {lo hi : Int} (h1 : 1 ≤ lo) (h2 : hi ≤ 1099511627776) (ps : List Int) (D S : Int → Int) (r : Int) : chooseL ps D S r lo hi = if hi < lo then (⟨0, 0, 0⟩, false) else chooseB ps D S r lo hi := by
  unfold chooseL
  rw [show max lo 1 = lo by omega, show min hi 1099511627776 = hi by omega]
/-- ClearMost, plainly. -/
theorem most_no {ps : List Int} {D S : Int → Int} (h : DSok ps D S) {r lo hi p : Int} (h1 : 1 ≤ lo) (h2 : hi ≤ 1099511627776) (h3 : lo ≤ p) (h4 : p ≤ hi) (hn : (chooseL ps D S r lo hi).2 = false) : (chooseL ps D S r lo hi).1 = ⟨0, 0, 0⟩ ∧ min (D p) (S p) = 0 := by
  rw [band_in h1 h2, if_neg (by omega)] at *
  unfold chooseB at *
  by_cases hv : (bestL ps D S r lo hi).v = 0
  · rw [if_pos hv]
    refine ⟨rfl, ?_⟩
    have := most_vol h (r := r) h3 h4
    have := h.d0 p
    have := h.s0 p
    omega
  · rw [if_neg hv] at hn; cases hn
theorem most_yes {ps : List Int} {D S : Int → Int} (h : DSok ps D S) {r lo hi p : Int} (h1 : 1 ≤ lo) (h2 : hi ≤ 1099511627776) (h3 : lo ≤ p) (h4 : p ≤ hi) (hn : (chooseL ps D S r lo hi).2 = true) :
    lo ≤ (chooseL ps D S r lo hi).1.p ∧ (chooseL ps D S r lo hi).1.p ≤ hi ∧ (chooseL ps D S r lo hi).1 = prAt D S (chooseL ps D S r lo hi).1.p ∧ (prAt D S p).v ≤ (chooseL ps D S r lo hi).1.v ∧
    (p ∈ ps → (prAt D S p).v = (chooseL ps D S r lo hi).1.v → (chooseL ps D S r lo hi).1.o ≤ (prAt D S p).o) := by
  rw [band_in h1 h2, if_neg (by omega)] at *
  unfold chooseB at *
  by_cases hv : (bestL ps D S r lo hi).v = 0
  · rw [if_pos hv] at hn; cases hn
  · rw [if_neg hv]
    obtain ⟨q, hq, he⟩ := bestL_mem ps D S r lo hi
    have hn1 : lo ≤ nearI r lo hi := by unfold nearI; omega
    have hn2 : nearI r lo hi ≤ hi := by unfold nearI; omega
    have hm := most_vol h (r := r) h3 h4
    have hp : (bestL ps D S r lo hi).p = q := by rw [he]; rfl
    refine ⟨by simp only [hp]; omega, by simp only [hp]; omega, by simp only [hp]; exact he, by simpa [prAt] using hm, fun hps hvv => ?_⟩
    have := bestL_min ps D S r lo hi p (.inr ⟨h3, h4, hps⟩)
    unfold LessP at this
    simp only at hvv ⊢
    omega
/-- ClearStays, plainly. -/
theorem stays_eq {ps : List Int} {D S : Int → Int} {r lo hi : Int} (h1 : 1 ≤ lo) (h2 : hi ≤ 1099511627776) (h3 : lo ≤ r) (h4 : r ≤ hi) (hn : (chooseL ps D S r 1 1099511627776).2 = true)
    (h5 : lo ≤ (chooseL ps D S r 1 1099511627776).1.p) (h6 : (chooseL ps D S r 1 1099511627776).1.p ≤ hi) : chooseL ps D S r lo hi = chooseL ps D S r 1 1099511627776 := by
  rw [band_in h1 h2, if_neg (by omega)]
  rw [band_in (by omega) (by omega), if_neg (by omega)] at *
  unfold chooseB at *
  by_cases hv : (bestL ps D S r 1 1099511627776).v = 0
  · rw [if_pos hv] at hn; cases hn
  · rw [if_neg hv] at h5 h6 ⊢
    have heq : bestL ps D S r lo hi = bestL ps D S r 1 1099511627776 := by
      obtain ⟨q, hq, he⟩ := bestL_mem ps D S r 1 1099511627776
      have hp : (bestL ps D S r 1 1099511627776).p = q := by rw [he]; rfl
      simp only [hp] at h5 h6
      have hn1 : nearI r lo hi = r := by unfold nearI; omega
      have hn2 : nearI r 1 1099511627776 = r := by unfold nearI; omega
      refine pickL_eq r (List.mem_map.2 ⟨q, ((allowL_is ps lo hi _).all q).2 ?_, he.symm⟩) fun y hy => ?_
      · rcases hq with hq | hq
        · exact .inl (by rw [hn1, hq, hn2])
        · exact .inr ⟨h5, h6, hq.2.2⟩
      · obtain ⟨z, hz, rfl⟩ := List.mem_map.1 hy
        have hz2 := ((allowL_is ps lo hi _).all z).1 hz
        refine bestL_min ps D S r 1 1099511627776 z ?_
        rcases hz2 with hz2 | hz2
        · exact .inl (by rw [hz2, hn1, hn2])
        · exact .inr ⟨by omega, by omega, hz2.2.2⟩
    rw [heq, if_neg hv]
end Go.Proofs.YtdcjfaplgpeonaaGreat

/-
  Which of two prices is before the other one.
-/
namespace Go.Proofs.YtdcjfaplgpeonaaGreat
open Go.RowKit Go.Dm
attribute [local go_sem] Oper.semAt_some

def prV (x : Pr) : Value := .agg #[.int .i64 x.p, .int .i64 x.v, .int .i64 x.o]
def InP (x : Int) : Prop := 0 ≤ x ∧ x ≤ 1099511627776
theorem prBlk {w : World} {b : Nat} {u0 u1 u2 : Value} {t : TypeId} {fr : Nat × Nat} (h : w.heap[b]? = some (.cells #[u0, u1, u2] t fr)) :
    w.cell? ⟨b, 0, none⟩ = some u0 ∧ w.cell? ⟨b, 1, none⟩ = some u1 ∧ w.cell? ⟨b, 2, none⟩ = some u2 := by simp [World.cell?, h]

theorem cell_blk {w : World} {b j : Nat} {cs : Array Value} {t : TypeId} {fr : Nat × Nat} {u : Value} (h : w.heap[b]? = some (.cells cs t fr)) (hj : cs[j]? = some u) : w.cell? ⟨b, j, none⟩ = some u := by simp [World.cell?, h, hj]
theorem nan68 (w : World) (n : Int) : Calls Tryz.prog 68 #[.int .i64 n] w fun e w' => e = .returned (.bool false) ∧ w' = w := by
  have h : (n != n) = false := by simp
  go_enter Tryz.func68, Tryz.ntmps68
  go_wp2
  go_ret
  exact ⟨rfl, rfl⟩
theorem cmp42 (w : World) (x y : Int) : Calls Tryz.prog 42 #[.int .i64 x, .int .i64 y] w fun e w' => e = .returned (.int .i64 (cmpI x y)) ∧ w' = w := by
  unfold cmpI
  by_cases h1 : x < y
  · have t1 : decide (x < y) = true := decide_eq_true h1
    rw [if_pos h1]
    go_enter Tryz.func42, Tryz.ntmps42
    go_wp2_with fail
    refine (nan68 w x).mono ?_
    rintro e w' ⟨rfl, rfl⟩
    go_wp2_with fail
    refine (nan68 _ y).mono ?_
    rintro e w' ⟨rfl, rfl⟩
    go_wp2_with fail
    go_ret
    exact ⟨rfl, rfl⟩
  · have t1 : decide (x < y) = false := decide_eq_false h1
    rw [if_neg h1]
    by_cases h2 : x > y
    · have t2 : decide (x > y) = true := decide_eq_true h2
      rw [if_pos h2]
      go_enter Tryz.func42, Tryz.ntmps42
      go_wp2_with fail
      refine (nan68 w x).mono ?_
      rintro e w' ⟨rfl, rfl⟩
      go_wp2_with fail
      refine (nan68 _ y).mono ?_
      rintro e w' ⟨rfl, rfl⟩
      go_wp2_with fail
      go_ret
      exact ⟨rfl, rfl⟩
    · have t2 : decide (x > y) = false := decide_eq_false h2
      rw [if_neg h2]
      go_enter Tryz.func42, Tryz.ntmps42
      go_wp2_with fail
      refine (nan68 w x).mono ?_
      rintro e w' ⟨rfl, rfl⟩
      go_wp2_with fail
      refine (nan68 _ y).mono ?_
      rintro e w' ⟨rfl, rfl⟩
      go_wp2_with fail
      go_ret
      exact ⟨rfl, rfl⟩
theorem far43 (w : World) (a b : Int) (ha : InP a) (hb : InP b) : Calls Tryz.prog 43 #[.int .i64 a, .int .i64 b] w fun e w' => e = .returned (.int .i64 (farI a b)) ∧ w' = w := by
  obtain ⟨a0, a1⟩ := ha
  obtain ⟨b0, b1⟩ := hb
  by_cases h : a < b
  · have e : farI a b = b - a := by unfold farI; omega
    have t : decide (a < b) = true := decide_eq_true h
    have hw : IntKind.i64.wrap (b - a) = b - a := wrapOk (by omega) (by omega)
    rw [e]
    clear h e a1 b1 a0 b0
    go_enter Tryz.func43, Tryz.ntmps43
    go_wp2
    go_ret
    exact ⟨rfl, rfl⟩
  · have e : farI a b = a - b := by unfold farI; omega
    have t : decide (a < b) = false := decide_eq_false h
    have hw : IntKind.i64.wrap (a - b) = a - b := wrapOk (by omega) (by omega)
    rw [e]
    clear h e a1 b1 a0 b0
    go_enter Tryz.func43, Tryz.ntmps43
    go_wp2
    go_ret
    exact ⟨rfl, rfl⟩
theorem rfar23 (w : World) (a b : Int) (ha : InP a) (hb : InP b) : Calls Tryz.prog 23 #[.int .i64 a, .int .i64 b] w fun e w' => e = .returned (.int .i64 (farI a b)) ∧ w' = w := by
  obtain ⟨a0, a1⟩ := ha
  obtain ⟨b0, b1⟩ := hb
  by_cases h : a < b
  · have H := Lib.hid (show wrap64 (b - a) = farI a b by unfold wrap64 farI; omega)
    clear a0 a1 b0 b1
    go_enter Tryz.func23, Tryz.ntmps23
    go_wp2_with fail
    all_goals (go_ret; first | (rw [← H.out]; exact ⟨rfl, rfl⟩) | (refine ⟨?_, rfl⟩; show Ending.returned (.int .i64 (wrap64 (max a b - min a b))) = _; rw [show max a b - min a b = b - a by omega, H.out]))
  · by_cases h2 : b < a
    · have H := Lib.hid (show wrap64 (a - b) = farI a b by unfold wrap64 farI; omega)
      clear a0 a1 b0 b1
      go_enter Tryz.func23, Tryz.ntmps23
      go_wp2_with fail
      all_goals (go_ret; first | (rw [← H.out]; exact ⟨rfl, rfl⟩) | (refine ⟨?_, rfl⟩; show Ending.returned (.int .i64 (wrap64 (max a b - min a b))) = _; rw [show max a b - min a b = a - b by omega, H.out]))
    · obtain rfl : a = b := by omega
      clear h h2
      have H := Lib.hid (show (0 : Int) = farI a a by unfold farI; omega)
      clear a0 a1 b0 b1
      go_enter Tryz.func23, Tryz.ntmps23
      go_wp2_with fail
      all_goals (go_ret; first | (rw [← H.out]; exact ⟨rfl, rfl⟩) | (refine ⟨?_, rfl⟩; show Ending.returned (.int .i64 (wrap64 (max a a - min a a))) = _; rw [show max a a - min a a = 0 by omega, ← H.out]; rfl))

theorem orI_drop : ∀ (l : List Int) (k : Nat) (x : Int), l[k]? = some x → orI (l.drop k) = if x ≠ 0 then x else orI (l.drop (k + 1))
  | [], k, x, h => by simp at h
  | y :: l, 0, x, h => by simp at h; subst h; simp [orI]
  | y :: l, k + 1, x, h => by simp only [List.getElem?_cons_succ] at h; simpa using orI_drop l k x h

set_option maxRecDepth 100000 in
set_option maxHeartbeats 1000000 in
theorem or41 (w : World) (g c : Nat) (l : List Int) (h : ∀ (k : Nat) (x : Int), l[k]? = some x → w.cell? ⟨g, k, none⟩ = some (.int .i64 x)) (hg : g < w.heap.size) (hl : l.length ≤ 1000) :
    Calls Tryz.prog 41 #[.slice (some ⟨g, 0, none⟩) l.length c] w fun e w' => e = .returned (.int .i64 (orI l)) ∧ w' = w := by
  have HC := Lib.hid h
  clear h
  go_enter Tryz.func41, Tryz.ntmps41
  go_wp2_with fail
  go_loopg [8] (l.length + 1) (fun m i wr => ∃ k : Nat, k ≤ l.length ∧ m = l.length - k + 1 ∧ i = .int .i64 k ∧ orI (l.drop k) = orI l ∧ wr = w)
  case atStart => exact ⟨0, Nat.zero_le _, rfl, rfl, rfl, rfl⟩
  case round =>
    obtain ⟨k, hk, hm, rfl, hor, rfl⟩ := hrel
    have Hm := Lib.hid (And.intro hm hor)
    clear hm hor
    by_cases hlt : k < l.length
    · obtain ⟨x, hx⟩ : ∃ x, l[k]? = some x := ⟨l[k], by simp [hlt]⟩
      have c0 := HC.out k x hx
      have k0 : (0 : Int) ≤ (k : Int) := Int.natCast_nonneg _
      have k1 : (k : Int) < (l.length : Int) := by omega
      have hd := orI_drop l k x hx
      have HX := Lib.hid hd
      clear hx hd
      by_cases hz : x = 0
      · have t : (x != 0) = false := by simpa using hz
        go_wp2_with fail
        go_roundg (l.length - (k + 1) + 1)
        case measure => rw [Hm.out.1]; omega
        case rel => exact ⟨k + 1, by omega, rfl, by go_num, by rw [← Hm.out.2, HX.out]; simp [hz], rfl⟩
      · have t : (x != 0) = true := by simpa using hz
        go_wp2_with fail
        go_ret
        exact ⟨by rw [← Hm.out.2, HX.out]; simp [hz], rfl⟩
    · have hkn : k = l.length := by omega
      subst hkn
      go_wp2_with fail
      go_ret
      have := Hm.out.2
      rw [List.drop_length] at this
      exact ⟨by rw [← this]; rfl, rfl⟩

set_option maxRecDepth 100000 in
set_option maxHeartbeats 4000000 in
theorem order22 (w : World) (a b : Pr) (r : Int) (ha : InP a.p) (hb : InP b.p) (hr : InP r) :
    Calls Tryz.prog 22 #[prV a, prV b, .int .i64 r] w fun e w' => e = .returned (.int .i64 (ordI r a b)) ∧ Chg [] w w' := by
  have b3 := heap_alloc_new w (.cells #[.int .i64 a.p, .int .i64 a.v, .int .i64 a.o] 27)
  have hA1 := Chg.alloc [] w (.cells #[.int .i64 a.p, .int .i64 a.v, .int .i64 a.o] 27)
  have b4 := heap_alloc_new (w.alloc (.cells #[.int .i64 a.p, .int .i64 a.v, .int .i64 a.o] 27)) (.cells #[.int .i64 b.p, .int .i64 b.v, .int .i64 b.o] 27)
  have hA2 := Chg.alloc [] (w.alloc (.cells #[.int .i64 a.p, .int .i64 a.v, .int .i64 a.o] 27)) (.cells #[.int .i64 b.p, .int .i64 b.v, .int .i64 b.o] 27)
  rw [World.size_alloc] at b4
  have b3 := hA2.at_ b3 (by simp)
  have hC0 := hA1.trans hA2
  unfold prV
  go_enter Tryz.func22, Tryz.ntmps22
  go_wp2_with fail
  refine wp_tail 24 (by kernel_rfl) (by kernel_rfl) ?_
  intro W hW
  obtain ⟨x0, x1, x2⟩ := prBlk (hW.at_ b3 (by simp))
  obtain ⟨y0, y1, y2⟩ := prBlk (hW.at_ b4 (by simp))
  have hC := hC0.trans hW
  clear b3 b4 hA1 hA2 hC0 hW
  simp only [List.take_succ_cons, List.take_zero, List.drop_succ_cons, List.drop_zero]
  repeat still_step
  still_call (cmp42 W b.v a.v)
  repeat still_step
  still_call (cmp42 W a.o b.o)
  repeat still_step
  still_call (far43 W a.p r ha hr)
  repeat still_step
  still_call (far43 W b.p r hb hr)
  repeat still_step
  still_call (cmp42 W (farI a.p r) (farI b.p r))
  repeat still_step
  still_call (cmp42 W a.p b.p)
  repeat still_step
  refine wpStill_nil ?_
  have hA3 := Chg.alloc [] W (.cells #[.int .i64 (cmpI b.v a.v), .int .i64 (cmpI a.o b.o), .int .i64 (cmpI (farI a.p r) (farI b.p r)), .int .i64 (cmpI a.p b.p)] 3)
  have b5 := heap_alloc_new W (.cells #[.int .i64 (cmpI b.v a.v), .int .i64 (cmpI a.o b.o), .int .i64 (cmpI (farI a.p r) (farI b.p r)), .int .i64 (cmpI a.p b.p)] 3)
  have hor := or41 _ W.heap.size 4 [cmpI b.v a.v, cmpI a.o b.o, cmpI (farI a.p r) (farI b.p r), cmpI a.p b.p] (fun k x hx => by
    match k, hx with
    | 0, hx => simp at hx; subst hx; exact cell_blk b5 rfl
    | 1, hx => simp at hx; subst hx; exact cell_blk b5 rfl
    | 2, hx => simp at hx; subst hx; exact cell_blk b5 rfl
    | 3, hx => simp at hx; subst hx; exact cell_blk b5 rfl
    | k + 4, hx => simp at hx) (blk_lt b5) (by simp)
  have hC5 := hC.trans hA3
  clear b5 hA3 hC
  go_wp2_with fail
  refine hor.mono ?_
  rintro e w' ⟨rfl, rfl⟩
  go_wp2_with fail
  go_ret
  exact ⟨rfl, hC5⟩

theorem results_pr {fn : Func} {q : Tmp} (h : fn.results = #[.cell q 27]) (tmps : Array Value) (w : World) (g : Nat) (x : Pr)
    (hp : tmps.getD q undef = .pointer (some ⟨g, 0, none⟩)) (hb : w.heap[g]? = some (.cells #[.int .i64 x.p, .int .i64 x.v, .int .i64 x.o] 27 (0, 0))) :
    (results fn tmps).run Tryz.prog w = .ok (prV x) w := by
  have hp' : tmps[q]?.getD undef = .pointer (some ⟨g, 0, none⟩) := by simpa using hp
  simp [results, h, hp', asAddr, run_loadVar_row w g 27 27 _ (0, 0) _ hb Tryz.underlying27 rfl (by kernel_rfl)]
  rfl
theorem less9 (w : World) (a b : Pr) (r : Int) (ha : InP a.p) (hb : InP b.p) (hr : InP r) :
    Calls Tryz.prog 9 #[prV a, prV b, .int .i64 r] w fun e w' => e = .returned (.bool (decide (LessP r a b))) ∧ Chg [] w w' := by
  have hA1 := Chg.alloc [] w (.cells #[.int .i64 a.p, .int .i64 a.v, .int .i64 a.o] 27)
  have hA2 := Chg.alloc [] (w.alloc (.cells #[.int .i64 a.p, .int .i64 a.v, .int .i64 a.o] 27)) (.cells #[.int .i64 b.p, .int .i64 b.v, .int .i64 b.o] 27)
  have hC := hA1.trans hA2
  have ho := order22 ((w.alloc (.cells #[.int .i64 a.p, .int .i64 a.v, .int .i64 a.o] 27)).alloc (.cells #[.int .i64 b.p, .int .i64 b.v, .int .i64 b.o] 27)) a b r ha hb hr
  have HO := Lib.hid (ordI_less r a b)
  unfold prV at *
  clear hA1 hA2
  go_enter Tryz.func9, Tryz.ntmps9
  go_wp2_with fail
  refine ho.mono ?_
  rintro e w' ⟨rfl, hC2⟩
  go_wp2_with fail
  go_ret
  rw [← HO.out]
  exact ⟨rfl, hC.trans hC2⟩
theorem clo35 (w : World) (a b : Pr) (r : Int) (q : Nat) (h : w.heap[q]? = some (.cells #[.int .i64 r] 2 (0, 0))) (ha : InP a.p) (hb : InP b.p) (hr : InP r) :
    Calls Tryz.prog 35 #[prV a, prV b, .pointer (some ⟨q, 0, none⟩)] w fun e w' => e = .returned (.int .i64 (ordI r a b)) ∧ Chg [] w w' := by
  have hA1 := Chg.alloc [] w (.cells #[.int .i64 a.p, .int .i64 a.v, .int .i64 a.o] 27)
  have hA2 := Chg.alloc [] (w.alloc (.cells #[.int .i64 a.p, .int .i64 a.v, .int .i64 a.o] 27)) (.cells #[.int .i64 b.p, .int .i64 b.v, .int .i64 b.o] 27)
  have hC := hA1.trans hA2
  have ho := order22 ((w.alloc (.cells #[.int .i64 a.p, .int .i64 a.v, .int .i64 a.o] 27)).alloc (.cells #[.int .i64 b.p, .int .i64 b.v, .int .i64 b.o] 27)) a b r ha hb hr
  have c0 := blk1 h
  have hq := blk_lt h
  unfold prV at *
  clear hA1 hA2
  go_enter Tryz.func35, Tryz.ntmps35
  go_wp2_with fail
  refine ho.mono ?_
  rintro e w' ⟨rfl, hC2⟩
  go_wp2_with fail
  go_ret
  exact ⟨rfl, hC.trans hC2⟩
theorem own10 (w : World) (a : Pr) : Calls Tryz.prog 10 #[prV a] w fun e w' => e = .returned (prV a) ∧ Chg [] w w' := by
  have hA := Chg.alloc [] w (.cells #[.int .i64 a.p, .int .i64 a.v, .int .i64 a.o] 23)
  have hA2 := Chg.alloc [] (w.alloc (.cells #[.int .i64 a.p, .int .i64 a.v, .int .i64 a.o] 23)) (.cells #[.int .i64 a.p, .int .i64 a.v, .int .i64 a.o] 27)
  have b := heap_alloc_new (w.alloc (.cells #[.int .i64 a.p, .int .i64 a.v, .int .i64 a.o] 23)) (.cells #[.int .i64 a.p, .int .i64 a.v, .int .i64 a.o] 27)
  simp only [World.size_alloc] at b
  have hC := hA.trans hA2
  unfold prV
  go_enter Tryz.func10, Tryz.ntmps10
  go_wp2_with fail
  refine bodyPost_ret (results_pr rfl _ _ (w.heap.size + 1) a rfl b) rfl ?_
  exact ⟨rfl, hC⟩

set_option maxRecDepth 100000 in
set_option maxHeartbeats 4000000 in
theorem rless11 (w : World) (a b : Pr) (r : Int) (ha : InP a.p) (hb : InP b.p) (hr : InP r) :
    Calls Tryz.prog 11 #[prV a, prV b, .int .i64 r] w fun e w' => e = .returned (.bool (decide (LessP r a b))) ∧ Chg [] w w' := by
  have b3 := heap_alloc_new w (.cells #[.int .i64 a.p, .int .i64 a.v, .int .i64 a.o] 23)
  have hA1 := Chg.alloc [] w (.cells #[.int .i64 a.p, .int .i64 a.v, .int .i64 a.o] 23)
  have b4 := heap_alloc_new (w.alloc (.cells #[.int .i64 a.p, .int .i64 a.v, .int .i64 a.o] 23)) (.cells #[.int .i64 b.p, .int .i64 b.v, .int .i64 b.o] 23)
  have hA2 := Chg.alloc [] (w.alloc (.cells #[.int .i64 a.p, .int .i64 a.v, .int .i64 a.o] 23)) (.cells #[.int .i64 b.p, .int .i64 b.v, .int .i64 b.o] 23)
  rw [World.size_alloc] at b4
  have b3 := hA2.at_ b3 (by simp)
  have hC0 := hA1.trans hA2
  obtain ⟨W0, eW0⟩ : ∃ W0, (w.alloc (.cells #[.int .i64 a.p, .int .i64 a.v, .int .i64 a.o] 23)).alloc (.cells #[.int .i64 b.p, .int .i64 b.v, .int .i64 b.o] 23) = W0 := ⟨_, rfl⟩
  have hl : w.heap.size + 1 < W0.heap.size := by rw [← eW0]; simp
  rw [eW0] at b3 b4 hC0
  clear hA1 hA2
  obtain ⟨x0, x1, x2⟩ := prBlk b3
  obtain ⟨y0, y1, y2⟩ := prBlk b4
  obtain ⟨fa, hfa⟩ : ∃ fa, farI a.p r = fa := ⟨_, rfl⟩
  obtain ⟨fb, hfb⟩ : ∃ fb, farI b.p r = fb := ⟨_, rfl⟩
  have fA := fun W => rfar23 W a.p r ha hr
  have fB := fun W => rfar23 W b.p r hb hr
  rw [hfa] at fA
  rw [hfb] at fB
  have HL : LessP r a b ↔ (a.v > b.v ∨ (a.v = b.v ∧ (a.o < b.o ∨ (a.o = b.o ∧ (fa < fb ∨ (fa = fb ∧ a.p < b.p)))))) := by unfold LessP; rw [hfa, hfb]
  have HH := Lib.hid HL
  clear HL hfa hfb
  unfold prV
  by_cases hv : a.v = b.v
  · have t1 : (a.v != b.v) = false := by simpa using hv
    by_cases ho : a.o = b.o
    · have t2 : (a.o != b.o) = false := by simpa using ho
      by_cases hf : fa = fb
      · have t3 : (fa != fb) = false := by simpa using hf
        have hd : decide (LessP r a b) = decide (a.p < b.p) := by rw [decide_eq_decide, HH.out]; omega
        rw [hd]
        clear hd hv ho hf ha hb hr
        go_enter Tryz.func11, Tryz.ntmps11
        go_wp2_with fail
        refine wp_tail 8 (by kernel_rfl) (by kernel_rfl) ?_
        intro W hW
        have x0' := hW.cell x0 (by simp)
        have y0' := hW.cell y0 (by simp)
        clear x0 y0
        simp only [List.take_succ_cons, List.take_zero, List.drop_succ_cons, List.drop_zero]
        repeat still_step
        still_call (fA W)
        repeat still_step
        still_call (fB W)
        repeat still_step
        refine wpStill_nil ?_
        go_wp2_with fail
        go_ret
        exact ⟨rfl, hC0.trans hW⟩
      · have t3 : (fa != fb) = true := by simpa using hf
        have hd : decide (LessP r a b) = decide (fa < fb) := by rw [decide_eq_decide, HH.out]; omega
        rw [hd]
        clear hd hv ho hf ha hb hr
        go_enter Tryz.func11, Tryz.ntmps11
        go_wp2_with fail
        refine wp_tail 8 (by kernel_rfl) (by kernel_rfl) ?_
        intro W hW
        have x0' := hW.cell x0 (by simp)
        have y0' := hW.cell y0 (by simp)
        clear x0 y0
        simp only [List.take_succ_cons, List.take_zero, List.drop_succ_cons, List.drop_zero]
        repeat still_step
        still_call (fA W)
        repeat still_step
        still_call (fB W)
        repeat still_step
        refine wpStill_nil ?_
        go_wp2_with fail
        refine wp_tail 8 (by kernel_rfl) (by kernel_rfl) ?_
        intro W2 hW2
        have x0' := hW2.cell x0' (by simp)
        have y0' := hW2.cell y0' (by simp)
        simp only [List.take_succ_cons, List.take_zero, List.drop_succ_cons, List.drop_zero]
        repeat still_step
        still_call (fA W2)
        repeat still_step
        still_call (fB W2)
        repeat still_step
        refine wpStill_nil ?_
        go_wp2_with fail
        go_ret
        exact ⟨rfl, (hC0.trans hW).trans hW2⟩
    · have t2 : (a.o != b.o) = true := by simpa using ho
      have hd : decide (LessP r a b) = decide (a.o < b.o) := by rw [decide_eq_decide, HH.out]; omega
      rw [hd]
      clear hd hv ho ha hb hr
      go_enter Tryz.func11, Tryz.ntmps11
      go_wp2_with fail
      go_ret
      exact ⟨rfl, hC0⟩
  · have t1 : (a.v != b.v) = true := by simpa using hv
    have hd : decide (LessP r a b) = decide (a.v > b.v) := by rw [decide_eq_decide, HH.out]; omega
    rw [hd]
    clear hd hv ha hb hr
    go_enter Tryz.func11, Tryz.ntmps11
    go_wp2_with fail
    go_ret
    exact ⟨rfl, hC0⟩

set_option maxHeartbeats 1000000 in
/-- Are these spoken of? -/
theorem priced7 (w : World) (g c : Nat) (l : List Int) (h : ∀ (k : Nat) (x : Int), l[k]? = some x → w.cell? ⟨g, k, none⟩ = some (.int .i64 x)) (hg : g < w.heap.size) (hl : l.length ≤ 1000) :
    Calls Tryz.prog 7 #[.slice (some ⟨g, 0, none⟩) l.length c] w fun e w' => e = .returned (.bool (l.all (fun x => decide (0 ≤ x) && decide (x ≤ 1099511627776)))) ∧ w' = w := by
  have HC := Lib.hid h
  clear h
  go_enter Tryz.func7, Tryz.ntmps7
  go_wp2_with fail
  go_loopg [3] (l.length + 1) (fun m i wr => ∃ k : Nat, k ≤ l.length ∧ m = l.length - k + 1 ∧ i = .int .i64 k ∧ (∀ j x, j < k → l[j]? = some x → 0 ≤ x ∧ x ≤ 1099511627776) ∧ wr = w)
  case atStart => exact ⟨0, Nat.zero_le _, rfl, rfl, fun j x hj => by omega, rfl⟩
  case round =>
    obtain ⟨k, hk, hm, rfl, hall, rfl⟩ := hrel
    have Hm := Lib.hid (And.intro hm hall)
    clear hm hall
    by_cases hlt : k < l.length
    · obtain ⟨x, hx⟩ : ∃ x, l[k]? = some x := ⟨l[k], by simp [hlt]⟩
      have c0 := HC.out k x hx
      have k0 : (0 : Int) ≤ (k : Int) := Int.natCast_nonneg _
      have k1 : (k : Int) < (l.length : Int) := by omega
      have HX := Lib.hid hx
      clear hx
      have no : ¬ (0 ≤ x ∧ x ≤ 1099511627776) → l.all (fun x => decide (0 ≤ x) && decide (x ≤ 1099511627776)) = false := fun hb => by
        rw [List.all_eq_false]
        refine ⟨x, List.mem_of_getElem? HX.out, ?_⟩
        simp only [Bool.and_eq_true, decide_eq_true_eq]
        exact hb
      have NO := Lib.hid no
      clear no
      by_cases h1 : x < 0
      · have t1 : decide (x < 0) = true := decide_eq_true h1
        have HN := Lib.hid (NO.out (by omega))
        clear h1
        go_wp2_with fail
        go_ret
        rw [HN.out]
        exact ⟨rfl, rfl⟩
      · have t1 : decide (x < 0) = false := decide_eq_false h1
        by_cases h2 : x > 1099511627776
        · have t2 : decide (x > 1099511627776) = true := decide_eq_true h2
          have HN := Lib.hid (NO.out (by omega))
          clear h1 h2
          go_wp2_with fail
          go_ret
          rw [HN.out]
          exact ⟨rfl, rfl⟩
        · have t2 : decide (x > 1099511627776) = false := decide_eq_false h2
          have HN := Lib.hid (show 0 ≤ x ∧ x ≤ 1099511627776 by omega)
          clear h1 h2
          go_wp2_with fail
          go_roundg (l.length - (k + 1) + 1)
          case measure => rw [Hm.out.1]; omega
          case rel =>
            refine ⟨k + 1, by omega, rfl, by go_num, fun j y hj hy => ?_, rfl⟩
            by_cases e : j = k
            · subst e; rw [HX.out] at hy; cases hy; exact HN.out
            · exact Hm.out.2 j y (by omega) hy
    · have hkn : k = l.length := by omega
      subst hkn
      go_wp2_with fail
      go_ret
      have : l.all (fun x => decide (0 ≤ x) && decide (x ≤ 1099511627776)) = true := by
        rw [List.all_eq_true]
        intro x hx
        obtain ⟨j, hj⟩ := List.mem_iff_getElem?.1 hx
        have := Hm.out.2 j x (List.getElem?_eq_some_iff.1 hj).1 hj
        simp only [Bool.and_eq_true, decide_eq_true_eq]
        exact this
      rw [this]
      exact ⟨rfl, rfl⟩
end Go.Proofs.YtdcjfaplgpeonaaGreat
