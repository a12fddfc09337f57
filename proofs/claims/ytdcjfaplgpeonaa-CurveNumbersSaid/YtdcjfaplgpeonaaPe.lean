/-
  The program's book: Add, whatever the order; a new book.
-/
import Derived.Test.YtdcjfaplgpeonaaPd
namespace Go.Proofs.Ytdcjfaplgpeonaa
open Go.RowKit Go.Dm

theorem other_side {w w' : World} {D ar m1 m2 : Nat} {S S' : Sdb} {sd' : Int} {L : List Ord} {lv : List Lvl} {v v' : Value} {o : Ord} (h : SdAt w D sd' S' L lv v') (hC : Chg (ar :: m1 :: m2 :: S.l :: S.n :: S.e :: ownL v) w w')
    (Ka : KindIs w ar 115) (K1 : MapIs w m1) (K2 : MapIs w m2) (Kl : KindIs w S.l 179) (Kn : KindIs w S.n 185) (Ke : KindIs w S.e 188) (Kv : ∀ k ∈ ownL v, KindIs w k 167)
    (al : S'.l ≠ S.l) (an : S'.n ≠ S.n) (ae : S'.e ≠ S.e) (av : ∀ g, v'.ownBlock = some g → v.ownBlock ≠ some g) (ho : o 2 ≠ sd') : SdAt w' D sd' S' (L ++ [o]) lv v' := by
  obtain ⟨nf, ef, hf, hq⟩ := h.ff
  have L1 : KindIs w S'.l 179 := ⟨_, h.ld⟩
  have L2 : KindIs w S'.q 183 := ⟨_, hf.blk⟩
  have L3 := hf.nds.kind
  have L4 := hf.eds.kind
  have own : ∀ {z t : Nat}, KindIs w z t → t ≠ 167 → z ∉ ownL v := fun hz ht hm => hz.ne (Kv _ hm) ht rfl
  have h2 := h.chg hC (by simpa using ⟨L1.ne Ka (by decide), L1.ne' K1, L1.ne' K2, al, L1.ne Kn (by decide), L1.ne Ke (by decide), own L1 (by decide)⟩)
    (by simpa using ⟨L2.ne Ka (by decide), L2.ne' K1, L2.ne' K2, L2.ne Kl (by decide), L2.ne Kn (by decide), L2.ne Ke (by decide), own L2 (by decide)⟩)
    (by simpa using ⟨L3.ne Ka (by decide), L3.ne' K1, L3.ne' K2, L3.ne Kl (by decide), an, L3.ne Ke (by decide), own L3 (by decide)⟩)
    (by simpa using ⟨L4.ne Ka (by decide), L4.ne' K1, L4.ne' K2, L4.ne Kl (by decide), L4.ne Kn (by decide), ae, own L4 (by decide)⟩)
    (fun g hg => by
      have Lg := h.sl.kind hg
      have hn : g ∉ ownL v := fun hm => av g hg (by simpa [ownL] using hm)
      simpa using ⟨Lg.ne Ka (by decide), Lg.ne' K1, Lg.ne' K2, Lg.ne Kl (by decide), Lg.ne Kn (by decide), Lg.ne Ke (by decide), hn⟩)
  obtain ⟨nf2, ef2, hf2, hq2⟩ := h2.ff
  exact ⟨h2.ld, h2.sl, h2.fr, ⟨nf2, ef2, hf2, by rw [List.length_append]; exact qs_other hq2⟩, ok_other h2.ok ho, h2.dl, h2.dq, h2.dn, h2.de⟩

/-- What Add may touch: blocks of the book, none of them the reference's. -/
def Touch (D : Nat) (w w' : World) : Prop := ∃ T, Chg T w w' ∧ ∀ k ∈ T, D ≤ k ∧ k < w.heap.size ∧ ¬ KindIs w k 52 ∧ ¬ KindIs w k 127
theorem Touch.of_nil {D : Nat} {w w' : World} (h : Chg [] w w') : Touch D w w' := ⟨[], h, by simp⟩
theorem Touch.below {D : Nat} {w w' : World} (h : Touch D w w') (hD : D ≤ w.heap.size) : Below D w w' := by
  obtain ⟨T, hC, hT⟩ := h
  exact hC.below hD (fun k hk => (hT k hk).1)
theorem KindIs.lt {w : World} {k t : Nat} (h : KindIs w k t) : k < w.heap.size := by obtain ⟨_, h⟩ := h; exact blk_lt h
theorem MapIs.lt {w : World} {k : Nat} (h : MapIs w k) : k < w.heap.size := by obtain ⟨_, _, h⟩ := h; exact blk_lt h
theorem KindIs.not {w : World} {k t u : Nat} (h : KindIs w k t) (hn : t ≠ u) : ¬ KindIs w k u := fun h2 => h.ne h2 hn rfl
theorem MapIs.not {w : World} {k u : Nat} (h : MapIs w k) : ¬ KindIs w k u := fun h2 => h2.ne' h rfl

theorem touch_of {w w' : World} {D ar m1 m2 : Nat} {S : Sdb} {sd : Int} {L : List Ord} {lv : List Lvl} {v : Value} (h : SdAt w D sd S L lv v) (hC : Chg (ar :: m1 :: m2 :: S.l :: S.n :: S.e :: ownL v) w w')
    (Ka : KindIs w ar 115) (K1 : MapIs w m1) (K2 : MapIs w m2) (da : D ≤ ar) (d1 : D ≤ m1) (d2 : D ≤ m2) : Touch D w w' := by
  obtain ⟨nf, ef, hf, hq⟩ := h.ff
  have Kl : KindIs w S.l 179 := ⟨_, h.ld⟩
  refine ⟨_, hC, fun k hk => ?_⟩
  simp only [List.mem_cons] at hk
  rcases hk with rfl | rfl | rfl | rfl | rfl | rfl | hk
  · exact ⟨da, Ka.lt, Ka.not (by decide), Ka.not (by decide)⟩
  · exact ⟨d1, K1.lt, K1.not, K1.not⟩
  · exact ⟨d2, K2.lt, K2.not, K2.not⟩
  · exact ⟨h.dl, Kl.lt, Kl.not (by decide), Kl.not (by decide)⟩
  · exact ⟨h.dn, hf.nds.kind.lt, hf.nds.kind.not (by decide), hf.nds.kind.not (by decide)⟩
  · exact ⟨h.de, hf.eds.kind.lt, hf.eds.kind.not (by decide), hf.eds.kind.not (by decide)⟩
  · have Kv := h.sl.kind (g := k) (by simpa [ownL] using hk)
    exact ⟨h.fr k (by simpa [ownL] using hk), Kv.lt, Kv.not (by decide), Kv.not (by decide)⟩

theorem badd (w : World) (D : Nat) (B : Bkb) (L : List Ord) (lv0 lv1 : List Lvl) (v0 v1 : Value) (h : PB w D B L lv0 lv1 v0 v1) (hD : D ≤ w.heap.size) (hlen : L.length < 60) (o : Ord) :
    Calls Try.prog 66 #[.pointer (some ⟨B.b, 0, none⟩), oV o] w fun e w' => (∃ n : Int, e = .returned (.int .i64 n)) ∧ (∃ lv0' lv1' v0' v1', PB w' D B (addL L o) lv0' lv1' v0' v1') ∧ Touch D w w' := by
  obtain ⟨c, hA, hH⟩ := h.ar
  obtain ⟨il, hX, hI, hl⟩ := h.ix
  have no : ∀ n : Int, takes L o = false → ∀ e w', (e = Ending.returned (.int .i64 n) ∧ Chg [] w w') → (∃ n : Int, e = .returned (.int .i64 n)) ∧ (∃ lv0' lv1' v0' v1', PB w' D B (addL L o) lv0' lv1' v0' v1') ∧ Touch D w w' := by
    rintro n ht e w' ⟨rfl, hC⟩
    have : addL L o = L := by simp [addL, ht]
    rw [this]
    exact ⟨⟨_, rfl⟩, ⟨_, _, _, _, h.apart hC⟩, Touch.of_nil hC⟩
  by_cases h0 : o 2 = 0 ∨ o 2 = 1
  · have hof : ∃ off, OfIs B.b off (o 2) := by
      rcases h0 with h0 | h0
      · exact ⟨1, fun w => by rw [h0]; exact of79_0 w B.b⟩
      · exact ⟨3, fun w => by rw [h0]; exact of79_1 w B.b⟩
    by_cases hrg : (o 3 < 1 ∨ o 3 > 1099511627776) ∨ (o 4 < 1 ∨ o 4 > 4294967296)
    · obtain ⟨off, hof⟩ := hof
      exact (badd_range w B.b off (o 2) hof o rfl hrg).mono (no 9 (by simp [takes, okO]; omega))
    · have hok : okO o = true := by simp [okO]; omega
      by_cases hid : hasId L (o 0) = true
      · have hid2 : (mLook il (0, o 0)).isSome = true := by rw [hI]; exact hid
        have ht : takes L o = false := by simp [takes, hid]
        rcases h0 with h0 | h0
        · exact (badd_twice w B.b 1 B.ar B.x B.m1 B.m2 B.s0 (o 2) h.bc0 (fun w => by rw [h0]; exact of79_0 w B.b) il hX o rfl hok hid2).mono (no 6 ht)
        · exact (badd_twice w B.b 3 B.ar B.x B.m1 B.m2 B.s1 (o 2) h.bc1 (fun w => by rw [h0]; exact of79_1 w B.b) il hX o rfl hok hid2).mono (no 6 ht)
      · have hid' : hasId L (o 0) = false := by simpa using hid
        have ht : addL L o = L ++ [o] := by simp [addL, takes, hok, hid']
        rw [ht]
        have Ka := hA.kind
        have K1 := hX.map1
        have K2 := hX.map2
        rcases h0 with h0 | h0
        · obtain ⟨nf, ef, hf, _⟩ := h.s0.ff
          have Kl : KindIs w B.s0.l 179 := ⟨_, h.s0.ld⟩
          have Kv : ∀ k ∈ ownL v0, KindIs w k 167 := fun k hk => h.s0.sl.kind (by simpa [ownL] using hk)
          refine (badd_yes w B.b 1 B.ar B.x B.m1 B.m2 B.s0 0 h.bc0 (fun w => of79_0 w B.b) D hD L lv0 v0 h.s0 hlen c hA hH il hX hI hl o h0 hok hid').mono ?_
          rintro e w' ⟨rfl, A⟩
          obtain ⟨lv', v', hs, hv⟩ := A.hsd
          have hs1 := other_side h.s1 A.hch Ka K1 K2 Kl hf.nds.kind hf.eds.kind Kv (Ne.symm h.al) (Ne.symm h.an) (Ne.symm h.ae) (fun g hg e => h.av g e hg) (o := o) (by omega)
          have hbk := A.hch.at_ h.blk (by
            have Kb : KindIs w B.b 151 := ⟨_, h.blk⟩
            simpa using ⟨Kb.ne Ka (by decide), Kb.ne' K1, Kb.ne' K2, Kb.ne Kl (by decide), Kb.ne hf.nds.kind (by decide), Kb.ne hf.eds.kind (by decide), fun hm => Kb.ne (Kv _ hm) (by decide) rfl⟩)
          refine ⟨⟨_, rfl⟩, ⟨lv', lv1, v', v1, hbk, A.har, A.hix, hs, hs1, h.al, h.aq, h.an, h.ae, fun g hg e => ?_, h.db, h.da, h.dx, h.d1, h.d2⟩, touch_of h.s0 A.hch Ka K1 K2 h.da h.d1 h.d2⟩
          rcases hv with hv | ⟨g', hv, hg'⟩
          · exact h.av g (hv ▸ hg) e
          · rw [hv] at hg; cases hg
            have := h.s1.sl.lt e
            omega
        · obtain ⟨nf, ef, hf, _⟩ := h.s1.ff
          have Kl : KindIs w B.s1.l 179 := ⟨_, h.s1.ld⟩
          have Kv : ∀ k ∈ ownL v1, KindIs w k 167 := fun k hk => h.s1.sl.kind (by simpa [ownL] using hk)
          refine (badd_yes w B.b 3 B.ar B.x B.m1 B.m2 B.s1 1 h.bc1 (fun w => of79_1 w B.b) D hD L lv1 v1 h.s1 hlen c hA hH il hX hI hl o h0 hok hid').mono ?_
          rintro e w' ⟨rfl, A⟩
          obtain ⟨lv', v', hs, hv⟩ := A.hsd
          have hs1 := other_side h.s0 A.hch Ka K1 K2 Kl hf.nds.kind hf.eds.kind Kv h.al h.an h.ae h.av (o := o) (by omega)
          have hbk := A.hch.at_ h.blk (by
            have Kb : KindIs w B.b 151 := ⟨_, h.blk⟩
            simpa using ⟨Kb.ne Ka (by decide), Kb.ne' K1, Kb.ne' K2, Kb.ne Kl (by decide), Kb.ne hf.nds.kind (by decide), Kb.ne hf.eds.kind (by decide), fun hm => Kb.ne (Kv _ hm) (by decide) rfl⟩)
          refine ⟨⟨_, rfl⟩, ⟨lv0, lv', v0, v', hbk, A.har, A.hix, hs1, hs, h.al, h.aq, h.an, h.ae, fun g hg e => ?_, h.db, h.da, h.dx, h.d1, h.d2⟩, touch_of h.s1 A.hch Ka K1 K2 h.da h.d1 h.d2⟩
          rcases hv with hv | ⟨g', hv, hg'⟩
          · exact h.av g hg (hv ▸ e)
          · rw [hv] at e; cases e
            have := h.s0.sl.lt hg
            omega
  · refine (badd_side w B.b o (fun e => h0 (.inl e)) (fun e => h0 (.inr e))).mono (no 1 (by simp [takes, okO]; omega))
end Go.Proofs.Ytdcjfaplgpeonaa
