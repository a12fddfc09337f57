/-
  What Each hands of the pool's book.
-/
import Derived.Test.YtdcjfaplgpeonaaVb
namespace Go.Proofs.Ytdcjfaplgpeonaa
open Go.RowKit Go.Dm
attribute [local go_sem] Oper.semAt_some

/-- The slots of a side, in the order in which Each hands them. -/
def slX (lv0 lv1 : List Lvl) (s : Nat) : List Nat := if s = 0 then lv0.flatMap (·.s) else lv1.flatMap (·.s)
theorem each_pb {w : World} {D : Nat} {B : Bkb} {L : List Ord} {lv0 lv1 : List Lvl} {v0 v1 : Value} (h : PB w D B L lv0 lv1 v0 v1) (hlen : L.length ≤ 60) : EachIs w (some ⟨B.b, 0, none⟩) L (slX lv0 lv1) := by
  intro s W bx by_ T m hs hm hC hbx hby hT
  have hn : ∀ k, k < w.heap.size → k ∉ T := fun k hk hm => by have := hT k hm; omega
  obtain ⟨c, hca, hch⟩ := h.ar
  have lb := h.bc0.kind.lt
  have la := hca.lt
  rcases (by omega : s = 0 ∨ s = 1) with rfl | rfl
  · obtain ⟨nf, ef, ff, _⟩ := h.s0.ff
    have hI : It87 W bx by_ B.b 1 B.ar B.x B.s0 0 D L lv0 v0 c := ⟨hbx, hby, h.bc0.chg hC (by simp), h.s0.chg hC (by simp) (by simp) (by simp) (by simp) (by simp), hca.chg hC (by simp)⟩
    exact iter87 m hm W bx by_ B.b 1 B.ar B.x B.s0 0 D L lv0 v0 c hI (fun w => of79_0 w B.b) hch hlen T (hn _ lb) (hn _ la) (hn _ (blk_lt ff.blk)) (hn _ ff.nds.lt) (hn _ ff.eds.lt) (hn _ (blk_lt h.s0.ld)) (fun g hg => hn _ (h.s0.sl.lt hg))
  · obtain ⟨nf, ef, ff, _⟩ := h.s1.ff
    have hI : It87 W bx by_ B.b 3 B.ar B.x B.s1 1 D L lv1 v1 c := ⟨hbx, hby, h.bc1.chg hC (by simp), h.s1.chg hC (by simp) (by simp) (by simp) (by simp) (by simp), hca.chg hC (by simp)⟩
    exact iter87 m hm W bx by_ B.b 3 B.ar B.x B.s1 1 D L lv1 v1 c hI (fun w => of79_1 w B.b) hch hlen T (hn _ lb) (hn _ la) (hn _ (blk_lt ff.blk)) (hn _ ff.nds.lt) (hn _ ff.eds.lt) (hn _ (blk_lt h.s1.ld)) (fun g hg => hn _ (h.s1.sl.lt hg))
end Go.Proofs.Ytdcjfaplgpeonaa
