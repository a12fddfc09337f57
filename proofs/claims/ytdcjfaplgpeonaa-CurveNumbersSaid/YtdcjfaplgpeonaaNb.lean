/-
  The ladder: the least free queue; sums.
-/
import Derived.Test.YtdcjfaplgpeonaaNa
import Derived.WalkSmall
import Derived.Laws.Bits64b
namespace Go.Proofs.Ytdcjfaplgpeonaa
open Go.RowKit Go.Dm

/-- The bits of k queues. -/
def ones (k : Nat) : Nat := 2 ^ k - 1

theorem ones_div {k j : Nat} (h : j ≤ k) : ones k / 2 ^ j = 2 ^ (k - j) - 1 := by
  unfold ones
  have e : 2 ^ k = 2 ^ j * 2 ^ (k - j) := by rw [← Nat.pow_add]; congr 1; omega
  have hp : 0 < 2 ^ j := Nat.pow_pos (by omega)
  have hq : 0 < 2 ^ (k - j) := Nat.pow_pos (by omega)
  rw [e]
  generalize 2 ^ j = a at *
  generalize 2 ^ (k - j) = b at *
  obtain ⟨b', rfl⟩ : ∃ b', b = b' + 1 := ⟨b - 1, by omega⟩
  rw [Nat.mul_add, Nat.mul_one, Nat.add_sub_assoc (by omega), Nat.add_sub_cancel, Nat.mul_add_div hp, Nat.div_eq_of_lt (by omega)]
  rfl
theorem ones_lt {k : Nat} (h : k < 60) : ones k < 2 ^ 60 := by
  have : 2 ^ k < 2 ^ 60 := Nat.pow_lt_pow_right (by omega) h
  unfold ones; omega
theorem bit_yes {k j : Nat} (hk : k < 60) (h : j < k) : bits BinOp.and IntKind.u64 ((ones k : Int) / 2 ^ j) 1 = 1 := by
  have e : ((ones k : Int) / 2 ^ j) = ((2 ^ (k - j) - 1 : Nat) : Int) := by
    rw [← ones_div (by omega : j ≤ k)]; push_cast; rfl
  have hl : 2 ^ (k - j) ≤ 2 ^ 60 := Nat.pow_le_pow_right (by omega) (by omega)
  have hq : 2 ^ (k - j) = 2 * 2 ^ (k - j - 1) := by rw [← Nat.pow_succ']; congr 1; omega
  have hp : 0 < 2 ^ (k - j - 1) := Nat.pow_pos (by omega)
  rw [e, and_one_u64 _ (by omega) (by omega)]
  omega
theorem bit_no {k : Nat} (_hk : k < 60) : bits BinOp.and IntKind.u64 ((ones k : Int) / 2 ^ k) 1 = 0 := by
  have e : ((ones k : Int) / 2 ^ k) = 0 := by
    have h := ones_div (Nat.le_refl k)
    have : ((ones k / 2 ^ k : Nat) : Int) = 0 := by rw [h]; simp
    rw [← this]; push_cast; rfl
  rw [e, and_one_u64 _ (by omega) (by omega)]
  rfl
theorem ones_or (k : Nat) : ones k ||| 2 ^ k = ones (k + 1) := by
  unfold ones
  apply Nat.eq_of_testBit_eq
  intro i
  rw [Nat.testBit_or, Nat.testBit_two_pow_sub_one, Nat.testBit_two_pow, Nat.testBit_two_pow_sub_one]
  rw [Bool.eq_iff_iff]
  simp
  omega
theorem or_bit {k : Nat} (hk : k < 60) : bits BinOp.or IntKind.u64 (ones k : Int) (IntKind.u64.wrap (2 ^ k)) = (ones (k + 1) : Int) := by
  have h2 : 2 ^ k < 2 ^ 60 := Nat.pow_lt_pow_right (by omega) hk
  have e : IntKind.u64.wrap ((2 : Int) ^ k) = ((2 ^ k : Nat) : Int) := by
    rw [IntKind.wrap_u64]
    have : ((2 : Int) ^ k) = ((2 ^ k : Nat) : Int) := by push_cast; rfl
    rw [this]
    revert h2
    generalize (2 ^ k : Nat) = m
    intro h2
    omega
  have := ones_lt hk
  rw [e, bits_or_u64_nat _ _ (by omega) (by omega), ones_or]

set_option maxRecDepth 100000 in
set_option maxHeartbeats 2000000 in
theorem queue99 (w : World) (r : Nat) (sd : Int) (v : Value) (k : Nat) (hk : k < 60) (h : LdBlk w r sd v (ones k)) :
    Calls Try.prog 99 #[.pointer (some ⟨r, 0, none⟩)] w fun e w' => e = .returned (.int .i64 k) ∧ LdBlk w' r sd v (ones (k + 1)) ∧ Chg [r] w w' := by
  obtain ⟨c0, c1, c2, c3, c4, c5, c6⟩ := blk7v h
  have k0 : (0 : Int) ≤ (k : Int) := Int.natCast_nonneg _
  have k1 : (k : Int) < 60 := by omega
  have f3 : w.frozen? ⟨r, 3, none⟩ = false := by simp [World.frozen?, show w.heap[r]? = _ from h]
  have hr := blk_lt (show w.heap[r]? = _ from h)
  have t1 : ((ones k : Int) == 18446744073709551615) = false := by
    rw [beq_eq_false_iff_ne]
    have : 2 ^ k < 2 ^ 60 := Nat.pow_lt_pow_right (by omega) hk
    unfold ones
    omega
  go_enter Try.func99, Try.ntmps99
  go_wp2_with fail
  go_loopg [6] 1 (fun m i wr => i = .int .i64 0 ∧ wr = w)
  case atStart => exact ⟨rfl, rfl⟩
  case round =>
    obtain ⟨rfl, rfl⟩ := hrel
    obtain ⟨wo, rfl⟩ : ∃ wo : World, wo = wr := ⟨_, rfl⟩
    go_wp2_with fail
    go_loopg [5] (k + 1) (fun m b wr => ∃ j : Nat, j ≤ k ∧ m = k - j + 1 ∧ b = .int .i64 j ∧ wr = wo)
    case atStart => exact ⟨0, Nat.zero_le _, rfl, rfl, rfl⟩
    case round =>
      obtain ⟨j, hj, hm, rfl, rfl⟩ := hrel
      have Hm := Lib.hid hm
      clear hm
      have j0 : (0 : Int) ≤ (j : Int) := Int.natCast_nonneg _
      have j1 : (j : Int) < 64 := by omega
      by_cases hjk : j < k
      · have hb := bit_yes hk hjk
        have t2 : ((1 : Int) == 1) = true := rfl
        clear hj
        go_wp2_with fail
        go_roundg (k - (j + 1) + 1)
        case measure => rw [Hm.out]; omega
        case rel => exact ⟨j + 1, by omega, rfl, by go_num, rfl⟩
      · have hjk2 : j = k := by omega
        subst hjk2
        have hb := bit_no hk
        have hor := or_bit hk
        go_wp2_with fail
        refine wp_tail 11 (by kernel_rfl) (by kernel_rfl) ?_
        intro W hW
        have c3 := hW.cell c3 (by simp)
        have f3 : W.frozen? ⟨r, 3, none⟩ = false := by simp [World.frozen?, hW.at_ (show wr.heap[r]? = _ from h) (by simp)]
        have hr := blk_lt (hW.at_ (show wr.heap[r]? = _ from h) (by simp))
        have h2 := hW.at_ (show wr.heap[r]? = _ from h) (by simp)
        simp only [List.take_succ_cons, List.take_zero, List.drop_succ_cons, List.drop_zero]
        repeat still_step
        refine wpStill_nil ?_
        clear c0 c1 c2 c4 c5 c6
        have H := Lib.hid (And.intro h2 hW)
        clear h2 hW h
        go_wp2
        go_ret
        refine ⟨rfl, ?_, H.out.2.nil.trans (Chg.setCell W _ _ (by simp))⟩
        unfold LdBlk
        rw [blk_set H.out.1]
        simp

theorem xor_i64 (a b : Nat) (ha : a < 2 ^ 62) (hb : b < 2 ^ 62) : bits .xor .i64 (a : Int) (b : Int) = ((a ^^^ b : Nat) : Int) ∧ a ^^^ b < 2 ^ 62 := by
  have hx : a ^^^ b < 2 ^ 62 := Nat.xor_lt_two_pow ha hb
  have h1 : (BitVec.ofInt 64 (a : Int)).toNat = a := by
    rw [BitVec.ofInt_natCast, BitVec.toNat_ofNat]; exact Nat.mod_eq_of_lt (by omega)
  have h2 : (BitVec.ofInt 64 (b : Int)).toNat = b := by
    rw [BitVec.ofInt_natCast, BitVec.toNat_ofNat]; exact Nat.mod_eq_of_lt (by omega)
  refine ⟨?_, hx⟩
  show IntKind.i64.wrap ((BitVec.ofInt 64 (a : Int) ^^^ BitVec.ofInt 64 (b : Int)).toNat : Int) = _
  rw [BitVec.toNat_xor, h1, h2]
  exact IntWalk.i64_in _ (by omega)
theorem and_i64 (a b : Nat) (ha : a < 2 ^ 62) (hb : b < 2 ^ 62) : bits .and .i64 (a : Int) (b : Int) = ((a &&& b : Nat) : Int) := by
  have hx : a &&& b < 2 ^ 62 := Nat.and_lt_two_pow _ hb
  have h1 : (BitVec.ofInt 64 (a : Int)).toNat = a := by
    rw [BitVec.ofInt_natCast, BitVec.toNat_ofNat]; exact Nat.mod_eq_of_lt (by omega)
  have h2 : (BitVec.ofInt 64 (b : Int)).toNat = b := by
    rw [BitVec.ofInt_natCast, BitVec.toNat_ofNat]; exact Nat.mod_eq_of_lt (by omega)
  show IntKind.i64.wrap ((BitVec.ofInt 64 (a : Int) &&& BitVec.ofInt 64 (b : Int)).toNat : Int) = _
  rw [BitVec.toNat_and, h1, h2]
  exact IntWalk.i64_in _ (by omega)
theorem no_over (a b : Int) (ha : 0 ≤ a) (hb : 0 ≤ b) (ha2 : a ≤ 1000000000000) (hb2 : b ≤ 1000000000000) :
    decide (bits BinOp.and IntKind.i64 (bits BinOp.xor IntKind.i64 a (a + b)) (bits BinOp.xor IntKind.i64 b (a + b)) < 0) = false := by
  obtain ⟨m, rfl⟩ := Int.eq_ofNat_of_zero_le ha
  obtain ⟨n, rfl⟩ := Int.eq_ofNat_of_zero_le hb
  have e : ((m : Int) + (n : Int)) = ((m + n : Nat) : Int) := by push_cast; rfl
  have x1 := xor_i64 m (m + n) (by omega) (by omega)
  have x2 := xor_i64 n (m + n) (by omega) (by omega)
  rw [e, x1.1, x2.1, and_i64 _ _ x1.2 x2.2]
  simp

set_option maxHeartbeats 1000000 in
theorem fadd101 (w : World) (a b : Int) (ha : 0 ≤ a) (hb : 0 ≤ b) (ha2 : a ≤ 1000000000000) (hb2 : b ≤ 1000000000000) :
    Calls Try.prog 101 #[.int .i64 a, .int .i64 b] w fun e w' => e = .returned (.tuple #[.int .i64 (a + b), .bool true]) ∧ w = w' := by
  have hno := no_over a b ha hb ha2 hb2
  go_enter Try.func101, Try.ntmps101
  go_wp2
  go_ret2
  exact ⟨rfl, rfl⟩
end Go.Proofs.Ytdcjfaplgpeonaa
