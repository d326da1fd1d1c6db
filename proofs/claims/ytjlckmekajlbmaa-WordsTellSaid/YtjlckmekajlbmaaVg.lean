/-
  Plain laws of package words, with no program in sight: what is packed is told again, and bytes that are bits or registers are packed again as they were; registers behind others; where a single bit stands; the order of halves and of signed registers; a row of bools, opened from a claim's parameter.
-/
import Derived.Test.YtjlckmekajlbmaaVe
import Derived.Deep.Grids
namespace Go.Proofs.Ytjlckmekajlbmaa.H
open Go.RowKit Go.Proofs.YtjlckmekajlbmaaW.PrintWords Go.Proofs.YtjlckmekajlbmaaW.PrintLast Go.Proofs.YtjlckmekajlbmaaW.PrintMore
/-! ### Registers -/
theorem packR_inR (l : List Int) : inR 256 (pack l) := by
  intro x hx
  obtain ⟨y, _, hy⟩ := List.mem_flatMap.1 hx
  simp only [List.mem_cons, List.not_mem_nil, or_false] at hy
  omega
theorem pack_add (a b : List Int) : pack (a ++ b) = pack a ++ pack b := by unfold pack; rw [List.flatMap_append]
theorem rd_zero (x : Int) (l : List Int) : rd (x :: l) ((0 : Nat) : Int) = x := rfl
theorem rd_succ (x : Int) (l : List Int) (i : Nat) : rd (x :: l) ((i + 1 : Nat) : Int) = rd l (i : Int) := by
  simp [rd]
theorem pack_at (l : List Int) : ∀ i : Nat, i < l.length → rd (pack l) ((2 * i : Nat) : Int) = rd l (i : Int) / 256 % 256 ∧ rd (pack l) ((2 * i + 1 : Nat) : Int) = rd l (i : Int) % 256 := by
  induction l with
  | nil => intro i h; cases h
  | cons x l ih =>
    have e : pack (x :: l) = x / 256 % 256 :: x % 256 :: pack l := rfl
    intro i h
    rw [e]
    cases i with
    | zero => exact ⟨rfl, rfl⟩
    | succ i =>
      obtain ⟨h1, h2⟩ := ih i (by simpa using h)
      rw [rd_succ x l]
      exact ⟨(rd_succ _ _ (2 * i + 1)).trans ((rd_succ _ _ (2 * i)).trans h1), (rd_succ _ _ (2 * i + 2)).trans ((rd_succ _ _ (2 * i + 1)).trans h2)⟩
theorem unpack_pack (l : List Int) (h : inR 65536 l) : unpack (pack l) = l := by
  apply List.ext_getElem
  · rw [unpack_len, pack_len]; omega
  · intro i h1 h2
    rw [unpack_at _ _ h1, (pack_at l i h2).1, (pack_at l i h2).2]
    have := h.at_ i h2
    rw [← rd_at l i h2]
    omega
theorem pack_unpack (b : List Int) (h : inR 256 b) (he : b.length % 2 = 0) : pack (unpack b) = b := by
  apply List.ext_getElem
  · rw [pack_len, unpack_len]; omega
  · intro i h1 h2
    have hj : i / 2 < (unpack b).length := by rw [unpack_len]; omega
    have a := h.at_ (2 * (i / 2)) (by rw [unpack_len] at hj; omega)
    have c := h.at_ (2 * (i / 2) + 1) (by rw [unpack_len] at hj; omega)
    have hv : rd (unpack b) ((i / 2 : Nat) : Int) = _ := (rd_at _ _ hj).trans (unpack_at b _ hj)
    obtain ⟨p1, p2⟩ := pack_at (unpack b) (i / 2) hj
    rw [hv] at p1 p2
    rw [← rd_at _ i h1, ← rd_at b i h2]
    rcases Nat.mod_two_eq_zero_or_one i with hm | hm
    · have e : 2 * (i / 2) = i := by omega
      rw [e] at p1 a c
      rw [p1]
      omega
    · have e : 2 * (i / 2) + 1 = i := by omega
      rw [e] at p2 c
      rw [p2]
      omega
theorem regs_pack (l : List Int) (h : inR 65536 l) : regsOf (pack l) = (l, true) := by
  unfold regsOf
  rw [if_neg (by rw [pack_len]; omega), unpack_pack l h]
/-! ### Bits -/
theorem bitAt_pack (l : List Bool) (i : Nat) (h : i < 8 * ((l.length + 7) / 8)) : bitAt (packBits l) i = l.getD i false := by
  unfold bitAt
  rw [packBits_at l (i / 8) (by omega), bitOf_bv _ _ (by omega)]
  have e : 8 * (i / 8) + i % 8 = i := by omega
  rw [e]
theorem getD_out (l : List Bool) (i : Nat) (h : l.length ≤ i) : l.getD i false = false := by
  rw [List.getD_eq_getElem?_getD, List.getElem?_eq_none h, Option.getD_none]
theorem bits_pack (l : List Bool) : bitsOf (packBits l) (l.length : Int) = l := by
  unfold bitsOf
  have hl := packBits_len l
  have hf : ¬ true ∈ (firstBits (packBits l) (8 * (packBits l).length)).drop ((l.length : Int)).toNat := by
    rw [Int.toNat_natCast]
    refine (in_drop _ _ (by omega)).2 fun i h1 h2 => ?_
    rw [bitAt_pack l i (by omega), getD_out l i h1]
  rw [if_pos ⟨by omega, by rw [hl]; omega, hf⟩]
  apply List.ext_getElem
  · rw [firstBits_len]; omega
  · intro i h1 h2
    rw [firstBits_at _ _ _ h1, bitAt_pack l i (by omega), getD_at l i h2]
/-- Where bytes are bits, they are packed again as they were. -/
theorem bits_back (b : List Int) (hb : inR 256 b) (n : Int) (h : (bitsOf b n).length ≠ 0) : (bitsOf b n).length = n.toNat ∧ 0 ≤ n ∧ packBits (bitsOf b n) = b := by
  unfold bitsOf at h ⊢
  split
  · rename_i hc
    obtain ⟨h0, hl, hf⟩ := hc
    have hn : n.toNat ≤ 8 * b.length := by omega
    exact ⟨firstBits_len _ _, h0, (pack_first b hb n.toNat hn hl).2 ((in_drop b n.toNat hn).1 hf)⟩
  · rename_i hc
    rw [if_neg hc] at h
    exact absurd rfl h
theorem bits_most (b : List Int) (n : Int) : (bitsOf b n).length ≤ 8 * b.length := by
  unfold bitsOf
  split
  · rename_i hc
    rw [firstBits_len]
    have := hc.1
    have := hc.2.1
    omega
  · exact Nat.zero_le _
theorem bits_long (b : List Int) (n : Int) (h : b.length ≠ (n.toNat + 7) / 8) : bitsOf b n = [] := by
  unfold bitsOf
  rw [if_neg (fun hc => h hc.2.1)]
theorem bits_neg (b : List Int) (n : Int) (h : n < 0) : bitsOf b n = [] := by
  unfold bitsOf
  rw [if_neg (fun hc => by have := hc.1; omega)]
theorem bits_more (b : List Int) (n i : Nat) (hn : n ≤ i) (hi : i < 8 * b.length) (h : bitAt b i = true) : bitsOf b (n : Int) = [] := by
  unfold bitsOf
  rw [if_neg ?_]
  rintro ⟨_, hl, hf⟩
  rw [Int.toNat_natCast] at hl hf
  have := (in_drop b n (by omega)).1 hf i hn hi
  rw [h] at this
  cases this
/-! ### A single bit -/
theorem one_pow (m : Nat) (h : m < 8) : bv (fun j => decide (j = m)) = shl .u8 1 (m : Int) := by
  obtain rfl | rfl | rfl | rfl | rfl | rfl | rfl | rfl : m = 0 ∨ m = 1 ∨ m = 2 ∨ m = 3 ∨ m = 4 ∨ m = 5 ∨ m = 6 ∨ m = 7 := by omega
  all_goals decide +kernel
theorem bv_none (f : Nat → Bool) (h : ∀ k, k < 8 → f k = false) : bv f = 0 := (bv_congr f (fun _ => false) h).trans (by decide)
def oneBit (n k : Nat) : List Bool := (List.replicate n false).set k true
theorem oneBit_len (n k : Nat) : (oneBit n k).length = n := by simp [oneBit]
theorem oneBit_at (n k i : Nat) (hk : k < n) : (oneBit n k).getD i false = decide (i = k) := by
  unfold oneBit
  rw [List.getD_eq_getElem?_getD, List.getElem?_set]
  by_cases e : k = i
  · subst e
    simp [hk]
  · rw [if_neg e, decide_eq_false (fun h => e h.symm)]
    by_cases hi : i < n
    · simp [hi]
    · simp [hi]
theorem one_byte (n k i : Nat) (hk : k < n) (hi : i < (n + 7) / 8) : rd (packBits (oneBit n k)) (i : Int) = if i = k / 8 then shl .u8 1 ((k % 8 : Nat) : Int) else 0 := by
  rw [packBits_at _ i (by rw [oneBit_len]; exact hi)]
  split
  · rename_i e
    rw [← one_pow (k % 8) (by omega)]
    apply bv_congr
    intro j hj
    rw [oneBit_at n k _ hk, decide_eq_decide]
    omega
  · rename_i e
    apply bv_none
    intro j hj
    rw [oneBit_at n k _ hk, decide_eq_false (by omega)]
/-- One bit more that is set. -/
theorem pack_bit (l : List Bool) (at_ : Nat) (h : l.length ≤ at_) (h8 : at_ < 8 * ((l.length + 7) / 8)) :
    (packBits l).set (at_ / 8) (Go.bits .or .u8 (rd (packBits l) ((at_ / 8 : Nat) : Int)) (shl .u8 1 ((at_ % 8 : Nat) : Int))) = packBits (l ++ (List.replicate (at_ - l.length) false ++ [true])) := by
  have hl : (l ++ (List.replicate (at_ - l.length) false ++ [true])).length = at_ + 1 := by simp; omega
  have hm : (at_ + 1 + 7) / 8 = (l.length + 7) / 8 := by omega
  have hat : ∀ j, (l ++ (List.replicate (at_ - l.length) false ++ [true])).getD j false = if j < at_ then l.getD j false else decide (j = at_) := by
    intro j
    rw [List.getD_eq_getElem?_getD, List.getD_eq_getElem?_getD]
    by_cases c : j < l.length
    · rw [List.getElem?_append_left c, if_pos (by omega)]
    · rw [List.getElem?_append_right (by omega)]
      by_cases c2 : j < at_
      · rw [if_pos c2, List.getElem?_append_left (by simp; omega), List.getElem?_eq_none (l := l) (by omega)]
        simp [show j - l.length < at_ - l.length by omega]
      · rw [if_neg c2, List.getElem?_append_right (by simp; omega)]
        by_cases c3 : j = at_
        · subst c3
          simp
        · rw [decide_eq_false c3, List.getElem?_eq_none (by simp; omega)]
          rfl
  have hp : packBits l = packN (l ++ (List.replicate (at_ - l.length) false ++ [true])) ((l.length + 7) / 8) at_ := by
    unfold packBits packN
    apply List.map_congr_left
    intro j hj
    apply bv_congr
    intro k hk
    rw [hat]
    by_cases c : 8 * j + k < at_
    · rw [if_pos c, decide_eq_true c, Bool.true_and]
      by_cases c2 : 8 * j + k < l.length
      · rw [decide_eq_true c2, Bool.true_and]
      · rw [getD_out l _ (by omega), Bool.and_false]
    · rw [decide_eq_false c, Bool.false_and, decide_eq_false (by omega), Bool.false_and]
  have hq : packBits (l ++ (List.replicate (at_ - l.length) false ++ [true])) = packN (l ++ (List.replicate (at_ - l.length) false ++ [true])) ((l.length + 7) / 8) (at_ + 1) := by
    unfold packBits
    rw [hl, hm]
  rw [hq, ← packN_on _ _ at_ (by rw [hat, if_neg (by omega)]; simp) (by omega), ← bv_or _ _ (by omega), ← packN_at _ ((l.length + 7) / 8) _ _ (by omega), ← hp]
/-! ### Numbers -/
theorem xor_nat (n i : Nat) (h : n < 2 ^ i) : n ^^^ 2 ^ i = n + 2 ^ i := by
  have e : n ^^^ 2 ^ i = 1 * 2 ^ i ||| n := by
    rw [Nat.one_mul]
    apply Nat.eq_of_testBit_eq
    intro j
    rw [Nat.testBit_xor, Nat.testBit_or, Nat.testBit_two_pow]
    by_cases c : i = j
    · subst c
      rw [Nat.testBit_lt_two_pow h]
      simp
    · rw [decide_eq_false c]
      simp
  rw [e, or_nat 1 n i h, Nat.one_mul, Nat.add_comm]
theorem xor_top (n i : Nat) (h : n < 2 ^ i) : (n + 2 ^ i) ^^^ 2 ^ i = n := by rw [← xor_nat n i h, Nat.xor_assoc, Nat.xor_self, Nat.xor_zero]
theorem xor16 (v : Int) (h : 0 ≤ v ∧ v < 65536) : Go.bits .xor .u16 v 32768 = if v < 32768 then v + 32768 else v - 32768 := by
  obtain ⟨n, rfl⟩ := Int.eq_ofNat_of_zero_le h.1
  show IntKind.u16.wrap ((BitVec.ofInt 16 (n : Int) ^^^ BitVec.ofInt 16 32768).toNat : Int) = _
  rw [BitVec.toNat_xor, BitVec.toNat_ofInt, BitVec.toNat_ofInt, IntKind.wrap_u16]
  have e1 : ((n : Int) % ((2 ^ 16 : Nat) : Int)).toNat = n := by omega
  have e2 : ((32768 : Int) % ((2 ^ 16 : Nat) : Int)).toNat = 2 ^ 15 := by omega
  rw [e1, e2]
  split
  · rw [xor_nat n 15 (by omega)]
    omega
  · have e3 := xor_top (n - 2 ^ 15) 15 (by omega)
    rw [Nat.sub_add_cancel (by omega)] at e3
    rw [e3]
    omega
theorem sgn_range (x : Int) (h : 0 ≤ x ∧ x < 65536) : -32768 ≤ sgn x ∧ sgn x ≤ 32767 := by
  unfold sgn
  split <;> omega
theorem sgn_order (v w : Int) (hv : 0 ≤ v ∧ v < 65536) (hw : 0 ≤ w ∧ w < 65536) : decide (sgn v < sgn w) = decide (Go.bits .xor .u16 v 32768 < Go.bits .xor .u16 w 32768) := by
  rw [xor16 v hv, xor16 w hw, decide_eq_decide]
  unfold sgn
  split <;> split <;> split <;> split <;> omega
theorem sgn_mod (x : Int) (h : -32768 ≤ x ∧ x ≤ 32767) : sgn (x % 65536) = x := by
  unfold sgn
  split <;> omega
theorem mod_sgn (x : Int) (h : 0 ≤ x ∧ x < 65536) : sgn x % 65536 = x := by
  unfold sgn
  split <;> omega
/-! ### A row of bools, opened from a parameter -/
open Go.ChangeShapes Go.WideShapes in
theorem open_bools_C {H : Type} {enc : TypeId × Value → H} {P : Program} {W : World} {base : Nat} {held : Bool} {t e : TypeId} {a : Option Addr} {len cap : Nat} {d : DataW H} {ps : List MemPlace}
    (hu : P.underlying t = some (.slice e)) (he : P.underlying e = some .bool) (hc : P.cellsOf e = 1) (h : DataW.Trod enc P W base (fun _ => true) held t (.slice a len cap) d ps) :
    ∃ l : List Bool, len = l.length ∧ Kd.C Kd.bool W a l.length l ∧ l.length ≤ maxLen ∧ l.length ≤ cap := by
  obtain ⟨fuel, hf⟩ := h
  rcases Go.Deep.open_bools hu he hc hf with ⟨hcs, _⟩ | ⟨x, l, c, B, hcs, _, hl, hm, _, hcell⟩
  · simp [Value.cells] at hcs
    obtain ⟨rfl, rfl, rfl⟩ := hcs
    exact ⟨[], rfl, Kd.C_of_reads (enc := Value.bool) (d := false) (h1 := fun _ => rfl) ⟨rfl, by simp, fun h => absurd h (by simp)⟩, Nat.zero_le _, Nat.zero_le _⟩
  · simp [Value.cells] at hcs
    obtain ⟨rfl, rfl, rfl⟩ := hcs
    have hn : ((List.range len).map B).length = len := by simp
    refine ⟨(List.range len).map B, hn.symm, Kd.C_of_reads (enc := Value.bool) (d := false) (h1 := fun _ => rfl) ⟨rfl, by rw [hn]; simp only [maxLen] at hm; omega, fun _ => ⟨x, rfl, fun j hj => ?_⟩⟩, by rw [hn]; omega, by rw [hn]; exact hl⟩
    rw [hn] at hj
    rw [hcell j (by omega), List.getD_eq_getElem?_getD]
    simp [hj]
end Go.Proofs.Ytjlckmekajlbmaa.H
