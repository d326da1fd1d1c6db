/-
  Bits in bytes, in plain Lean: a byte by its eight bits, bits packed, bits of bytes; what Go's operations on a byte do to them.
-/
import Derived.Test.YtjlckmekajlbmaaVb
namespace Go.Proofs.Ytjlckmekajlbmaa.H
open Go.RowKit Go.Proofs.YtjlckmekajlbmaaW.PrintWords Go.Proofs.YtjlckmekajlbmaaW.PrintLast Go.Proofs.YtjlckmekajlbmaaW.PrintMore
set_option linter.unusedVariables false
def bz (b : Bool) : Int := if b then 1 else 0
theorem bz_range (b : Bool) : 0 ≤ bz b ∧ bz b ≤ 1 := by cases b <;> decide
theorem bz_iff (b : Bool) : bz b = 1 ↔ b = true := by cases b <;> decide
/-- The byte of eight bits. -/
def bv (f : Nat → Bool) : Int := bz (f 0) + 2 * bz (f 1) + 4 * bz (f 2) + 8 * bz (f 3) + 16 * bz (f 4) + 32 * bz (f 5) + 64 * bz (f 6) + 128 * bz (f 7)
theorem bv_range (f : Nat → Bool) : 0 ≤ bv f ∧ bv f < 256 := by
  have h0 := bz_range (f 0); have h1 := bz_range (f 1); have h2 := bz_range (f 2); have h3 := bz_range (f 3)
  have h4 := bz_range (f 4); have h5 := bz_range (f 5); have h6 := bz_range (f 6); have h7 := bz_range (f 7)
  unfold bv
  omega
theorem bv_congr (f g : Nat → Bool) (h : ∀ k, k < 8 → f k = g k) : bv f = bv g := by
  unfold bv
  rw [h 0 (by omega), h 1 (by omega), h 2 (by omega), h 3 (by omega), h 4 (by omega), h 5 (by omega), h 6 (by omega), h 7 (by omega)]
theorem bv_bit (f : Nat → Bool) (k : Nat) (hk : k < 8) : bv f / (2 : Int) ^ k % 2 = bz (f k) := by
  have h0 := bz_range (f 0); have h1 := bz_range (f 1); have h2 := bz_range (f 2); have h3 := bz_range (f 3)
  have h4 := bz_range (f 4); have h5 := bz_range (f 5); have h6 := bz_range (f 6); have h7 := bz_range (f 7)
  have hc : k = 0 ∨ k = 1 ∨ k = 2 ∨ k = 3 ∨ k = 4 ∨ k = 5 ∨ k = 6 ∨ k = 7 := by omega
  unfold bv
  rcases hc with rfl | rfl | rfl | rfl | rfl | rfl | rfl | rfl
  · rw [show (2 : Int) ^ 0 = 1 from rfl]; omega
  · rw [show (2 : Int) ^ 1 = 2 from rfl]; omega
  · rw [show (2 : Int) ^ 2 = 4 from rfl]; omega
  · rw [show (2 : Int) ^ 3 = 8 from rfl]; omega
  · rw [show (2 : Int) ^ 4 = 16 from rfl]; omega
  · rw [show (2 : Int) ^ 5 = 32 from rfl]; omega
  · rw [show (2 : Int) ^ 6 = 64 from rfl]; omega
  · rw [show (2 : Int) ^ 7 = 128 from rfl]; omega
theorem bv_inj (f g : Nat → Bool) (h : bv f = bv g) (k : Nat) (hk : k < 8) : f k = g k := by
  have h1 := bv_bit f k hk
  have h2 := bv_bit g k hk
  rw [h, h2] at h1
  cases hf : f k <;> cases hg : g k <;> simp [hf, hg, bz] at h1 ⊢
/-- A byte's bit. -/
def bitOf (x : Int) (k : Nat) : Bool := decide (x / (2 : Int) ^ k % 2 = 1)
theorem bz_bitOf (x : Int) (k : Nat) (h : 0 ≤ x) : bz (bitOf x k) = x / (2 : Int) ^ k % 2 := by
  unfold bz bitOf
  by_cases c : x / (2 : Int) ^ k % 2 = 1
  · rw [decide_eq_true c, if_pos rfl, c]
  · rw [decide_eq_false c, if_neg (by simp)]
    omega
theorem bv_bits (x : Int) (h : 0 ≤ x ∧ x < 256) : bv (bitOf x) = x := by
  unfold bv
  rw [bz_bitOf x 0 h.1, bz_bitOf x 1 h.1, bz_bitOf x 2 h.1, bz_bitOf x 3 h.1, bz_bitOf x 4 h.1, bz_bitOf x 5 h.1, bz_bitOf x 6 h.1, bz_bitOf x 7 h.1]
  rw [show (2 : Int) ^ 0 = 1 from rfl, show (2 : Int) ^ 1 = 2 from rfl, show (2 : Int) ^ 2 = 4 from rfl, show (2 : Int) ^ 3 = 8 from rfl, show (2 : Int) ^ 4 = 16 from rfl, show (2 : Int) ^ 5 = 32 from rfl, show (2 : Int) ^ 6 = 64 from rfl, show (2 : Int) ^ 7 = 128 from rfl]
  omega
theorem bitOf_bv (f : Nat → Bool) (k : Nat) (hk : k < 8) : bitOf (bv f) k = f k := by
  have h := bv_bit f k hk
  unfold bitOf
  rw [h]
  cases f k <;> decide
/-- A bit set. -/
def upd (f : Nat → Bool) (m : Nat) : Nat → Bool := fun k => if k = m then true else f k
theorem bv_or (f : Nat → Bool) (m : Nat) (hm : m < 8) : Go.bits .or .u8 (bv f) (shl .u8 1 (m : Int)) = bv (upd f m) := by
  have key : ∀ b0 b1 b2 b3 b4 b5 b6 b7 : Bool, ∀ q : Fin 8, Go.bits .or .u8 (bz b0 + 2 * bz b1 + 4 * bz b2 + 8 * bz b3 + 16 * bz b4 + 32 * bz b5 + 64 * bz b6 + 128 * bz b7) (shl .u8 1 ((q.val : Nat) : Int)) =
      bz (if 0 = q.val then true else b0) + 2 * bz (if 1 = q.val then true else b1) + 4 * bz (if 2 = q.val then true else b2) + 8 * bz (if 3 = q.val then true else b3) + 16 * bz (if 4 = q.val then true else b4) + 32 * bz (if 5 = q.val then true else b5) + 64 * bz (if 6 = q.val then true else b6) + 128 * bz (if 7 = q.val then true else b7) := by
    decide +kernel
  exact key (f 0) (f 1) (f 2) (f 3) (f 4) (f 5) (f 6) (f 7) ⟨m, hm⟩
theorem bv_add (f : Nat → Bool) (m : Nat) (hm : m < 8) (hf : f m = false) : bv f + (2 : Int) ^ m = bv (upd f m) := by
  have hc : m = 0 ∨ m = 1 ∨ m = 2 ∨ m = 3 ∨ m = 4 ∨ m = 5 ∨ m = 6 ∨ m = 7 := by omega
  have t : bz true = 1 := rfl
  have e : bz false = 0 := rfl
  unfold bv upd
  rcases hc with rfl | rfl | rfl | rfl | rfl | rfl | rfl | rfl <;> simp [hf, t, e] <;> omega
theorem and8_1 (y : Int) (h : 0 ≤ y ∧ y < 256) : Go.bits .and .u8 y 1 = y % 2 := by
  have e : (BitVec.ofInt 8 y &&& BitVec.ofInt 8 1).toNat = (y % 2).toNat := by
    rw [BitVec.toNat_and, BitVec.toNat_ofInt, BitVec.toNat_ofInt]
    have h1 : ((1 : Int) % ((2 ^ 8 : Nat) : Int)).toNat = 1 := by decide
    rw [h1, Nat.and_one_is_mod]
    omega
  show IntKind.u8.wrap ((BitVec.ofInt 8 y &&& BitVec.ofInt 8 1).toNat : Int) = y % 2
  rw [e, IntKind.wrap_u8]
  omega
theorem and64_7 (i : Nat) (h : i < 9223372036854775808) : Go.bits .and .i64 (i : Int) 7 = ((i % 8 : Nat) : Int) := by
  have e : (BitVec.ofInt 64 (i : Int) &&& BitVec.ofInt 64 7).toNat = i % 8 := by
    rw [BitVec.toNat_and, BitVec.toNat_ofInt, BitVec.toNat_ofInt]
    have h1 : ((7 : Int) % ((2 ^ 64 : Nat) : Int)).toNat = 2 ^ 3 - 1 := by decide
    have h2 : (((i : Nat) : Int) % ((2 ^ 64 : Nat) : Int)).toNat = i := by omega
    rw [h1, h2, Nat.and_two_pow_sub_one_eq_mod]
  show IntKind.i64.wrap ((BitVec.ofInt 64 (i : Int) &&& BitVec.ofInt 64 7).toNat : Int) = _
  rw [e, IntKind.wrap_i64]
  omega
theorem shr8 (x : Int) (m : Nat) (h : m < 8) : shr .u8 x (m : Int) = x / (2 : Int) ^ m := by
  have hm : min ((m : Int)).toNat IntKind.u8.bits = m := by
    show min ((m : Int)).toNat 8 = m
    rw [Int.toNat_natCast]; omega
  unfold shr
  rw [hm]
theorem pow_pos8 (m : Nat) : (0 : Int) < (2 : Int) ^ m := Int.pow_pos (by decide)
theorem div_range (x : Int) (m : Nat) (h : 0 ≤ x ∧ x < 256) : 0 ≤ x / (2 : Int) ^ m ∧ x / (2 : Int) ^ m < 256 := by
  have hp := pow_pos8 m
  refine ⟨Int.ediv_nonneg h.1 (Int.le_of_lt hp), ?_⟩
  exact Int.lt_of_le_of_lt (Int.ediv_le_self _ h.1) h.2
/-- What the program asks of a byte's bit. -/
theorem bit_read (x : Int) (m : Nat) (h : 0 ≤ x ∧ x < 256) (hm : m < 8) : (Go.bits .and .u8 (shr .u8 x (m : Int)) 1 == 1) = bitOf x m := by
  rw [shr8 x m hm, and8_1 _ (div_range x m h)]
  rfl
/-! ### Bits packed -/
/-- m bytes of the first i bits. -/
def packN (l : List Bool) (m i : Nat) : List Int := (List.range m).map fun (j : Nat) => bv fun k => decide (8 * j + k < i) && l.getD (8 * j + k) false
def packBits (l : List Bool) : List Int := packN l ((l.length + 7) / 8) l.length
theorem packN_len (l : List Bool) (m i : Nat) : (packN l m i).length = m := by simp [packN]
theorem packN_at (l : List Bool) (m i j : Nat) (h : j < m) : rd (packN l m i) (j : Int) = bv fun k => decide (8 * j + k < i) && l.getD (8 * j + k) false := by
  rw [rd_at _ _ (by rw [packN_len]; exact h)]
  simp only [packN, List.getElem_map, List.getElem_range]
theorem packN_zero (l : List Bool) (m : Nat) : packN l m 0 = List.replicate m 0 := by
  apply List.ext_getElem
  · simp [packN]
  · intro j h1 h2
    simp only [packN, List.getElem_map, List.getElem_range, List.getElem_replicate]
    exact (bv_congr _ (fun _ => false) (fun k _ => by simp)).trans (by decide)
theorem packN_off (l : List Bool) (m i : Nat) (h : l.getD i false = false) : packN l m (i + 1) = packN l m i := by
  apply List.ext_getElem
  · simp [packN]
  · intro j h1 h2
    simp only [packN, List.getElem_map, List.getElem_range]
    apply bv_congr
    intro k hk
    by_cases e : 8 * j + k = i
    · rw [e, h, Bool.and_false, Bool.and_false]
    · congr 1
      rw [decide_eq_decide]
      omega
theorem packN_on (l : List Bool) (m i : Nat) (h : l.getD i false = true) (hm : i / 8 < m) :
    (packN l m i).set (i / 8) (bv (upd (fun k => decide (8 * (i / 8) + k < i) && l.getD (8 * (i / 8) + k) false) (i % 8))) = packN l m (i + 1) := by
  apply List.ext_getElem
  · simp [packN]
  · intro j h1 h2
    simp only [packN, List.getElem_set, List.getElem_map, List.getElem_range]
    by_cases e : i / 8 = j
    · subst e
      rw [if_pos rfl]
      apply bv_congr
      intro k hk
      unfold upd
      by_cases c : k = i % 8
      · have e2 : 8 * (i / 8) + k = i := by omega
        rw [if_pos c, e2, h]
        simp
      · rw [if_neg c]
        show (decide (8 * (i / 8) + k < i) && l.getD (8 * (i / 8) + k) false) = _
        congr 1
        rw [decide_eq_decide]
        omega
    · rw [if_neg e]
      apply bv_congr
      intro k hk
      congr 1
      rw [decide_eq_decide]
      omega
theorem packN_more (l : List Bool) (m i : Nat) (h : i ≤ 8 * m) : packN l (m + 1) i = packN l m i ++ [0] := by
  unfold packN
  rw [List.range_succ, List.map_append, List.map_cons, List.map_nil]
  congr 2
  exact (bv_congr _ (fun _ => false) (fun k _ => by rw [decide_eq_false (by omega), Bool.false_and])).trans (by decide)
theorem pack_inR (l : List Bool) : inR 256 (packBits l) := by
  intro x hx
  obtain ⟨j, _, rfl⟩ := List.mem_map.1 hx
  exact bv_range _
theorem packBits_len (l : List Bool) : (packBits l).length = (l.length + 7) / 8 := packN_len _ _ _
theorem packBits_at (l : List Bool) (j : Nat) (h : j < (l.length + 7) / 8) : rd (packBits l) (j : Int) = bv fun k => l.getD (8 * j + k) false := by
  unfold packBits
  rw [packN_at l _ _ j h]
  apply bv_congr
  intro k hk
  by_cases c : 8 * j + k < l.length
  · rw [decide_eq_true c, Bool.true_and]
  · rw [decide_eq_false c, Bool.false_and, List.getD_eq_getElem?_getD, List.getElem?_eq_none (by omega)]
    rfl
/-! ### Bits of bytes -/
def bitAt (b : List Int) (i : Nat) : Bool := bitOf (rd b ((i / 8 : Nat) : Int)) (i % 8)
def firstBits (b : List Int) (n : Nat) : List Bool := (List.range n).map (bitAt b)
theorem firstBits_len (b : List Int) (n : Nat) : (firstBits b n).length = n := by simp [firstBits]
theorem firstBits_at (b : List Int) (n i : Nat) (h : i < (firstBits b n).length) : (firstBits b n)[i] = bitAt b i := by simp [firstBits]
theorem firstBits_take (b : List Int) (n m : Nat) (h : m ≤ n) : (firstBits b n).take m = firstBits b m := by
  apply List.ext_getElem
  · rw [List.length_take, firstBits_len, firstBits_len]; omega
  · intro i h1 h2
    rw [List.getElem_take, firstBits_at, firstBits_at]
theorem firstBits_succ (b : List Int) (n : Nat) : firstBits b (n + 1) = firstBits b n ++ [bitAt b n] := by simp [firstBits, List.range_succ]
/-- The bits that bytes are: n of them, if there are as many bytes as these need, and no other bit is set. -/
def bitsOf (b : List Int) (n : Int) : List Bool := if 0 ≤ n ∧ b.length = (n.toNat + 7) / 8 ∧ ¬ true ∈ (firstBits b (8 * b.length)).drop n.toNat then firstBits b n.toNat else []
theorem in_drop (b : List Int) (n : Nat) (h : n ≤ 8 * b.length) : (¬ true ∈ (firstBits b (8 * b.length)).drop n) ↔ ∀ i, n ≤ i → i < 8 * b.length → bitAt b i = false := by
  constructor
  · intro hn i h1 h2
    have hf : (firstBits b (8 * b.length)).length = 8 * b.length := firstBits_len _ _
    cases hb : bitAt b i
    · rfl
    · exfalso
      apply hn
      rw [← hb, ← firstBits_at b (8 * b.length) i (by omega)]
      have e : (firstBits b (8 * b.length))[i]'(by omega) = ((firstBits b (8 * b.length)).drop n)[i - n]'(by rw [List.length_drop]; omega) := by
        rw [List.getElem_drop]
        congr 1
        omega
      rw [e]
      exact List.getElem_mem _
  · intro hn hm
    obtain ⟨q, hq, he⟩ := List.mem_iff_getElem.1 hm
    rw [List.getElem_drop, firstBits_at] at he
    rw [List.length_drop, firstBits_len] at hq
    rw [hn (n + q) (by omega) (by omega)] at he
    cases he
/-- Packed again as they were, just if the others are not set. -/
theorem pack_first (b : List Int) (hb : inR 256 b) (n : Nat) (h : n ≤ 8 * b.length) (hl : b.length = (n + 7) / 8) : packBits (firstBits b n) = b ↔ ∀ i, n ≤ i → i < 8 * b.length → bitAt b i = false := by
  have hlen : (packBits (firstBits b n)).length = b.length := by rw [packBits_len, firstBits_len, hl]
  have hg : ∀ j k, (firstBits b n).getD (8 * j + k) false = (decide (8 * j + k < n) && bitAt b (8 * j + k)) := by
    intro j k
    by_cases c : 8 * j + k < n
    · rw [List.getD_eq_getElem?_getD, List.getElem?_eq_getElem (by rw [firstBits_len]; exact c), firstBits_at, decide_eq_true c, Bool.true_and]
      rfl
    · rw [List.getD_eq_getElem?_getD, List.getElem?_eq_none (by rw [firstBits_len]; omega), decide_eq_false c, Bool.false_and]
      rfl
  have hbit : ∀ j k, k < 8 → bitAt b (8 * j + k) = bitOf (rd b (j : Int)) k := by
    intro j k hk
    unfold bitAt
    rw [show (8 * j + k) / 8 = j by omega, show (8 * j + k) % 8 = k by omega]
  constructor
  · intro he i h1 h2
    have hj : i / 8 < b.length := by omega
    have ha := packBits_at (firstBits b n) (i / 8) (by rw [firstBits_len]; omega)
    rw [he] at ha
    have hx := bv_bits _ (hb.at_ _ hj)
    rw [ha] at hx
    have hi := bv_inj _ _ hx (i % 8) (by omega)
    rw [bitOf_bv _ _ (by omega)] at hi
    have e : 8 * (i / 8) + i % 8 = i := by omega
    have hq := hbit (i / 8) (i % 8) (by omega)
    rw [e] at hq
    rw [hq, ha, bitOf_bv _ _ (by omega), hg, e, decide_eq_false (by omega), Bool.false_and]
  · intro hz
    apply List.ext_getElem hlen
    intro j h1 h2
    have ha := packBits_at (firstBits b n) j (by rw [firstBits_len]; omega)
    rw [rd_at _ j h1] at ha
    have hx := bv_bits _ (hb.at_ j h2)
    rw [rd_at b j h2] at hx
    rw [ha]
    conv => rhs; rw [← hx]
    apply bv_congr
    intro k hk
    have hq := hbit j k hk
    rw [rd_at b j h2] at hq
    rw [hg, ← hq]
    by_cases c : 8 * j + k < n
    · rw [decide_eq_true c, Bool.true_and]
    · rw [decide_eq_false c, Bool.false_and, hz (8 * j + k) (by omega) (by omega)]
end Go.Proofs.Ytjlckmekajlbmaa.H
