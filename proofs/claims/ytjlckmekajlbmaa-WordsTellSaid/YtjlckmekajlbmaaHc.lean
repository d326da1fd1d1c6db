/-
  Zeros: the step of one nought, done twice again and again, takes in as many noughts as are asked; the reference's Zeros one by one.
-/
import Derived.Test.YtjlckmekajlbmaaHb
namespace Go.Proofs.Ytjlckmekajlbmaa.H
open Go.RowKit Go.Proofs.YtjlckmekajlbmaaW.PrintWords Go.Proofs.YtjlckmekajlbmaaW.PrintLast Go.Proofs.YtjlckmekajlbmaaW.PrintMore
open Go.Proofs.Ytjlckmekajlbmaa.Crc
set_option linter.unusedVariables false
/-- The row of a linear function: what it does to each bit. -/
def rowOf (F : W → W) : List Int := (List.range 32).map fun i => Z (F (BitVec.twoPow 32 i))
theorem rowOf_at (F : W → W) (i : Nat) (h : i < 32) : rd (rowOf F) (i : Int) = Z (F (BitVec.twoPow 32 i)) := by
  simp [rd, rowOf, h]
theorem B_pow (i : Nat) : B ((2 : Int) ^ i % (4294967296 : Int)) = BitVec.twoPow 32 i := by
  rw [B_mod]
  apply BitVec.eq_of_toNat_eq
  rw [BitVec.toNat_twoPow]
  simp only [B, BitVec.toNat_ofInt]
  have h : (2 : Int) ^ i = ((2 ^ i : Nat) : Int) := by rw [Int.natCast_pow]; rfl
  rw [h]
  omega
theorem nought_row : G.noughtL = rowOf (steps 8) := by
  unfold G.noughtL G.noughtTo rowOf
  apply List.map_congr_left
  intro i hi
  rw [if_pos (by simpa using hi), addI_Z, B_pow]
  have h0 : B 0 = 0#32 := by decide
  rw [h0]
  unfold add
  rw [BitVec.xor_zero]
theorem mask_bit (a x : W) : a &&& -(x &&& 1#32) = if x.getLsbD 0 then a else 0#32 := by
  have h : x &&& 1#32 = if x.getLsbD 0 then 1#32 else 0#32 := by
    apply BitVec.eq_of_getLsbD_eq
    intro i hi
    rw [BitVec.getLsbD_and]
    by_cases e : i = 0
    · subst e
      cases x.getLsbD 0 <;> rfl
    · have h1 : (1#32).getLsbD i = false := by rw [BitVec.getLsbD_one]; simp [e]
      rw [h1, Bool.and_false]
      cases x.getLsbD 0
      · simp
      · rw [if_pos rfl, h1]
  rw [h]
  cases x.getLsbD 0
  · simp
  · have h2 : -1#32 = BitVec.allOnes 32 := by decide
    rw [if_pos rfl, if_pos rfl, h2, BitVec.and_allOnes]
theorem ofTo_row {F : W → W} (hF : Lin F) (s : W) (k : Nat) (hk : k ≤ 32) : G.ofTo (rowOf F) (Z s) k = Z (F (low s k)) := by
  induction k with
  | zero =>
    rw [low_zero, hF.zero]
    rfl
  | succ k ih =>
    have h1 : B 1 = 1#32 := by decide
    simp only [G.ofTo]
    rw [ih (by omega), rowOf_at F k (by omega), half32, and32 (Z (s >>> k)) 1, B_Z, h1, neg32, and32, B_Z, B_Z, mask_bit, xor32, B_Z, B_Z, hF.low s k (by omega), BitVec.getLsbD_ushiftRight, Nat.add_zero]
theorem of_row {F : W → W} (hF : Lin F) (s : W) : G.ofTo (rowOf F) (Z s) 32 = Z (F s) := by
  rw [ofTo_row hF s 32 (Nat.le_refl _), low_all]
theorem twice_row {F : W → W} (hF : Lin F) : G.twiceL (rowOf F) = rowOf (fun v => F (F v)) := by
  unfold G.twiceL G.twiceTo
  conv => rhs; unfold rowOf
  apply List.map_congr_left
  intro i hi
  have hi' : i < 32 := by simpa using hi
  rw [if_pos hi', rowOf_at F i hi', of_row hF]
theorem and64 (n : Int) (h : 0 ≤ n) : Go.bits .and .i64 n 1 = n % 2 := by
  have e : (BitVec.ofInt 64 n &&& BitVec.ofInt 64 1).toNat = (n % 2).toNat := by
    rw [BitVec.toNat_and, BitVec.toNat_ofInt, BitVec.toNat_ofInt]
    have h1 : ((1 : Int) % ((2 ^ 64 : Nat) : Int)).toNat = 1 := by decide
    rw [h1, Nat.and_one_is_mod]
    omega
  show IntKind.i64.wrap ((BitVec.ofInt 64 n &&& BitVec.ofInt 64 1).toNat : Int) = n % 2
  rw [e, IntKind.wrap_i64]
  omega
theorem zeros_row (f : Nat) : ∀ (j : Nat) (v : W) (n : Int), n < 2 ^ f → G.zerosG f (rowOf (steps j)) (Z v) n = Z (steps (j * n.toNat) v) := by
  induction f with
  | zero =>
    intro j v n hn
    have h0 : n.toNat = 0 := by omega
    rw [h0, Nat.mul_zero]
    rfl
  | succ f ih =>
    intro j v n hn
    by_cases hp : 0 < n
    · simp only [G.zerosG]
      have ht : G.twiceL (rowOf (steps j)) = rowOf (steps (j + j)) := by
        rw [twice_row (Lin.steps j)]
        congr 1
        funext v
        rw [steps_add]
      have hh : n / 2 < 2 ^ f := by rw [Int.pow_succ] at hn; omega
      rw [if_pos hp, ht, and64 n (by omega)]
      by_cases ho : n % 2 = 1
      · rw [if_pos ho, of_row (Lin.steps j), ih _ _ _ hh]
        have e : j * n.toNat = j + (j + j) * (n / 2).toNat := by
          have : n.toNat = 1 + 2 * (n / 2).toNat := by omega
          rw [this, Nat.mul_add, Nat.mul_one, ← Nat.two_mul, ← Nat.mul_assoc, Nat.mul_comm j 2]
        rw [e, steps_add]
      · rw [if_neg ho, ih _ _ _ hh]
        have e : j * n.toNat = (j + j) * (n / 2).toNat := by
          have : n.toNat = 2 * (n / 2).toNat := by omega
          rw [this, ← Nat.two_mul, ← Nat.mul_assoc, Nat.mul_comm j 2]
        rw [e]
    · simp only [G.zerosG]
      have h0 : n.toNat = 0 := by omega
      rw [if_neg hp, h0, Nat.mul_zero]
      rfl
theorem zerosI_Z (v : W) (n : Int) (h : n < 2 ^ 63) : G.zerosI (Z v) n = Z (steps (8 * n.toNat) v) := by
  unfold G.zerosI
  rw [nought_row]
  exact zeros_row 63 8 v n h
def sum_Zeros.f (s n : Int) : Option Int := if 0 ≤ s ∧ s < 4294967296 ∧ n < 9223372036854775808 then some (Z (steps (8 * n.toNat) (B s))) else none
theorem sum_Zeros.calls (a0 a1 r : Int) (w : World) (h : sum_Zeros.f a0 a1 = some r) :
    Calls Try.prog 19 #[.int .u32 a0, .int .i64 a1] w fun e w' => e = .returned (.int .u32 r) ∧ Below w.heap.size w w' := by
  unfold sum_Zeros.f at h
  split at h
  · rename_i hr
    obtain rfl := Option.some.inj h
    have h2 := zerosI_Z (B a0) a1 (by omega)
    rw [Z_B a0 hr.1 hr.2.1] at h2
    rw [← h2]
    exact G.sum_Zeros.calls0 a0 a1 w (by omega)
  · cases h
theorem refZeros_loop (n : Int) (hn : n < 9223372036854775808) (d : Nat) : ∀ (i k : Nat) (v : W), (i : Int) + d = n → d + 10 ≤ k →
    G.saucierref08_Zeros.l0 k (Z v) n (i : Int) = some (Z (steps (8 * d) v)) := by
  induction d with
  | zero =>
    intro i k v hi hk
    obtain ⟨k, rfl⟩ : ∃ m, k = m + 1 := ⟨k - 1, by omega⟩
    simp only [G.saucierref08_Zeros.l0]
    rw [if_neg (by omega)]
    rfl
  | succ d ih =>
    intro i k v hi hk
    obtain ⟨k, rfl⟩ : ∃ m, k = m + 1 := ⟨k - 1, by omega⟩
    have h0 : B 0 = 0#32 := by decide
    simp only [G.saucierref08_Zeros.l0]
    rw [if_pos (by omega), refAdd_is _ _ _ (by omega), B_Z, h0]
    simp only [Option.bind_some]
    rw [wrap_in i (by omega), ih (i + 1) k _ (by omega) (by omega), Nat.mul_succ, Nat.add_comm (8 * d) 8, steps_add]
    unfold add
    rw [BitVec.xor_zero]
theorem refZeros_is (s n : Int) (hs : 0 ≤ s ∧ s < 4294967296) (hn : n < 9223372036854775808) : G.saucierref08_Zeros.f (n.toNat + 10) s n = some (Z (steps (8 * n.toNat) (B s))) := by
  by_cases h0 : 0 ≤ n
  · have h := refZeros_loop n hn n.toNat 0 (n.toNat + 10) (B s) (by omega) (by omega)
    rw [Z_B s hs.1 hs.2] at h
    exact h
  · unfold G.saucierref08_Zeros.f
    have e : n.toNat = 0 := by omega
    rw [e]
    simp only [G.saucierref08_Zeros.l0]
    rw [if_neg (by omega), Nat.mul_zero]
    show some s = some (Z (B s))
    rw [Z_B s hs.1 hs.2]
def saucierref08_Zeros.f (s n : Int) : Option Int := if 0 ≤ s ∧ s < 4294967296 ∧ n < 9223372036854775808 then some (Z (steps (8 * n.toNat) (B s))) else none
theorem saucierref08_Zeros.calls (a0 a1 r : Int) (w : World) (h : saucierref08_Zeros.f a0 a1 = some r) :
    Calls Try.prog 20 #[.int .u32 a0, .int .i64 a1] w fun e w' => e = .returned (.int .u32 r) ∧ Drawn0 w w' := by
  unfold saucierref08_Zeros.f at h
  split at h
  · rename_i hr
    exact G.saucierref08_Zeros.calls _ a0 a1 r w ((refZeros_is a0 a1 ⟨hr.1, hr.2.1⟩ hr.2.2).trans h)
  · cases h
end Go.Proofs.Ytjlckmekajlbmaa.H
