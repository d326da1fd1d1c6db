/-
  The functions of package sum and of its reference, each by one plain Lean function over words of 32 bits, with no count of rounds: what the walked functions compute, told as the theory of the check sum has it.
-/
import Derived.Test.YtjlckmekajlbmaaG3
import Derived.Test.YtjlckmekajlbmaaStep
import Derived.Test.YtjlckmekajlbmaaCrc
namespace Go.Proofs.Ytjlckmekajlbmaa.H
open Go.RowKit Go.Proofs.YtjlckmekajlbmaaW.PrintWords Go.Proofs.YtjlckmekajlbmaaW.PrintLast Go.Proofs.YtjlckmekajlbmaaW.PrintMore
open Go.Proofs.Ytjlckmekajlbmaa.Crc
set_option linter.unusedVariables false
/-- A number as a word, a word as a number. -/
def B (x : Int) : W := BitVec.ofInt 32 x
def Z (v : W) : Int := (v.toNat : Int)
theorem B_Z (v : W) : B (Z v) = v := by
  apply BitVec.eq_of_toNat_eq
  have := v.isLt
  simp only [B, Z, BitVec.toNat_ofInt]
  omega
theorem Z_B (x : Int) (h0 : 0 ≤ x) (h1 : x < 4294967296) : Z (B x) = x := by
  simp only [B, Z, BitVec.toNat_ofInt]
  omega
theorem Z_nonneg (v : W) : 0 ≤ Z v := by simp only [Z]; omega
theorem Z_lt (v : W) : Z v < 4294967296 := by have := v.isLt; simp only [Z]; omega
theorem Z_inj (a b : W) (h : Z a = Z b) : a = b := by rw [← B_Z a, h, B_Z]
theorem B_mod (x : Int) : B (x % 4294967296) = B x := by
  apply BitVec.eq_of_toNat_eq
  simp only [B, BitVec.toNat_ofInt]
  omega
theorem wrap_toNat (v : W) : IntKind.u32.wrap (v.toNat : Int) = Z v := by
  have := v.isLt
  rw [IntKind.wrap_u32]
  simp only [Z]
  omega
theorem xor32 (a b : Int) : Go.bits .xor .u32 a b = Z (B a ^^^ B b) := wrap_toNat _
theorem and32 (a b : Int) : Go.bits .and .u32 a b = Z (B a &&& B b) := wrap_toNat _
theorem half32 (v : W) (k : Nat) : Z v / (2 : Int) ^ k = Z (v >>> k) := by
  simp only [Z, BitVec.toNat_ushiftRight, Nat.shiftRight_eq_div_pow]
  rw [Int.natCast_ediv, Int.natCast_pow]
  rfl
theorem neg32 (v : W) : (-(Z v)) % (4294967296 : Int) = Z (-v) := by
  have := v.isLt
  simp only [Z, BitVec.toNat_neg]
  omega
theorem stepI_Z (v : W) : G.stepI (Z v) = Z (Crc.step v) := by
  have h1 : Z v / (2 : Int) = Z (v >>> 1) := by have h := half32 v 1; rwa [Int.pow_one] at h
  have h2 : B 3988292384 = turn := by decide
  have h3 : B 1 = 1#32 := by decide
  unfold G.stepI Crc.step
  rw [and32 (Z v) 1, B_Z, h3, neg32, and32, B_Z, h2, h1, xor32, B_Z, B_Z]
theorem steps_succ (k : Nat) (v : W) : steps (k + 1) v = Crc.step (steps k v) := by rw [steps_add]; rfl
theorem halfTo_Z (v : W) (k : Nat) : G.halfTo (Z v) k = Z (steps k v) := by
  induction k with
  | zero => rfl
  | succ k ih => rw [steps_succ, ← stepI_Z, ← ih]; rfl
theorem addI_Z (s b : Int) : G.addI s b = Z (add (B s) (B b)) := by
  unfold G.addI add
  rw [xor32, B_mod, halfTo_Z, halfTo_Z, ← steps_add]
/-! ### Add -/
def sum_Add.f (s b : Int) : Option Int := some (Z (add (B s) (B b)))
theorem sum_Add.calls (a0 a1 r : Int) (w : World) (h : sum_Add.f a0 a1 = some r) :
    Calls Try.prog 14 #[.int .u32 a0, .int .u8 a1] w fun e w' => e = .returned (.int .u32 r) ∧ Drawn0 w w' := by
  obtain rfl := Option.some.inj h
  refine (G.sum_Add.calls0 a0 a1 w).mono ?_
  rintro e w' ⟨rfl, rfl⟩
  exact ⟨by rw [addI_Z], Drawn0.refl _⟩
theorem half_loop (d : Nat) : ∀ (k i : Nat) (x : Int), i + d = 4 → d < k → G.sum_half.l0 k (G.halfTo x i) (i : Int) = some (G.halfTo x 4) := by
  induction d with
  | zero =>
    intro k i x hi hk
    obtain ⟨k, rfl⟩ : ∃ m, k = m + 1 := ⟨k - 1, by omega⟩
    obtain rfl : i = 4 := by omega
    simp only [G.sum_half.l0]
    rw [if_neg (by omega)]
  | succ d ih =>
    intro k i x hi hk
    obtain ⟨k, rfl⟩ : ∃ m, k = m + 1 := ⟨k - 1, by omega⟩
    simp only [G.sum_half.l0]
    rw [if_pos (by omega), show wrap64 ((i : Int) + 1) = ((i + 1 : Nat) : Int) from by unfold wrap64; omega]
    exact ih k (i + 1) x (by omega) (by omega)
theorem half_is (x : Int) (k : Nat) : G.sum_half.f (k + 5) x = some (G.halfTo x 4) := half_loop 4 (k + 5) 0 x rfl (by omega)
theorem Add_is (s b : Int) (k : Nat) (hk : 5 ≤ k) : G.sum_Add.f k s b = some (Z (add (B s) (B b))) := by
  obtain ⟨k, rfl⟩ : ∃ m, k = m + 5 := ⟨k - 5, by omega⟩
  rw [← addI_Z]
  unfold G.sum_Add.f
  rw [half_is]
  simp only [Option.bind_some]
  rw [half_is]
  rfl
/-! ### A list read from some place on -/
theorem rd_drop (l : List Int) (i : Nat) (h : i < l.length) : l.drop i = rd l (i : Int) :: l.drop (i + 1) := by
  rw [List.drop_eq_getElem_cons h]
  congr 1
  simp [rd, h]
def Bs (l : List Int) : List W := l.map B
theorem Bs_drop (l : List Int) (i : Nat) (h : i < l.length) : Bs (l.drop i) = B (rd l (i : Int)) :: Bs (l.drop (i + 1)) := by
  rw [rd_drop l i h]; rfl
theorem Bs_len (l : List Int) : (Bs l).length = l.length := by simp [Bs]
theorem wrap_in (i : Nat) (h : i < 9223372036854775807) : wrap64 ((i : Int) + 1) = ((i + 1 : Nat) : Int) := by unfold wrap64; omega
/-! ### Bytes -/
def ones : W := 0xFFFFFFFF#32
def crc (l : List Int) : W := ~~~ raw ones (Bs l)
def sum_Bytes.f (l : List Int) : Option Int := some (Z (crc l))
theorem not_ones (v : W) : B 4294967295 ^^^ v = ~~~ v := by
  have h : B 4294967295 = BitVec.allOnes 32 := by decide
  rw [h, BitVec.xor_comm, BitVec.xor_allOnes]
theorem Bytes_loop (l : List Int) (hl : l.length ≤ 9223372036854775807) (d : Nat) : ∀ (i k : Nat) (v : W), i + d = l.length → d + 6 ≤ k →
    G.sum_Bytes.l0 k (Z v) l (l.length : Int) (i : Int) = some (Z (~~~ raw v (Bs (l.drop i)))) := by
  induction d with
  | zero =>
    intro i k v hi hk
    obtain ⟨k, rfl⟩ : ∃ m, k = m + 1 := ⟨k - 1, by omega⟩
    simp only [G.sum_Bytes.l0]
    rw [if_neg (by omega), List.drop_of_length_le (by omega), xor32, B_Z, not_ones]
    rfl
  | succ d ih =>
    intro i k v hi hk
    obtain ⟨k, rfl⟩ : ∃ m, k = m + 1 := ⟨k - 1, by omega⟩
    simp only [G.sum_Bytes.l0]
    rw [if_pos (by omega), if_pos (by omega), if_pos (by omega), Add_is _ _ _ (by omega), B_Z]
    simp only [Option.bind_some]
    rw [wrap_in i (by omega), ih (i + 1) k _ (by omega) (by omega), Bs_drop l i (by omega)]
    rfl
theorem Bytes_is (l : List Int) (hl : l.length ≤ 9223372036854775807) (k : Nat) (hk : l.length + 6 ≤ k) : G.sum_Bytes.f k l = some (Z (crc l)) := by
  have h := Bytes_loop l hl l.length 0 k ones (by omega) hk
  rw [List.drop_zero] at h
  exact h
theorem sum_Bytes.calls (A0 : Option Addr) (c0 : Nat) (l0 : List Int) (r : Int) (w : World) (hr0 : Kd.C (Kd.int .u8) w A0 l0.length l0) (hc0 : l0.length ≤ c0) (h : sum_Bytes.f l0 = some r) :
    Calls Try.prog 13 #[.slice A0 l0.length c0] w fun e w' => e = .returned (.int .u32 r) ∧ Drawn0 w w' :=
  G.sum_Bytes.calls (l0.length + 6) A0 c0 l0 r w hr0 hc0 ((Bytes_is l0 (Kd.C_max hr0) _ (Nat.le_refl _)).trans h)
end Go.Proofs.Ytjlckmekajlbmaa.H
