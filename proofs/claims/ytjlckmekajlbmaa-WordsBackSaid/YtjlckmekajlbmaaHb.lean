/-
  The functions of package sum and of its reference, continued: the reference's Add, Raw, Bytes, Words, Zeros; the law's raw; PackRegs, Words, Zeros.
-/
import Derived.Test.YtjlckmekajlbmaaHa
namespace Go.Proofs.Ytjlckmekajlbmaa.H
open Go.RowKit Go.Proofs.YtjlckmekajlbmaaW.PrintWords Go.Proofs.YtjlckmekajlbmaaW.PrintLast Go.Proofs.YtjlckmekajlbmaaW.PrintMore
open Go.Proofs.Ytjlckmekajlbmaa.Crc
set_option linter.unusedVariables false
/-! ### the law's raw -/
def saucierlaw08_raw.f (a0 : Int) (l : List Int) : Option Int := if 0 ≤ a0 ∧ a0 < 4294967296 then some (Z (raw (B a0) (Bs l))) else none
theorem lawraw_loop (l : List Int) (hl : l.length ≤ 9223372036854775807) (d : Nat) : ∀ (i k : Nat) (v : W), i + d = l.length → d + 6 ≤ k →
    G.saucierlaw08_raw.l0 k (Z v) l (l.length : Int) (i : Int) = some (Z (raw v (Bs (l.drop i)))) := by
  induction d with
  | zero =>
    intro i k v hi hk
    obtain ⟨k, rfl⟩ : ∃ m, k = m + 1 := ⟨k - 1, by omega⟩
    simp only [G.saucierlaw08_raw.l0]
    rw [if_neg (by omega), List.drop_of_length_le (by omega)]
    rfl
  | succ d ih =>
    intro i k v hi hk
    obtain ⟨k, rfl⟩ : ∃ m, k = m + 1 := ⟨k - 1, by omega⟩
    simp only [G.saucierlaw08_raw.l0]
    rw [if_pos (by omega), if_pos (by omega), if_pos (by omega), Add_is _ _ _ (by omega), B_Z]
    simp only [Option.bind_some]
    rw [wrap_in i (by omega), ih (i + 1) k _ (by omega) (by omega), Bs_drop l i (by omega)]
    rfl
theorem saucierlaw08_raw.calls (a0 : Int) (A1 : Option Addr) (c1 : Nat) (l1 : List Int) (r : Int) (w : World) (hr1 : Kd.C (Kd.int .u8) w A1 l1.length l1) (hc1 : l1.length ≤ c1) (h : saucierlaw08_raw.f a0 l1 = some r) :
    Calls Try.prog 21 #[.int .u32 a0, .slice A1 l1.length c1] w fun e w' => e = .returned (.int .u32 r) ∧ Drawn0 w w' := by
  unfold saucierlaw08_raw.f at h
  split at h
  · rename_i hr
    refine G.saucierlaw08_raw.calls (l1.length + 6) a0 A1 c1 l1 r w hr1 hc1 ?_
    have h2 := lawraw_loop l1 (Kd.C_max hr1) l1.length 0 (l1.length + 6) (B a0) (by omega) (Nat.le_refl _)
    rw [Z_B a0 hr.1 hr.2, List.drop_zero, h] at h2
    exact h2
  · cases h
/-! ### the reference's Add -/
def saucierref08_Add.f (s b : Int) : Option Int := some (Z (add (B s) (B b)))
theorem odd_iff (v : W) : Int.tmod (Z v) 2 = 1 ↔ v.getLsbD 0 = true := by
  have h : v.getLsbD 0 = decide (v.toNat % 2 = 1) := by
    rw [BitVec.getLsbD, Nat.testBit_zero]
  rw [h, decide_eq_true_iff, Int.tmod_eq_emod_of_nonneg (Z_nonneg v)]
  simp only [Z]
  omega
theorem refhalf (v : W) : (Int.tdiv (Z v) 2) % (4294967296 : Int) = Z (v >>> 1) := by
  rw [Int.tdiv_eq_ediv_of_nonneg (Z_nonneg v)]
  have h : Z v / (2 : Int) = Z (v >>> 1) := by have h := half32 v 1; rwa [Int.pow_one] at h
  have h1 := Z_lt (v >>> 1)
  have h2 := Z_nonneg (v >>> 1)
  rw [h]
  omega
theorem refAdd_loop (d : Nat) : ∀ (k i : Nat) (v : W), i + d = 8 → d < k → G.saucierref08_Add.l0 k (Z v) (i : Int) = some (Z (steps d v)) := by
  induction d with
  | zero =>
    intro k i v hi hk
    obtain ⟨k, rfl⟩ : ∃ m, k = m + 1 := ⟨k - 1, by omega⟩
    simp only [G.saucierref08_Add.l0]
    rw [if_neg (by omega)]
    rfl
  | succ d ih =>
    intro k i v hi hk
    obtain ⟨k, rfl⟩ : ∃ m, k = m + 1 := ⟨k - 1, by omega⟩
    have hw : wrap64 ((i : Int) + 1) = ((i + 1 : Nat) : Int) := by unfold wrap64; omega
    have ht : B 3988292384 = turn := by decide
    simp only [G.saucierref08_Add.l0, refhalf, hw]
    rw [if_pos (by omega)]
    by_cases ho : v.getLsbD 0 = true
    · rw [if_pos ((odd_iff v).2 ho), xor32, B_Z, ht, ih k (i + 1) _ (by omega) (by omega)]
      simp only [steps]
      rw [step_eq v, ho]
      rfl
    · rw [if_neg (fun h => ho ((odd_iff v).1 h)), ih k (i + 1) _ (by omega) (by omega)]
      simp only [steps]
      have ho' : v.getLsbD 0 = false := by simpa using ho
      rw [step_even v ho']
theorem refAdd_is (s b : Int) (k : Nat) (hk : 9 ≤ k) : G.saucierref08_Add.f k s b = some (Z (add (B s) (B b))) := by
  unfold G.saucierref08_Add.f
  rw [xor32, B_mod]
  exact refAdd_loop 8 k 0 _ rfl (by omega)
theorem saucierref08_Add.calls (a0 a1 r : Int) (w : World) (h : saucierref08_Add.f a0 a1 = some r) :
    Calls Try.prog 15 #[.int .u32 a0, .int .u8 a1] w fun e w' => e = .returned (.int .u32 r) ∧ Drawn0 w w' :=
  G.saucierref08_Add.calls 9 a0 a1 r w ((refAdd_is a0 a1 9 (Nat.le_refl _)).trans h)
/-! ### the reference's Raw, Bytes -/
theorem refRaw_loop (l : List Int) (hl : l.length ≤ 9223372036854775807) (d : Nat) : ∀ (i k : Nat) (v : W), i + d = l.length → d + 10 ≤ k →
    G.saucierref08_Raw.l0 k (Z v) l (i : Int) = some (Z (raw v (Bs (l.drop i)))) := by
  induction d with
  | zero =>
    intro i k v hi hk
    obtain ⟨k, rfl⟩ : ∃ m, k = m + 1 := ⟨k - 1, by omega⟩
    simp only [G.saucierref08_Raw.l0]
    rw [if_neg (by omega), List.drop_of_length_le (by omega)]
    rfl
  | succ d ih =>
    intro i k v hi hk
    obtain ⟨k, rfl⟩ : ∃ m, k = m + 1 := ⟨k - 1, by omega⟩
    simp only [G.saucierref08_Raw.l0]
    rw [if_pos (by omega), if_pos (by omega), refAdd_is _ _ _ (by omega), B_Z]
    simp only [Option.bind_some]
    rw [wrap_in i (by omega), ih (i + 1) k _ (by omega) (by omega), Bs_drop l i (by omega)]
    rfl
def saucierref08_Bytes.f (l : List Int) : Option Int := some (Z (crc l))
theorem ones_not (v : W) : v ^^^ B 4294967295 = ~~~ v := by rw [BitVec.xor_comm, not_ones]
theorem refBytes_is (l : List Int) (hl : l.length ≤ 9223372036854775807) (k : Nat) (hk : l.length + 10 ≤ k) : G.saucierref08_Bytes.f k l = some (Z (crc l)) := by
  have h : G.saucierref08_Raw.f k 4294967295 l = some (Z (raw ones (Bs l))) := by
    have h := refRaw_loop l hl l.length 0 k ones (by omega) hk
    rw [List.drop_zero] at h
    exact h
  unfold G.saucierref08_Bytes.f
  rw [h]
  simp only [Option.bind_some]
  rw [xor32, B_Z, ones_not]
  rfl
theorem saucierref08_Bytes.calls (A0 : Option Addr) (c0 : Nat) (l0 : List Int) (r : Int) (w : World) (hr0 : Kd.C (Kd.int .u8) w A0 l0.length l0) (hc0 : l0.length ≤ c0) (h : saucierref08_Bytes.f l0 = some r) :
    Calls Try.prog 16 #[.slice A0 l0.length c0] w fun e w' => e = .returned (.int .u32 r) ∧ Drawn0 w w' :=
  G.saucierref08_Bytes.calls (l0.length + 10) A0 c0 l0 r w hr0 hc0 ((refBytes_is l0 (Kd.C_max hr0) _ (Nat.le_refl _)).trans h)
/-! ### PackRegs, Words -/
def pack (l : List Int) : List Int := l.flatMap fun x => [x / 256 % 256, x % 256]
theorem pack_len (l : List Int) : (pack l).length = 2 * l.length := by
  induction l with
  | nil => rfl
  | cons x l ih => simp only [pack, List.flatMap_cons, List.length_append, List.length_cons, List.length_nil] at ih ⊢; omega
theorem pack_take (l : List Int) (i : Nat) (h : i < l.length) : pack (l.take (i + 1)) = pack (l.take i) ++ [rd l (i : Int) / 256 % 256, rd l (i : Int) % 256] := by
  rw [List.take_succ_eq_append_getElem h]
  unfold pack
  rw [List.flatMap_append]
  simp [rd, h]
theorem halves_loop (l : List Int) (hl : l.length ≤ 1000000) (d : Nat) : ∀ (i k : Nat), i + d = l.length → d < k →
    G.words_halves.l0 k (pack (l.take i)) l (l.length : Int) (i : Int) = some (pack l) := by
  induction d with
  | zero =>
    intro i k hi hk
    obtain ⟨k, rfl⟩ : ∃ m, k = m + 1 := ⟨k - 1, by omega⟩
    simp only [G.words_halves.l0]
    rw [if_neg (by omega), List.take_of_length_le (by omega)]
  | succ d ih =>
    intro i k hi hk
    obtain ⟨k, rfl⟩ : ∃ m, k = m + 1 := ⟨k - 1, by omega⟩
    have hp := pack_len (l.take i)
    rw [List.length_take] at hp
    simp only [G.words_halves.l0]
    rw [if_pos (by omega), if_pos (by omega), if_pos (by omega)]
    simp only [Option.bind_some]
    rw [if_pos (by rw [hp]; simp; omega), wrap_in i (by omega), ← pack_take l i (by omega), ih (i + 1) k (by omega) (by omega)]
def words_PackRegs.f (l : List Int) : Option (List Int) := if l.length ≤ 1000000 then some (pack l) else none
theorem PackRegs_is (l : List Int) (hl : l.length ≤ 1000000) (k : Nat) (hk : l.length < k) : G.words_PackRegs.f k l = some (pack l) := by
  have h := halves_loop l hl l.length 0 k (by omega) hk
  have h2 : G.words_halves.f k l = some (pack l) := by
    unfold G.words_halves.f
    rw [if_pos (by omega)]
    exact h
  unfold G.words_PackRegs.f
  rw [h2]
  rfl
theorem words_PackRegs.calls (A0 : Option Addr) (c0 : Nat) (l0 : List Int) (r : List Int) (w : World) (hr0 : Kd.C (Kd.int .u16) w A0 l0.length l0) (hc0 : l0.length ≤ c0) (h : words_PackRegs.f l0 = some r) :
    Calls Try.prog 31 #[.slice A0 l0.length c0] w fun e w' => ∃ v0_ : Value, e = .returned (v0_) ∧ Kd.R (Kd.int .u8) 5 w' w.heap.size (fun _ => True) v0_ r ∧ Below w.heap.size w w' := by
  unfold words_PackRegs.f at h
  split at h
  · rename_i hr
    exact G.words_PackRegs.calls (l0.length + 1) A0 c0 l0 r w hr0 hc0 ((PackRegs_is l0 hr _ (by omega)).trans h)
  · cases h
def sum_Words.f (l : List Int) : Option Int := if l.length ≤ 1000000 then some (Z (crc (pack l))) else none
theorem sum_Words.calls (A0 : Option Addr) (c0 : Nat) (l0 : List Int) (r : Int) (w : World) (hr0 : Kd.C (Kd.int .u16) w A0 l0.length l0) (hc0 : l0.length ≤ c0) (h : sum_Words.f l0 = some r) :
    Calls Try.prog 17 #[.slice A0 l0.length c0] w fun e w' => e = .returned (.int .u32 r) ∧ Below w.heap.size w w' := by
  unfold sum_Words.f at h
  split at h
  · rename_i hr
    refine G.sum_Words.calls (2 * l0.length + 6) A0 c0 l0 r w hr0 hc0 ?_
    unfold G.sum_Words.f
    rw [PackRegs_is l0 hr _ (by omega)]
    simp only [Option.bind_some]
    rw [Bytes_is _ (by rw [pack_len]; omega) _ (by rw [pack_len]; omega)]
    exact h
  · cases h
/-- All of a list's numbers lie from 0 up to below n. -/
def inR (n : Int) (l : List Int) : Prop := ∀ x ∈ l, 0 ≤ x ∧ x < n
instance (n : Int) (l : List Int) : Decidable (inR n l) := inferInstanceAs (Decidable (∀ x ∈ l, 0 ≤ x ∧ x < n))
theorem inR.at_ {n : Int} {l : List Int} (h : inR n l) (i : Nat) (hi : i < l.length) : 0 ≤ rd l (i : Int) ∧ rd l (i : Int) < n := by
  have e : rd l (i : Int) = l[i] := by simp [rd, hi]
  rw [e]
  exact h _ (List.getElem_mem hi)
theorem refWords_loop (l : List Int) (hl : l.length ≤ 1000000) (hr : inR 65536 l) (d : Nat) : ∀ (i k : Nat), i + d = l.length → d + 2 * l.length + 11 ≤ k →
    G.saucierref08_Words.l0 k l (pack (l.take i)) (i : Int) = some (Z (crc (pack l))) := by
  induction d with
  | zero =>
    intro i k hi hk
    obtain ⟨k, rfl⟩ : ∃ m, k = m + 1 := ⟨k - 1, by omega⟩
    simp only [G.saucierref08_Words.l0]
    rw [if_neg (by omega), List.take_of_length_le (by omega), refBytes_is _ (by rw [pack_len]; omega) _ (by rw [pack_len]; omega)]
    rfl
  | succ d ih =>
    intro i k hi hk
    obtain ⟨k, rfl⟩ : ∃ m, k = m + 1 := ⟨k - 1, by omega⟩
    have hp := pack_len (l.take i)
    rw [List.length_take] at hp
    have hx := hr.at_ i (by omega)
    have e1 : (IntKind.u16.wrap (Int.tdiv (rd l (i : Int)) 256)) % 256 = rd l (i : Int) / 256 % 256 := by
      rw [IntKind.wrap_u16, Int.tdiv_eq_ediv_of_nonneg hx.1]; omega
    have e2 : (Int.tmod (rd l (i : Int)) 256) % 256 = rd l (i : Int) % 256 := by
      rw [Int.tmod_eq_emod_of_nonneg hx.1]; omega
    simp only [G.saucierref08_Words.l0]
    rw [if_pos (by omega), if_pos (by omega)]
    simp only [Option.bind_some]
    rw [if_pos (by rw [hp]; simp; omega), wrap_in i (by omega), e1, e2, ← pack_take l i (by omega), ih (i + 1) k (by omega) (by omega)]
def saucierref08_Words.f (l : List Int) : Option Int := if l.length ≤ 1000000 ∧ inR 65536 l then some (Z (crc (pack l))) else none
theorem saucierref08_Words.calls (A0 : Option Addr) (c0 : Nat) (l0 : List Int) (r : Int) (w : World) (hr0 : Kd.C (Kd.int .u16) w A0 l0.length l0) (hc0 : l0.length ≤ c0) (h : saucierref08_Words.f l0 = some r) :
    Calls Try.prog 18 #[.slice A0 l0.length c0] w fun e w' => e = .returned (.int .u32 r) ∧ Below w.heap.size w w' := by
  unfold saucierref08_Words.f at h
  split at h
  · rename_i hr
    exact G.saucierref08_Words.calls (3 * l0.length + 11) A0 c0 l0 r w hr0 hc0 ((refWords_loop l0 hr.1 hr.2 l0.length 0 _ (by omega) (by omega)).trans h)
  · cases h
end Go.Proofs.Ytjlckmekajlbmaa.H
