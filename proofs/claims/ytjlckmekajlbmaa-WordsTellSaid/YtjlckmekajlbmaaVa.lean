/-
  The functions of package words on registers and numbers, those of its reference, and the law's comparisons: each by one plain Lean function, with no count of rounds.
-/
import Derived.Test.YtjlckmekajlbmaaG4
import Derived.Test.YtjlckmekajlbmaaG5
import Derived.Test.YtjlckmekajlbmaaG6
import Derived.Test.YtjlckmekajlbmaaG7
import Derived.Test.YtjlckmekajlbmaaHc
namespace Go.Proofs.Ytjlckmekajlbmaa.H
open Go.RowKit Go.Proofs.YtjlckmekajlbmaaW.PrintWords Go.Proofs.YtjlckmekajlbmaaW.PrintLast Go.Proofs.YtjlckmekajlbmaaW.PrintMore
set_option linter.unusedVariables false
/-! ### Numbers -/
theorem or_nat (a b i : Nat) (h : b < 2 ^ i) : a * 2 ^ i ||| b = a * 2 ^ i + b := by
  rw [← Nat.shiftLeft_eq, Nat.shiftLeft_add_eq_or_of_lt h]
theorem or32 (h l : Int) (hh : 0 ≤ h ∧ h < 65536) (hl : 0 ≤ l ∧ l < 65536) : Go.bits .or .u32 (h * 65536) l = h * 65536 + l := by
  obtain ⟨n, rfl⟩ := Int.eq_ofNat_of_zero_le hh.1
  obtain ⟨m, rfl⟩ := Int.eq_ofNat_of_zero_le hl.1
  have e := or_nat n m 16 (by omega)
  show IntKind.u32.wrap ((BitVec.ofInt 32 ((n : Int) * 65536) ||| BitVec.ofInt 32 (m : Int)).toNat : Int) = _
  rw [BitVec.toNat_or, BitVec.toNat_ofInt, BitVec.toNat_ofInt, IntKind.wrap_u32]
  have e1 : (((n : Int) * 65536) % ((2 ^ 32 : Nat) : Int)).toNat = n * 2 ^ 16 := by omega
  have e2 : ((m : Int) % ((2 ^ 32 : Nat) : Int)).toNat = m := by omega
  rw [e1, e2, e]
  omega
theorem or16 (h l : Int) (hh : 0 ≤ h ∧ h < 256) (hl : 0 ≤ l ∧ l < 256) : Go.bits .or .u16 (h * 256) l = h * 256 + l := by
  obtain ⟨n, rfl⟩ := Int.eq_ofNat_of_zero_le hh.1
  obtain ⟨m, rfl⟩ := Int.eq_ofNat_of_zero_le hl.1
  have e := or_nat n m 8 (by omega)
  show IntKind.u16.wrap ((BitVec.ofInt 16 ((n : Int) * 256) ||| BitVec.ofInt 16 (m : Int)).toNat : Int) = _
  rw [BitVec.toNat_or, BitVec.toNat_ofInt, BitVec.toNat_ofInt, IntKind.wrap_u16]
  have e1 : (((n : Int) * 256) % ((2 ^ 16 : Nat) : Int)).toNat = n * 2 ^ 8 := by omega
  have e2 : ((m : Int) % ((2 ^ 16 : Nat) : Int)).toNat = m := by omega
  rw [e1, e2, e]
  omega
theorem wrap_i16 (x : Int) : IntKind.i16.wrap x = if x % 65536 ≥ 32768 then x % 65536 - 65536 else x % 65536 := by simp [IntKind.wrap, IntKind.bits, IntKind.signed]
def words_Wide.f (h l : Int) : Option Int := if (0 ≤ h ∧ h < 65536) ∧ 0 ≤ l ∧ l < 65536 then some (h * 65536 + l) else none
theorem words_Wide.calls (a0 a1 r : Int) (w : World) (h : words_Wide.f a0 a1 = some r) : Calls Try.prog 34 #[.int .u16 a0, .int .u16 a1] w fun e w' => e = .returned (.int .u32 r) ∧ Drawn0 w w' := by
  unfold words_Wide.f at h
  split at h
  · rename_i hr
    refine G.words_Wide.calls a0 a1 r w ?_
    unfold G.words_Wide.f
    have e1 : ((a0 % 4294967296) * 65536) % 4294967296 = a0 * 65536 := by omega
    have e2 : a1 % 4294967296 = a1 := by omega
    rw [e1, e2, or32 a0 a1 hr.1 hr.2]
    exact h
  · cases h
def words_Parts.f (x : Int) : Option (Int × Int) := if 0 ≤ x ∧ x < 4294967296 then some (x / 65536, x % 65536) else none
theorem words_Parts.calls (a0 r1 r2 : Int) (w : World) (h : words_Parts.f a0 = some (r1, r2)) : Calls Try.prog 35 #[.int .u32 a0] w fun e w' => e = .returned (.tuple #[.int .u16 r1, .int .u16 r2]) ∧ Drawn0 w w' := by
  unfold words_Parts.f at h
  split at h
  · rename_i hr
    refine G.words_Parts.calls a0 r1 r2 w ?_
    unfold G.words_Parts.f
    have e1 : (a0 / 65536) % 65536 = a0 / 65536 := by omega
    rw [IntKind.wrap_u16, IntKind.wrap_u16, e1]
    exact h
  · cases h
def saucierref06_Wide.f (h l : Int) : Option Int := if (0 ≤ h ∧ h < 65536) ∧ 0 ≤ l ∧ l < 65536 then some (h * 65536 + l) else none
theorem saucierref06_Wide.calls (a0 a1 r : Int) (w : World) (h : saucierref06_Wide.f a0 a1 = some r) : Calls Try.prog 36 #[.int .u16 a0, .int .u16 a1] w fun e w' => e = .returned (.int .u32 r) ∧ Drawn0 w w' := by
  unfold saucierref06_Wide.f at h
  split at h
  · rename_i hr
    refine G.saucierref06_Wide.calls a0 a1 r w ?_
    unfold G.saucierref06_Wide.f
    have e1 : ((((65536 * (a0 % 4294967296)) % 4294967296) + (a1 % 4294967296)) % 4294967296) = a0 * 65536 + a1 := by omega
    rw [e1]
    exact h
  · cases h
/-- The value of a signed register. -/
def sgn (x : Int) : Int := if x ≥ 32768 then x - 65536 else x
def words_Signed.f (x : Int) : Option Int := if 0 ≤ x ∧ x < 65536 then some (sgn x) else none
theorem words_Signed.calls (a0 r : Int) (w : World) (h : words_Signed.f a0 = some r) : Calls Try.prog 37 #[.int .u16 a0] w fun e w' => e = .returned (.int .i64 r) ∧ Drawn0 w w' := by
  unfold words_Signed.f at h
  split at h
  · rename_i hr
    refine G.words_Signed.calls a0 r w ?_
    unfold G.words_Signed.f
    have e1 : wrap64 (IntKind.i16.wrap a0) = sgn a0 := by
      rw [wrap_i16 a0]
      unfold wrap64 sgn
      split <;> split <;> omega
    rw [e1]
    exact h
  · cases h
def saucierref06_Signed.f (x : Int) : Option Int := if 0 ≤ x ∧ x < 65536 then some (sgn x) else none
theorem saucierref06_Signed.calls (a0 r : Int) (w : World) (h : saucierref06_Signed.f a0 = some r) : Calls Try.prog 38 #[.int .u16 a0] w fun e w' => e = .returned (.int .i64 r) ∧ Drawn0 w w' := by
  unfold saucierref06_Signed.f at h
  split at h
  · rename_i hr
    refine G.saucierref06_Signed.calls a0 r w ?_
    rw [← h]
    unfold G.saucierref06_Signed.f sgn
    split
    · congr 1; unfold wrap64; omega
    · congr 1; unfold wrap64; omega
  · cases h
def words_Word.f (x : Int) : Option (Int × Bool) := if -9223372036854775808 ≤ x ∧ x < 9223372036854775808 then some (if -32768 ≤ x ∧ x ≤ 32767 then (x % 65536, true) else (0, false)) else none
theorem words_Word.calls (a0 : Int) (r1 : Int) (r2 : Bool) (w : World) (h : words_Word.f a0 = some (r1, r2)) : Calls Try.prog 39 #[.int .i64 a0] w fun e w' => e = .returned (.tuple #[.int .u16 r1, .bool r2]) ∧ Drawn0 w w' := by
  unfold words_Word.f at h
  split at h
  · rename_i hr
    refine G.words_Word.calls a0 r1 r2 w ?_
    rw [← h]
    unfold G.words_Word.f
    have hc : a0 = wrap64 (IntKind.i16.wrap a0) ↔ -32768 ≤ a0 ∧ a0 ≤ 32767 := by
      rw [wrap_i16 a0]
      unfold wrap64
      split <;> omega
    by_cases c : -32768 ≤ a0 ∧ a0 ≤ 32767
    · rw [if_pos (hc.2 c), if_pos c, IntKind.wrap_u16]
    · rw [if_neg (fun e => c (hc.1 e)), if_neg c]
  · cases h
/-! ### The law's comparisons -/
theorem drop_cons {α : Type} (l : List α) (i : Nat) (h : i < l.length) : l.drop i = l[i] :: l.drop (i + 1) := List.drop_eq_getElem_cons h
theorem rdOf_at {α : Type} (z : α) (l : List α) (i : Nat) (h : i < l.length) : rdOf z l (i : Int) = l[i] := by
  simp [rdOf, h]
theorem rd_at (l : List Int) (i : Nat) (h : i < l.length) : rd l (i : Int) = l[i] := by
  simp [rd, h]
theorem Bools_loop (a b : List Bool) (ha : a.length ≤ 9223372036854775807) (hl : a.length = b.length) (d : Nat) : ∀ (i k : Nat), i + d = a.length → d < k →
    G.saucierlaw06_Bools.l0 k a b (a.length : Int) (i : Int) = some (decide (a.drop i = b.drop i)) := by
  induction d with
  | zero =>
    intro i k hi hk
    obtain ⟨k, rfl⟩ : ∃ m, k = m + 1 := ⟨k - 1, by omega⟩
    rw [G.saucierlaw06_Bools.l0, if_neg (by omega), List.drop_of_length_le (by omega), List.drop_of_length_le (by omega)]
    rfl
  | succ d ih =>
    intro i k hi hk
    obtain ⟨k, rfl⟩ : ∃ m, k = m + 1 := ⟨k - 1, by omega⟩
    rw [G.saucierlaw06_Bools.l0, if_pos (by omega), if_pos (by omega), if_pos (by omega), if_pos (by omega), rdOf_at _ a i (by omega), rdOf_at _ b i (by omega), drop_cons a i (by omega), drop_cons b i (by omega), wrap_in i (by omega)]
    by_cases e : a[i] = b[i]
    · rw [if_neg (by simp [e]), ih (i + 1) k (by omega) (by omega), e]
      congr 1
      rw [decide_eq_decide, List.cons.injEq]
      exact ⟨fun h => ⟨rfl, h⟩, fun h => h.2⟩
    · rw [if_pos (by simp [e])]
      congr 1
      symm
      rw [decide_eq_false_iff_not, List.cons.injEq]
      exact fun h => e h.1
def saucierlaw06_Bools.f (a b : List Bool) : Option Bool := some (decide (a = b))
theorem Bools_is (a b : List Bool) (ha : a.length ≤ 9223372036854775807) (k : Nat) (hk : a.length < k) : G.saucierlaw06_Bools.f k a b = some (decide (a = b)) := by
  unfold G.saucierlaw06_Bools.f
  by_cases hl : a.length = b.length
  · rw [if_pos (by omega)]
    have h := Bools_loop a b ha hl a.length 0 k (by omega) hk
    rw [List.drop_zero, List.drop_zero] at h
    exact h
  · rw [if_neg (by omega)]
    congr 1
    exact (decide_eq_false (fun e => hl (by rw [e]))).symm
theorem saucierlaw06_Bools.calls (A0 : Option Addr) (c0 : Nat) (l0 : List Bool) (A1 : Option Addr) (c1 : Nat) (l1 : List Bool) (r : Bool) (w : World) (hr0 : Kd.C Kd.bool w A0 l0.length l0) (hc0 : l0.length ≤ c0) (hr1 : Kd.C Kd.bool w A1 l1.length l1) (hc1 : l1.length ≤ c1) (h : saucierlaw06_Bools.f l0 l1 = some r) :
    Calls Try.prog 25 #[.slice A0 l0.length c0, .slice A1 l1.length c1] w fun e w' => e = .returned (.bool r) ∧ Drawn0 w w' :=
  G.saucierlaw06_Bools.calls (l0.length + 1) A0 c0 l0 A1 c1 l1 r w hr0 hc0 hr1 hc1 ((Bools_is l0 l1 (Kd.C_max hr0) _ (by omega)).trans h)
theorem lawRegs_loop (a b : List Int) (ha : a.length ≤ 9223372036854775807) (hl : a.length = b.length) (d : Nat) : ∀ (i k : Nat), i + d = a.length → d < k →
    G.saucierlaw06_Regs.l0 k a b (a.length : Int) (i : Int) = some (decide (a.drop i = b.drop i)) := by
  induction d with
  | zero =>
    intro i k hi hk
    obtain ⟨k, rfl⟩ : ∃ m, k = m + 1 := ⟨k - 1, by omega⟩
    rw [G.saucierlaw06_Regs.l0, if_neg (by omega), List.drop_of_length_le (by omega), List.drop_of_length_le (by omega)]
    rfl
  | succ d ih =>
    intro i k hi hk
    obtain ⟨k, rfl⟩ : ∃ m, k = m + 1 := ⟨k - 1, by omega⟩
    rw [G.saucierlaw06_Regs.l0, if_pos (by omega), if_pos (by omega), if_pos (by omega), if_pos (by omega), rd_at a i (by omega), rd_at b i (by omega), drop_cons a i (by omega), drop_cons b i (by omega), wrap_in i (by omega)]
    by_cases e : a[i] = b[i]
    · rw [if_pos e, ih (i + 1) k (by omega) (by omega), e]
      congr 1
      rw [decide_eq_decide, List.cons.injEq]
      exact ⟨fun h => ⟨rfl, h⟩, fun h => h.2⟩
    · rw [if_neg e]
      congr 1
      symm
      rw [decide_eq_false_iff_not, List.cons.injEq]
      exact fun h => e h.1
def saucierlaw06_Regs.f (a b : List Int) : Option Bool := some (decide (a = b))
theorem lawRegs_is (a b : List Int) (ha : a.length ≤ 9223372036854775807) (k : Nat) (hk : a.length < k) : G.saucierlaw06_Regs.f k a b = some (decide (a = b)) := by
  unfold G.saucierlaw06_Regs.f
  by_cases hl : a.length = b.length
  · rw [if_pos (by omega)]
    have h := lawRegs_loop a b ha hl a.length 0 k (by omega) hk
    rw [List.drop_zero, List.drop_zero] at h
    exact h
  · rw [if_neg (by omega)]
    congr 1
    exact (decide_eq_false (fun e => hl (by rw [e]))).symm
theorem saucierlaw06_Regs.calls (A0 : Option Addr) (c0 : Nat) (l0 : List Int) (A1 : Option Addr) (c1 : Nat) (l1 : List Int) (r : Bool) (w : World) (hr0 : Kd.C (Kd.int .u16) w A0 l0.length l0) (hc0 : l0.length ≤ c0) (hr1 : Kd.C (Kd.int .u16) w A1 l1.length l1) (hc1 : l1.length ≤ c1) (h : saucierlaw06_Regs.f l0 l1 = some r) :
    Calls Try.prog 33 #[.slice A0 l0.length c0, .slice A1 l1.length c1] w fun e w' => e = .returned (.bool r) ∧ Drawn0 w w' :=
  G.saucierlaw06_Regs.calls (l0.length + 1) A0 c0 l0 A1 c1 l1 r w hr0 hc0 hr1 hc1 ((lawRegs_is l0 l1 (Kd.C_max hr0) _ (by omega)).trans h)
theorem str_inj (a b : List Int) (ha : inR 256 a) (hb : inR 256 b) (h : (strOfNums a).toList = (strOfNums b).toList) : a = b := by
  have hs : ∀ l : List Int, (strOfNums l).toList = l.map fun n => UInt8.ofNat n.toNat := by
    intro l
    rw [ByteArray.toList_eq]
    simp [strOfNums]
  rw [hs, hs] at h
  have hl : a.length = b.length := by simpa using congrArg List.length h
  apply List.ext_getElem hl
  intro i h1 h2
  have e := congrArg (fun l => l[i]?) h
  simp only [List.getElem?_map, List.getElem?_eq_getElem h1, List.getElem?_eq_getElem h2, Option.map_some, Option.some.injEq] at e
  have x := ha _ (List.getElem_mem h1)
  have y := hb _ (List.getElem_mem h2)
  have e2 := congrArg UInt8.toNat e
  simp only [UInt8.toNat_ofNat'] at e2
  omega
def saucierlaw06_Same.f (a b : List Int) : Option Bool := if inR 256 a ∧ inR 256 b then some (decide (a = b)) else none
theorem saucierlaw06_Same.calls (A0 : Option Addr) (c0 : Nat) (l0 : List Int) (A1 : Option Addr) (c1 : Nat) (l1 : List Int) (r : Bool) (w : World) (hr0 : Kd.C (Kd.int .u8) w A0 l0.length l0) (hc0 : l0.length ≤ c0) (hr1 : Kd.C (Kd.int .u8) w A1 l1.length l1) (hc1 : l1.length ≤ c1) (h : saucierlaw06_Same.f l0 l1 = some r) :
    Calls Try.prog 28 #[.slice A0 l0.length c0, .slice A1 l1.length c1] w fun e w' => e = .returned (.bool r) ∧ Drawn0 w w' := by
  unfold saucierlaw06_Same.f at h
  split at h
  · rename_i hr
    refine G.saucierlaw06_Same.calls A0 c0 l0 A1 c1 l1 r w hr0 hc0 hr1 hc1 ?_
    rw [← h]
    unfold G.saucierlaw06_Same.f
    congr 1
    by_cases e : l0 = l1
    · subst e; simp
    · rw [decide_eq_false e, beq_eq_false_iff_ne]
      exact fun h2 => e (str_inj l0 l1 hr.1 hr.2 h2)
  · cases h
end Go.Proofs.Ytjlckmekajlbmaa.H
