/-
  Proved: for every bytes, number of bits, bits, registers and number, the bits and registers of bytes, the bytes of these, and the numbers in registers are as the document's reference tells them; a number is put into a register just where it fits, and read from it again; and the chapter's examples hold. No condition.
-/
import Derived.Test.YtjlckmekajlbmaaRa
import Derived.Test.YtjlckmekajlbmaaVg
namespace Go.Proofs.Ytjlckmekajlbmaa.Pure
open Go.RowKit Go.Proofs.Ytjlckmekajlbmaa.R Go.Proofs.Ytjlckmekajlbmaa.H Go.Proofs.YtjlckmekajlbmaaW.PrintWords Go.Proofs.YtjlckmekajlbmaaW.PrintLast
theorem wft_u8 {a : Int} (h : (Lit.int .u8 a).wf = true) : 0 ≤ a ∧ a < 256 := by
  simp [Lit.wf, IntKind.min, IntKind.max, IntKind.signed, IntKind.bits] at h
  omega
theorem wft_u16 {a : Int} (h : (Lit.int .u16 a).wf = true) : 0 ≤ a ∧ a < 65536 := by
  simp [Lit.wf, IntKind.min, IntKind.max, IntKind.signed, IntKind.bits] at h
  omega
theorem wft_i64 {a : Int} (h : (Lit.int .i64 a).wf = true) : -9223372036854775808 ≤ a ∧ a < 9223372036854775808 := by
  simp [Lit.wf, IntKind.min, IntKind.max, IntKind.signed, IntKind.bits] at h
  omega
theorem same_tell (a : List Int) (h : inR 256 a) : saucierlaw06_Same.f a a = some true := by
  unfold saucierlaw06_Same.f
  rw [if_pos ⟨h, h⟩, decide_eq_true rfl]
/-- Behind the registers: a number that fits a register, or does not. -/
theorem tell_word (x3 : List Int) (x4 : Int) (h4 : -9223372036854775808 ≤ x4 ∧ x4 < 9223372036854775808) (i : Int) (hi : (x3.length : Int) ≤ i) (k : Nat) : saucierlaw06_WordsTell.l0 (k + 1) x3 x4 i = some true := by
  rw [saucierlaw06_WordsTell.l0, if_neg (by omega)]
  by_cases c : -32768 ≤ x4 ∧ x4 ≤ 32767
  · have w : words_Word.f x4 = some (x4 % 65536, true) := by unfold words_Word.f; rw [if_pos h4, if_pos c]
    have s : saucierref06_Signed.f (x4 % 65536) = some x4 := by unfold saucierref06_Signed.f; rw [if_pos (by omega), sgn_mod x4 c]
    rw [w, Option.bind_some, if_pos (by omega), if_pos (by rw [decide_eq_true c.2]; rfl), if_pos rfl, s, Option.bind_some, if_pos rfl]
    rfl
  · have w : words_Word.f x4 = some (0, false) := by unfold words_Word.f; rw [if_pos h4, if_neg c]
    rw [w, Option.bind_some]
    by_cases c2 : x4 ≥ -32768
    · rw [if_pos c2, if_pos (by rw [decide_eq_false (by omega)]; rfl), if_neg (by simp), if_pos rfl]
      rfl
    · rw [if_neg c2]
      rfl
/-- The registers, two by two. -/
theorem tell_loop (x3 : List Int) (x4 : Int) (hr : inR 65536 x3) (hl : x3.length ≤ 200) (h4 : -9223372036854775808 ≤ x4 ∧ x4 < 9223372036854775808) (d : Nat) : ∀ (i k : Nat), x3.length ≤ i + d → 2 * d < k →
    saucierlaw06_WordsTell.l0 k x3 x4 ((i + 1 : Nat) : Int) = some true := by
  induction d with
  | zero =>
    intro i k hi hk
    obtain ⟨k, rfl⟩ : ∃ m, k = m + 1 := ⟨k - 1, by omega⟩
    exact tell_word x3 x4 h4 _ (by omega) k
  | succ d ih =>
    intro i k hi hk
    by_cases c : i + 1 < x3.length
    · obtain ⟨k, rfl⟩ : ∃ m, k = m + 2 := ⟨k - 2, by omega⟩
      have a := hr.at_ i (by omega)
      have b := hr.at_ (i + 1) c
      have hw : wrap64 (((i + 1 : Nat) : Int) - 1) = (i : Int) := by unfold wrap64; omega
      rw [saucierlaw06_WordsTell.l0, hw]
      clear hw
      generalize rd x3 (i : Int) = A at a ⊢
      generalize rd x3 ((i + 1 : Nat) : Int) = B at b ⊢
      have w1 : words_Wide.f A B = some (A * 65536 + B) := by unfold words_Wide.f; rw [if_pos ⟨a, b⟩]
      have w2 : saucierref06_Wide.f A B = some (A * 65536 + B) := by unfold saucierref06_Wide.f; rw [if_pos ⟨a, b⟩]
      have p : words_Parts.f (A * 65536 + B) = some (A, B) := by
        unfold words_Parts.f
        rw [if_pos (by omega), show (A * 65536 + B) / 65536 = A by omega, show (A * 65536 + B) % 65536 = B by omega]
      have s1 : words_Signed.f B = some (sgn B) := by unfold words_Signed.f; rw [if_pos b]
      have s2 : saucierref06_Signed.f B = some (sgn B) := by unfold saucierref06_Signed.f; rw [if_pos b]
      rw [if_pos (by omega), if_pos (by omega), if_pos (by omega), if_pos (by omega), w1, Option.bind_some, p, Option.bind_some, w2, Option.bind_some, if_pos rfl, if_pos rfl, if_pos rfl, s1, Option.bind_some, s2, Option.bind_some, saucierlaw06_WordsTell.j3, if_neg (by simp), wrap_in (i + 1) (by omega)]
      exact ih (i + 1) k (by omega) (by omega)
    · obtain ⟨k, rfl⟩ : ∃ m, k = m + 1 := ⟨k - 1, by omega⟩
      exact tell_word x3 x4 h4 _ (by omega) k
theorem WordsTell (l0 : List Int) (a1 : Int) (l2 : List Bool) (l3 : List Int) (a4 : Int) (h0 : ∀ x ∈ l0, (Lit.int .u8 x).wf = true) (h1 : (Lit.int .i64 a1).wf = true) (h3 : ∀ x ∈ l3, (Lit.int .u16 x).wf = true) (h4 : (Lit.int .i64 a4).wf = true) :
    ∃ k, saucierlaw06_WordsTell.f k l0 a1 l2 l3 a4 = some true := by
  have h0 : inR 256 l0 := fun x hx => wft_u8 (h0 x hx)
  have h1 := wft_i64 h1
  have h3 : inR 65536 l3 := fun x hx => wft_u16 (h3 x hx)
  have h4 := wft_i64 h4
  refine ⟨2 * l3.length + 3, ?_⟩
  have awake : ∀ k, saucierlaw06_WordsTell.j0 (k + 1) l0 a1 l2 l3 a4 true = some true := fun k => rfl
  unfold saucierlaw06_WordsTell.f
  by_cases c1 : (l0.length : Int) > 300
  · rw [if_pos c1]
    exact awake _
  · rw [if_neg c1]
    by_cases c2 : (l2.length : Int) > 500
    · rw [if_pos c2]
      exact awake _
    · rw [if_neg c2]
      by_cases c3 : (l3.length : Int) > 200
      · rw [decide_eq_true c3]
        exact awake _
      · rw [decide_eq_false c3]
        have g1 : words_Regs.f l0 = some (regsOf l0) := by unfold words_Regs.f; rw [if_pos ⟨by omega, h0⟩]
        have g2 : saucierref06_Regs.f l0 = some (regsOf l0) := by unfold saucierref06_Regs.f; rw [if_pos ⟨by omega, h0⟩]
        have b1 : words_Bits.f l0 a1 = some (bitsOf l0 a1) := by unfold words_Bits.f; rw [if_pos ⟨by omega, h0, h1.2⟩]
        have b2 : saucierref06_Bits.f l0 a1 = some (bitsOf l0 a1) := by unfold saucierref06_Bits.f; rw [if_pos ⟨by omega, h0, h1.2⟩]
        have e0 : saucierlaw06_Bools.f (bitsOf l0 a1) (bitsOf l0 a1) = some true := by unfold saucierlaw06_Bools.f; rw [decide_eq_true rfl]
        have p1 : words_PackBits.f l2 = some (packBits l2) := by unfold words_PackBits.f; rw [if_pos (by omega)]
        have p2 : saucierref06_PackBits.f l2 = some (packBits l2) := by unfold saucierref06_PackBits.f; rw [if_pos (by omega)]
        have q1 : words_PackRegs.f l3 = some (pack l3) := by unfold words_PackRegs.f; rw [if_pos (by omega)]
        have q2 : saucierref06_PackRegs.f l3 = some (pack l3) := by unfold saucierref06_PackRegs.f; rw [if_pos ⟨by omega, h3⟩]
        have e1 : saucierlaw06_Regs.f (regsOf l0).1 (regsOf l0).1 = some true := by unfold saucierlaw06_Regs.f; rw [decide_eq_true rfl]
        rw [saucierlaw06_WordsTell.j0, if_neg (by simp), g1, Option.bind_some, g2, Option.bind_some, b1, Option.bind_some, b2, Option.bind_some, e0, Option.bind_some, if_pos rfl, p1, Option.bind_some, p2, Option.bind_some, same_tell _ (pack_inR l2), Option.bind_some, if_pos rfl,
          q1, Option.bind_some, q2, Option.bind_some, same_tell _ (packR_inR l3), Option.bind_some, if_pos rfl, if_neg (by simp), e1, Option.bind_some, saucierlaw06_WordsTell.j1, if_neg (by simp)]
        exact tell_loop l3 a4 h3 (by omega) h4 l3.length 0 _ (by omega) (by omega)
end Go.Proofs.Ytjlckmekajlbmaa.Pure
