/-
  Proved: what is packed is told again: bits, registers, numbers of 32 bits, signed registers; and bytes that are bits, or registers, are packed again as they were; and the chapter's examples hold. No condition.
-/
import Derived.Test.YtjlckmekajlbmaaR2
import Derived.Test.YtjlckmekajlbmaaVg
namespace Go.Proofs.Ytjlckmekajlbmaa.Pure
open Go.RowKit Go.Proofs.Ytjlckmekajlbmaa.R Go.Proofs.Ytjlckmekajlbmaa.H Go.Proofs.YtjlckmekajlbmaaW.PrintWords Go.Proofs.YtjlckmekajlbmaaW.PrintLast
theorem wfb_u8 {a : Int} (h : (Lit.int .u8 a).wf = true) : 0 ≤ a ∧ a < 256 := by
  simp [Lit.wf, IntKind.min, IntKind.max, IntKind.signed, IntKind.bits] at h
  omega
theorem wfb_u16 {a : Int} (h : (Lit.int .u16 a).wf = true) : 0 ≤ a ∧ a < 65536 := by
  simp [Lit.wf, IntKind.min, IntKind.max, IntKind.signed, IntKind.bits] at h
  omega
theorem wfb_u32 {a : Int} (h : (Lit.int .u32 a).wf = true) : 0 ≤ a ∧ a < 4294967296 := by
  simp [Lit.wf, IntKind.min, IntKind.max, IntKind.signed, IntKind.bits] at h
  omega
theorem same_back (a b : List Int) (h : inR 256 a) (e : a = b) : saucierlaw06_Same.f a b = some true := by
  subst e
  unfold saucierlaw06_Same.f
  rw [if_pos ⟨h, h⟩, decide_eq_true rfl]
/-- Bytes that are registers are packed again as they were. -/
theorem back_regs (b : List Int) (hl : b.length ≤ 300) (hb : inR 256 b) (k : Nat) (z : Bool) (hz : z = false) : saucierlaw06_WordsBack.j2 (k + 1) b z = some true := by
  subst hz
  have r : words_Regs.f b = some (regsOf b) := by unfold words_Regs.f; rw [if_pos ⟨by omega, hb⟩]
  rw [saucierlaw06_WordsBack.j2, if_neg (by simp), r, Option.bind_some]
  by_cases c : b.length % 2 = 1
  · have e : regsOf b = ([], false) := by unfold regsOf; rw [if_pos c]
    rw [e, if_pos ?_, if_neg (by simp)]
    · rfl
    · have : ((b.length : Int) % 2 == 0) = false := beq_eq_false_iff_ne.mpr (by omega)
      rw [this]
      rfl
  · have e : regsOf b = (unpack b, true) := by unfold regsOf; rw [if_neg c]
    have hu := unpack_len b
    have p : words_PackRegs.f (unpack b) = some b := by unfold words_PackRegs.f; rw [if_pos (by omega), pack_unpack b hb (by omega)]
    rw [e, if_pos ?_, if_pos rfl, p, Option.bind_some, same_back b b hb rfl, Option.bind_some, if_pos rfl]
    · rfl
    · have : ((b.length : Int) % 2 == 0) = true := beq_iff_eq.mpr (by omega)
      rw [this]
      rfl
/-- Bytes that are bits are packed again as they were. -/
theorem back_bits (b : List Int) (hl : b.length ≤ 300) (hb : inR 256 b) (n : Int) (hn : 0 ≤ n ∧ n < 65536) (k : Nat) (z : Bool) (hz : z = false) : saucierlaw06_WordsBack.j1 (k + 2) b n z = some true := by
  subst hz
  have hw : wrap64 n = n := by unfold wrap64; omega
  have r : words_Bits.f b n = some (bitsOf b n) := by unfold words_Bits.f; rw [if_pos ⟨by omega, hb, by omega⟩]
  rw [saucierlaw06_WordsBack.j1, if_neg (by simp), hw, r, Option.bind_some]
  clear hw
  by_cases c : ((bitsOf b n).length : Int) > 0
  · obtain ⟨h1, h2, h3⟩ := bits_back b hb n (by omega)
    have hm := bits_most b n
    have p : words_PackBits.f (bitsOf b n) = some b := by unfold words_PackBits.f; rw [if_pos (by omega), h3]
    rw [if_pos c, if_pos (by omega), p, Option.bind_some, same_back b b hb rfl, Option.bind_some]
    exact back_regs b hl hb k _ rfl
  · rw [if_neg c]
    exact back_regs b hl hb k _ rfl
theorem WordsBack (l0 : List Bool) (l1 : List Int) (a2 a3 : Int) (l4 : List Int) (a5 : Int) (h1 : ∀ x ∈ l1, (Lit.int .u16 x).wf = true) (h2 : (Lit.int .u32 a2).wf = true) (h3 : (Lit.int .u16 a3).wf = true) (h4 : ∀ x ∈ l4, (Lit.int .u8 x).wf = true) (h5 : (Lit.int .u16 a5).wf = true) :
    ∃ k, saucierlaw06_WordsBack.f k l0 l1 a2 a3 l4 a5 = some true := by
  have h1 : inR 65536 l1 := fun x hx => wfb_u16 (h1 x hx)
  have h2 := wfb_u32 h2
  have h3 := wfb_u16 h3
  have h4 : inR 256 l4 := fun x hx => wfb_u8 (h4 x hx)
  have h5 := wfb_u16 h5
  refine ⟨3, ?_⟩
  have awake : ∀ k, saucierlaw06_WordsBack.j0 (k + 1) l0 l1 a2 a3 l4 a5 true = some true := fun k => rfl
  unfold saucierlaw06_WordsBack.f
  by_cases c1 : (l0.length : Int) > 500
  · rw [if_pos c1]
    exact awake _
  · rw [if_neg c1]
    by_cases c2 : (l1.length : Int) > 200
    · rw [if_pos c2]
      exact awake _
    · rw [if_neg c2]
      by_cases c3 : (l4.length : Int) > 300
      · rw [decide_eq_true c3]
        exact awake _
      · rw [decide_eq_false c3]
        have q1 := pack_len l1
        have q0 := packBits_len l0
        have p1 : words_PackRegs.f l1 = some (pack l1) := by unfold words_PackRegs.f; rw [if_pos (by omega)]
        have g1 : words_Regs.f (pack l1) = some (l1, true) := by unfold words_Regs.f; rw [if_pos ⟨by omega, packR_inR l1⟩, regs_pack l1 h1]
        have d2 : words_Parts.f a2 = some (a2 / 65536, a2 % 65536) := by unfold words_Parts.f; rw [if_pos h2]
        have s3 : words_Signed.f a3 = some (sgn a3) := by unfold words_Signed.f; rw [if_pos h3]
        have hr := sgn_range a3 h3
        have w3 : words_Word.f (sgn a3) = some (a3, true) := by unfold words_Word.f; rw [if_pos (by omega), if_pos hr, mod_sgn a3 h3]
        have p0 : words_PackBits.f l0 = some (packBits l0) := by unfold words_PackBits.f; rw [if_pos (by omega)]
        have b0 : words_Bits.f (packBits l0) (l0.length : Int) = some l0 := by unfold words_Bits.f; rw [if_pos ⟨by omega, pack_inR l0, by omega⟩, bits_pack]
        have e0 : saucierlaw06_Bools.f l0 l0 = some true := by unfold saucierlaw06_Bools.f; rw [decide_eq_true rfl]
        have e1 : saucierlaw06_Regs.f l1 l1 = some true := by unfold saucierlaw06_Regs.f; rw [decide_eq_true rfl]
        have wd : words_Wide.f (a2 / 65536) (a2 % 65536) = some a2 := by unfold words_Wide.f; rw [if_pos (by omega)]; congr 1; omega
        rw [saucierlaw06_WordsBack.j0, if_neg (by simp), p1, Option.bind_some, g1, Option.bind_some, d2, Option.bind_some, s3, Option.bind_some, w3, Option.bind_some, p0, Option.bind_some, b0, Option.bind_some, e0, Option.bind_some, if_pos rfl, if_pos rfl, e1, Option.bind_some, if_pos rfl, wd, Option.bind_some, if_pos rfl, if_pos rfl]
        exact back_bits l4 (by omega) h4 a5 h5 0 _ (by simp)
end Go.Proofs.Ytjlckmekajlbmaa.Pure
