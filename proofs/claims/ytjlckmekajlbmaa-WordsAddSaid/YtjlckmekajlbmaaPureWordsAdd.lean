/-
  Proved: registers behind others are packed as bytes behind others; numbers of 32 bits are in order as their halves are; signed registers are in order from 2^15 on and then from 0, and lie in their range; and the chapter's examples hold. No condition.
-/
import Derived.Test.YtjlckmekajlbmaaR4
import Derived.Test.YtjlckmekajlbmaaVg
namespace Go.Proofs.Ytjlckmekajlbmaa.Pure
open Go.RowKit Go.Proofs.Ytjlckmekajlbmaa.R Go.Proofs.Ytjlckmekajlbmaa.H Go.Proofs.YtjlckmekajlbmaaW.PrintWords Go.Proofs.YtjlckmekajlbmaaW.PrintLast
theorem wf6_u32 {a : Int} (h : (Lit.int .u32 a).wf = true) : 0 ≤ a ∧ a < 4294967296 := by
  simp [Lit.wf, IntKind.min, IntKind.max, IntKind.signed, IntKind.bits] at h
  omega
theorem wf6_u16 {a : Int} (h : (Lit.int .u16 a).wf = true) : 0 ≤ a ∧ a < 65536 := by
  simp [Lit.wf, IntKind.min, IntKind.max, IntKind.signed, IntKind.bits] at h
  omega
theorem same_self (a b : List Int) (h : inR 256 a) (e : a = b) : saucierlaw06_Same.f a b = some true := by
  subst e
  unfold saucierlaw06_Same.f
  rw [if_pos ⟨h, h⟩, decide_eq_true rfl]
theorem add_end (a4 a5 : Int) (h4 : 0 ≤ a4 ∧ a4 < 65536) (h5 : 0 ≤ a5 ∧ a5 < 65536) (k : Nat) (b : Bool) (hb : b = false) : saucierlaw06_WordsAdd.j1 (k + 1) a4 a5 b = some true := by
  subst hb
  have s4 : words_Signed.f a4 = some (sgn a4) := by unfold words_Signed.f; rw [if_pos h4]
  have s5 : words_Signed.f a5 = some (sgn a5) := by unfold words_Signed.f; rw [if_pos h5]
  have hr := sgn_range a4 h4
  rw [saucierlaw06_WordsAdd.j1, if_neg (by simp), s4, Option.bind_some, s5, Option.bind_some, if_pos (by rw [sgn_order _ _ h4 h5]; simp), Option.bind_some, if_pos (by omega), Option.bind_some, if_pos (by omega)]
  rfl
theorem WordsAdd : saucierlaw06_WordsAdd.Pure := by
  intro l0 l1 a2 a3 a4 a5 _ _ _ _ _ _ h2 h3 h4 h5
  have h2 := wf6_u32 h2
  have h3 := wf6_u32 h3
  have h4 := wf6_u16 h4
  have h5 := wf6_u16 h5
  refine ⟨2, ?_⟩
  have awake : ∀ k, saucierlaw06_WordsAdd.j0 (k + 1) l0 l1 a2 a3 a4 a5 true = some true := fun k => rfl
  unfold saucierlaw06_WordsAdd.f
  by_cases c1 : (l0.length : Int) > 100
  · rw [if_pos c1]
    exact awake _
  · rw [if_neg c1]
    by_cases c2 : (l1.length : Int) > 100
    · rw [decide_eq_true c2]
      exact awake _
    · rw [decide_eq_false c2]
      have p0 : words_PackRegs.f l0 = some (pack l0) := by unfold words_PackRegs.f; rw [if_pos (by omega)]
      have p1 : words_PackRegs.f l1 = some (pack l1) := by unfold words_PackRegs.f; rw [if_pos (by omega)]
      have p2 : words_PackRegs.f (([] ++ l0) ++ l1) = some (pack (([] ++ l0) ++ l1)) := by unfold words_PackRegs.f; rw [if_pos (by rw [List.length_append, List.length_append, List.length_nil]; omega)]
      have sm : saucierlaw06_Same.f (pack (([] ++ l0) ++ l1)) (([] ++ pack l0) ++ pack l1) = some true := same_self _ _ (packR_inR _) (by rw [List.nil_append, List.nil_append, pack_add])
      have q0 := pack_len l0
      have q1 := pack_len l1
      have d2 : words_Parts.f a2 = some (a2 / 65536, a2 % 65536) := by unfold words_Parts.f; rw [if_pos h2]
      have d3 : words_Parts.f a3 = some (a3 / 65536, a3 % 65536) := by unfold words_Parts.f; rw [if_pos h3]
      rw [saucierlaw06_WordsAdd.j0, if_neg (by simp), Option.bind_some, if_pos (by rw [List.length_nil]; omega), Option.bind_some, if_pos (by rw [List.length_append, List.length_nil]; omega), p2, Option.bind_some, Option.bind_some, p0, Option.bind_some,
        if_pos (by rw [List.length_nil]; omega), Option.bind_some, p1, Option.bind_some, if_pos (by rw [List.length_append, List.length_nil]; omega), sm, Option.bind_some, if_pos rfl, d2, Option.bind_some, d3, Option.bind_some]
      by_cases c3 : a2 / 65536 < a3 / 65536
      · rw [if_pos c3]
        exact add_end a4 a5 h4 h5 0 _ (by rw [decide_eq_true (by omega)]; rfl)
      · rw [if_neg c3]
        by_cases c4 : a2 / 65536 = a3 / 65536
        · rw [if_pos c4]
          refine add_end a4 a5 h4 h5 0 _ ?_
          have : decide (a2 < a3) = decide (a2 % 65536 < a3 % 65536) := by rw [decide_eq_decide]; omega
          rw [this]
          simp
        · rw [if_neg c4]
          exact add_end a4 a5 h4 h5 0 _ (by rw [decide_eq_false (by omega)]; rfl)
end Go.Proofs.Ytjlckmekajlbmaa.Pure
