/-
  Proved: for any two sums and any two numbers, taken up to 2^40: so many noughts and so many more are as many as both; one is what Add takes in; none or fewer leave the sum; a sum is 0 behind them just if it was; no two sums come to the same; and exclusive or goes through. No condition.
-/
import Derived.Test.YtjlckmekajlbmaaQ4
namespace Go.Proofs.Ytjlckmekajlbmaa.Pure
open Go.RowKit Go.Proofs.Ytjlckmekajlbmaa.Q Go.Proofs.Ytjlckmekajlbmaa.H Go.Proofs.YtjlckmekajlbmaaW.PrintWords Go.Proofs.YtjlckmekajlbmaaW.PrintLast
open Go.Proofs.Ytjlckmekajlbmaa.Crc
theorem wf_u32 {a : Int} (h : (Lit.int .u32 a).wf = true) : 0 ≤ a ∧ a < 4294967296 := by
  simp [Lit.wf, IntKind.min, IntKind.max, IntKind.signed, IntKind.bits] at h
  omega
theorem wf_u64 {a : Int} (h : (Lit.int .u64 a).wf = true) : 0 ≤ a ∧ a < 18446744073709551616 := by
  simp [Lit.wf, IntKind.min, IntKind.max, IntKind.signed, IntKind.bits] at h
  omega
theorem zeros_eq (v : W) (n : Int) (hn : n < 9223372036854775808) : sum_Zeros.f (Z v) n = some (Z (steps (8 * n.toNat) v)) := by
  unfold sum_Zeros.f
  rw [if_pos ⟨Z_nonneg v, Z_lt v, hn⟩, B_Z]
theorem upto (a : Int) (h : (Lit.int .u64 a).wf = true) : ∃ n : Nat, n ≤ 1099511627776 ∧ wrap64 (Int.tmod a 1099511627777) = (n : Int) := by
  have h0 := wf_u64 h
  refine ⟨(a % 1099511627777).toNat, by omega, ?_⟩
  rw [Int.tmod_eq_emod_of_nonneg h0.1]
  unfold wrap64
  omega
theorem Z_beq (a b : W) : (Z a == Z b) = decide (a = b) := by
  by_cases h : a = b
  · subst h; simp
  · rw [decide_eq_false h]
    simp only [beq_eq_false_iff_ne, ne_eq]
    exact fun e => h (Z_inj a b e)
theorem Z_zero (a : W) : (Z a == 0) = decide (a = 0#32) := by
  have h : (0 : Int) = Z 0#32 := by decide
  rw [h, Z_beq]
theorem SumZeros : saucierlaw08_SumZeros.Pure := by
  intro a0 a1 a2 a3 h0 h1 h2 h3
  obtain ⟨s, rfl⟩ : ∃ s, a0 = Z s := ⟨B a0, (Z_B a0 (wf_u32 h0).1 (wf_u32 h0).2).symm⟩
  obtain ⟨t, rfl⟩ : ∃ t, a1 = Z t := ⟨B a1, (Z_B a1 (wf_u32 h1).1 (wf_u32 h1).2).symm⟩
  obtain ⟨n, hn, en⟩ := upto a2 h2
  obtain ⟨m, hm, em⟩ := upto a3 h3
  refine ⟨1, ?_⟩
  unfold saucierlaw08_SumZeros.f
  rw [en, em]
  have e1 : wrap64 ((n : Int) + (m : Int)) = ((n + m : Nat) : Int) := by unfold wrap64; omega
  have e2 : wrap64 ((-1) - (n : Int)) = -1 - (n : Int) := by unfold wrap64; omega
  have e3 : steps (8 * m) (steps (8 * n) s) = steps (8 * (n + m)) s := by rw [Nat.mul_add, steps_add]
  have e4 : sum_Add.f (Z s) 0 = some (Z (steps 8 s)) := by
    have hb : B 0 = 0#32 := by decide
    unfold sum_Add.f add
    rw [B_Z, hb, BitVec.xor_zero]
  have e5 : ((-1 : Int) - (n : Int)).toNat = 0 := by omega
  have e6 : (8 * (1 : Int).toNat) = 8 := rfl
  have e7 : steps (8 * (0 : Int).toNat) s = s := rfl
  have e9 : steps (8 * 0) s = s := rfl
  have z1 := zeros_eq s n (by omega)
  have z2 := zeros_eq (steps (8 * n) s) m (by omega)
  have z3 := zeros_eq s ((n + m : Nat) : Int) (by omega)
  have z4 := zeros_eq s 1 (by omega)
  have z5 := zeros_eq s 0 (by omega)
  have z6 := zeros_eq s (-1 - (n : Int)) (by omega)
  have z7 := zeros_eq t n (by omega)
  have z8 := zeros_eq (s ^^^ t) n (by omega)
  rw [Int.toNat_natCast] at z1 z2 z3 z7 z8
  rw [e3] at z2
  rw [e6] at z4
  rw [e7] at z5
  rw [e5, e9] at z6
  rw [e1, e2, z1, Option.bind_some, z2, Option.bind_some, z3, Option.bind_some, if_pos rfl, z4, Option.bind_some, e4, Option.bind_some, if_pos rfl, z5, Option.bind_some, if_pos rfl, z6, Option.bind_some, bne_self_eq_false]
  rw [saucierlaw08_SumZeros.j0, if_neg (by simp)]
  have q1 : ((Z (steps (8 * n) s) == 0) == (Z s == 0)) = true := by
    rw [Z_zero, Z_zero, beq_iff_eq, decide_eq_decide]
    constructor
    · intro h
      refine Decidable.byContradiction fun hne => steps_ne (8 * n) s hne h
    · intro h; rw [h, steps_zero]
  have q2 : ((Z (steps (8 * n) s) == Z (steps (8 * n) t)) == (Z s == Z t)) = true := by
    rw [Z_beq, Z_beq, beq_iff_eq, decide_eq_decide]
    exact ⟨steps_inj _ s t, fun h => by rw [h]⟩
  rw [if_pos q1, z7, Option.bind_some, if_pos q2, z1, Option.bind_some, Option.bind_some, xor32, B_Z, B_Z, z8, Option.bind_some, xor32, B_Z, B_Z, steps_xor, if_pos rfl]
  rfl
end Go.Proofs.Ytjlckmekajlbmaa.Pure
