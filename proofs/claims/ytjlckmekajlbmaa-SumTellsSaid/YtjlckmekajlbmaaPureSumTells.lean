/-
  Proved: for every sum, bytes, registers and number of noughts, what package sum takes in and checks is what the document's reference takes in and checks, and the chapter's examples hold. No condition.
-/
import Derived.Test.YtjlckmekajlbmaaQ3
namespace Go.Proofs.Ytjlckmekajlbmaa.Pure
open Go.RowKit Go.Proofs.Ytjlckmekajlbmaa.Q Go.Proofs.Ytjlckmekajlbmaa.H Go.Proofs.YtjlckmekajlbmaaW.PrintWords Go.Proofs.YtjlckmekajlbmaaW.PrintLast
open Go.Proofs.Ytjlckmekajlbmaa.Crc
theorem wf_u32 {a : Int} (h : (Lit.int .u32 a).wf = true) : 0 ≤ a ∧ a < 4294967296 := by
  simp [Lit.wf, IntKind.min, IntKind.max, IntKind.signed, IntKind.bits] at h
  omega
theorem wf_u16 {a : Int} (h : (Lit.int .u16 a).wf = true) : 0 ≤ a ∧ a < 65536 := by
  simp [Lit.wf, IntKind.min, IntKind.max, IntKind.signed, IntKind.bits] at h
  omega
theorem wf_i64 {a : Int} (h : (Lit.int .i64 a).wf = true) : -9223372036854775808 ≤ a ∧ a < 9223372036854775808 := by
  simp [Lit.wf, IntKind.min, IntKind.max, IntKind.signed, IntKind.bits] at h
  omega
theorem tells_end (x0 : Int) (x1 x2 : List Int) (x3 : Int) (h0 : 0 ≤ x0 ∧ x0 < 4294967296) (h2 : x2.length ≤ 200) (hr : inR 65536 x2) (h3 : x3 < 9223372036854775808) (k : Nat) (hk : 0 < k) :
    saucierlaw08_SumTells.j2 k x0 x1 x2 x3 = some true := by
  obtain ⟨k, rfl⟩ : ∃ m, k = m + 1 := ⟨k - 1, by omega⟩
  have hb : sum_Bytes.f x1 = some (Z (crc x1)) := rfl
  have hb' : saucierref08_Bytes.f x1 = some (Z (crc x1)) := rfl
  have hw : sum_Words.f x2 = some (Z (crc (pack x2))) := by unfold sum_Words.f; rw [if_pos (by omega)]
  have hw' : saucierref08_Words.f x2 = some (Z (crc (pack x2))) := by unfold saucierref08_Words.f; rw [if_pos ⟨by omega, hr⟩]
  have hz : sum_Zeros.f x0 x3 = some (Z (steps (8 * x3.toNat) (B x0))) := by unfold sum_Zeros.f; rw [if_pos ⟨h0.1, h0.2, h3⟩]
  have hz' : saucierref08_Zeros.f x0 x3 = some (Z (steps (8 * x3.toNat) (B x0))) := by unfold saucierref08_Zeros.f; rw [if_pos ⟨h0.1, h0.2, h3⟩]
  simp only [saucierlaw08_SumTells.j2]
  rw [hb, hb', hw, hw', hz, hz']
  simp only [Option.bind_some, if_true]
  rfl
theorem tells_loop (x2 : List Int) (x3 : Int) (h2 : x2.length ≤ 200) (hr : inR 65536 x2) (h3 : -9223372036854775808 ≤ x3 ∧ x3 < 9223372036854775808) (l : List Int) (hl : l.length ≤ 500) (d : Nat) :
    ∀ (k i : Nat) (v : Int), i + d = l.length → d + 1 < k → 0 ≤ v ∧ v < 4294967296 → saucierlaw08_SumTells.l0 k v l x2 x3 v l (l.length : Int) (i : Int) = some true := by
  induction d with
  | zero =>
    intro k i v hi hk hv
    obtain ⟨k, rfl⟩ : ∃ m, k = m + 1 := ⟨k - 1, by omega⟩
    simp only [saucierlaw08_SumTells.l0]
    rw [if_neg (by omega)]
    by_cases h5 : x3 > 500
    · rw [if_pos h5]
      refine tells_end v l x2 _ hv h2 hr ?_ k (by omega)
      rw [Int.tmod_eq_emod_of_nonneg (by omega)]
      omega
    · rw [if_neg h5]
      exact tells_end v l x2 _ hv h2 hr (by omega) k (by omega)
  | succ d ih =>
    intro k i v hi hk hv
    obtain ⟨k, rfl⟩ : ∃ m, k = m + 1 := ⟨k - 1, by omega⟩
    have ha : sum_Add.f v (rd l (i : Int)) = some (Z (add (B v) (B (rd l (i : Int))))) := rfl
    have ha' : saucierref08_Add.f v (rd l (i : Int)) = some (Z (add (B v) (B (rd l (i : Int))))) := rfl
    simp only [saucierlaw08_SumTells.l0]
    rw [if_pos (by omega), if_pos (by omega), if_pos (by omega), ha, ha']
    simp only [Option.bind_some, if_true]
    rw [wrap_in i (by omega)]
    exact ih k (i + 1) _ (by omega) (by omega) ⟨Z_nonneg _, Z_lt _⟩
theorem SumTells : saucierlaw08_SumTells.Pure := by
  intro a0 l1 l2 a3 h0 _ _ _ _ _ h2 h3
  refine ⟨l1.length + 10, ?_⟩
  have awake : ∀ k, saucierlaw08_SumTells.j0 (k + 1) a0 l1 l2 a3 true = some true := fun k => rfl
  unfold saucierlaw08_SumTells.f
  by_cases c1 : (l1.length : Int) > 500
  · rw [if_pos c1]
    exact awake _
  · rw [if_neg c1]
    by_cases c2 : (l2.length : Int) > 200
    · rw [decide_eq_true c2]
      exact awake _
    · rw [decide_eq_false c2]
      simp only [saucierlaw08_SumTells.j0]
      rw [if_neg (by simp)]
      exact tells_loop l2 a3 (by omega) (fun x hx => wf_u16 (h2 x hx)) (wf_i64 h3) l1 (by omega) l1.length _ 0 a0 (by omega) (by omega) (wf_u32 h0)
end Go.Proofs.Ytjlckmekajlbmaa.Pure
