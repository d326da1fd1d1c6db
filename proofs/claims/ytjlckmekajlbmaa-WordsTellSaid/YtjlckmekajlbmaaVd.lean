/-
  PackBits and Bits of package words and of its reference: each by one plain Lean function, with no count of rounds.
-/
import Derived.Test.YtjlckmekajlbmaaVc
import Derived.Test.YtjlckmekajlbmaaG8
namespace Go.Proofs.Ytjlckmekajlbmaa.H
open Go.RowKit Go.Proofs.YtjlckmekajlbmaaW.PrintWords Go.Proofs.YtjlckmekajlbmaaW.PrintLast Go.Proofs.YtjlckmekajlbmaaW.PrintMore
set_option linter.unusedVariables false
theorem getD_at (l : List Bool) (i : Nat) (h : i < l.length) : l.getD i false = l[i] := by
  rw [List.getD_eq_getElem?_getD, List.getElem?_eq_getElem h]
  rfl
/-! ### PackBits -/
def words_PackBits.f (l : List Bool) : Option (List Int) := if l.length ≤ 10000000 then some (packBits l) else none
theorem PackBits_loop (l : List Bool) (hl : l.length ≤ 10000000) (d : Nat) : ∀ (i k : Nat), i + d = l.length → d < k →
    G.words_PackBits.l0 k l (packN l ((l.length + 7) / 8) i) (l.length : Int) (i : Int) = some (packBits l) := by
  induction d with
  | zero =>
    intro i k hi hk
    obtain ⟨k, rfl⟩ : ∃ m, k = m + 1 := ⟨k - 1, by omega⟩
    obtain rfl : i = l.length := by omega
    rw [G.words_PackBits.l0, if_neg (by omega)]
    rfl
  | succ d ih =>
    intro i k hi hk
    obtain ⟨k, rfl⟩ : ∃ m, k = m + 1 := ⟨k - 1, by omega⟩
    have h8 : (i : Int) / 8 = ((i / 8 : Nat) : Int) := by omega
    rw [G.words_PackBits.l0, if_pos (by omega), if_pos (by omega), if_pos (by omega), rdOf_at false l i (by omega), h8, and64_7 i (by omega), wrap_in i (by omega)]
    cases hb : l[i]
    · rw [if_neg (by simp), ← packN_off l _ i (by rw [getD_at l i (by omega), hb])]
      exact ih (i + 1) k (by omega) (by omega)
    · have ha := packN_at l ((l.length + 7) / 8) i (i / 8) (by omega)
      rw [if_pos rfl, if_pos (by omega), if_pos (by rw [packN_len]; omega), if_pos (by omega), Int.toNat_natCast, ha, bv_or _ _ (by omega), packN_on l _ i (by rw [getD_at l i (by omega), hb]) (by omega)]
      exact ih (i + 1) k (by omega) (by omega)
theorem PackBits_is (l : List Bool) (hl : l.length ≤ 10000000) (k : Nat) (hk : l.length < k) : G.words_PackBits.f k l = some (packBits l) := by
  unfold G.words_PackBits.f
  have w : wrap64 (Int.tdiv (wrap64 ((l.length : Int) + 7)) 8) = (((l.length + 7) / 8 : Nat) : Int) := by
    have w1 : wrap64 ((l.length : Int) + 7) = ((l.length + 7 : Nat) : Int) := by unfold wrap64; omega
    rw [w1, Int.tdiv_eq_ediv_of_nonneg (by omega)]
    unfold wrap64
    omega
  rw [w, if_pos (by omega), Int.toNat_natCast, if_pos (by omega), ← packN_zero l]
  exact PackBits_loop l hl l.length 0 k (by omega) hk
theorem words_PackBits.calls (A0 : Option Addr) (c0 : Nat) (l0 : List Bool) (r : List Int) (w : World) (hr0 : Kd.C Kd.bool w A0 l0.length l0) (hc0 : l0.length ≤ c0) (h : words_PackBits.f l0 = some r) :
    Calls Try.prog 29 #[.slice A0 l0.length c0] w fun e w' => ∃ v0_ : Value, e = .returned (v0_) ∧ Kd.R (Kd.int .u8) 5 w' w.heap.size (fun _ => True) v0_ r ∧ Below w.heap.size w w' := by
  unfold words_PackBits.f at h
  split at h
  · rename_i hr
    exact G.words_PackBits.calls (l0.length + 1) A0 c0 l0 r w hr0 hc0 ((PackBits_is l0 hr _ (by omega)).trans h)
  · cases h
/-! ### the reference's PackBits -/
theorem worth_loop (l : List Bool) (x : List Int) (i : Nat) (hi : i < 9223372036854775800) (d : Nat) : ∀ (q k : Nat), q + d = i % 8 → d < k →
    G.saucierref06_PackBits.l1 k l x (i : Int) ((2 : Int) ^ q) (q : Int) = G.saucierref06_PackBits.l1 (k - d) l x (i : Int) ((2 : Int) ^ (i % 8)) ((i % 8 : Nat) : Int) := by
  induction d with
  | zero =>
    intro q k hq hk
    obtain rfl : q = i % 8 := by omega
    rfl
  | succ d ih =>
    intro q k hq hk
    obtain ⟨k, rfl⟩ : ∃ m, k = m + 1 := ⟨k - 1, by omega⟩
    have hm : Int.tmod (i : Int) 8 = ((i % 8 : Nat) : Int) := by rw [Int.tmod_eq_emod_of_nonneg (by omega)]; omega
    have hp : (2 : Int) ^ q * 2 % 256 = (2 : Int) ^ (q + 1) := by
      have h8 : ∀ q : Fin 7, (2 : Int) ^ q.val * 2 % 256 = (2 : Int) ^ (q.val + 1) := by decide
      exact h8 ⟨q, by omega⟩
    conv => lhs; rw [G.saucierref06_PackBits.l1]
    rw [hm, if_pos (by omega), hp, wrap_in q (by omega), ih (q + 1) k (by omega) (by omega), show k + 1 - (d + 1) = k - d by omega]
theorem worth_end (l : List Bool) (x : List Int) (i : Nat) (hi : i < 9223372036854775800) (hx : x.length = i / 8 + 1) (k : Nat) (hk : 0 < k) :
    G.saucierref06_PackBits.l1 k l x (i : Int) ((2 : Int) ^ (i % 8)) ((i % 8 : Nat) : Int) = G.saucierref06_PackBits.l0 (k - 1) l (x.set (i / 8) ((rd x ((i / 8 : Nat) : Int) + (2 : Int) ^ (i % 8)) % 256)) ((i + 1 : Nat) : Int) := by
  obtain ⟨k, rfl⟩ : ∃ m, k = m + 1 := ⟨k - 1, by omega⟩
  have hm : Int.tmod (i : Int) 8 = ((i % 8 : Nat) : Int) := by rw [Int.tmod_eq_emod_of_nonneg (by omega)]; omega
  have hw : wrap64 ((x.length : Int) - 1) = ((i / 8 : Nat) : Int) := by rw [hx]; unfold wrap64; omega
  rw [G.saucierref06_PackBits.l1, hm, if_neg (by omega), hw, if_pos (by omega), if_pos (by omega), Int.toNat_natCast, wrap_in i (by omega), show k + 1 - 1 = k by omega]
theorem refPackBits_loop (l : List Bool) (hl : l.length ≤ 10000000) (d : Nat) : ∀ (i k : Nat), i + d = l.length → 20 * d + 1 ≤ k →
    G.saucierref06_PackBits.l0 k l (packN l ((i + 7) / 8) i) (i : Int) = some (packBits l) := by
  induction d with
  | zero =>
    intro i k hi hk
    obtain ⟨k, rfl⟩ : ∃ m, k = m + 1 := ⟨k - 1, by omega⟩
    obtain rfl : i = l.length := by omega
    rw [G.saucierref06_PackBits.l0, if_neg (by omega)]
    rfl
  | succ d ih =>
    intro i k hi hk
    obtain ⟨k, rfl⟩ : ∃ m, k = m + 1 := ⟨k - 1, by omega⟩
    have hm : Int.tmod (i : Int) 8 = ((i % 8 : Nat) : Int) := by rw [Int.tmod_eq_emod_of_nonneg (by omega)]; omega
    have hj : G.saucierref06_PackBits.l0 (k + 1) l (packN l ((i + 7) / 8) i) (i : Int) = G.saucierref06_PackBits.j1 k l (packN l (i / 8 + 1) i) (i : Int) := by
      rw [G.saucierref06_PackBits.l0, if_pos (by omega), hm]
      by_cases c : i % 8 = 0
      · rw [if_pos (by omega), if_pos (by rw [packN_len]; omega), show (i + 7) / 8 = i / 8 by omega, packN_more l (i / 8) i (by omega)]
      · rw [if_neg (by omega), show (i + 7) / 8 = i / 8 + 1 by omega]
    rw [hj]
    obtain ⟨k, rfl⟩ : ∃ m, k = m + 1 := ⟨k - 1, by omega⟩
    rw [G.saucierref06_PackBits.j1, if_pos (by omega), if_pos (by omega), rdOf_at false l i (by omega)]
    have h7 : (i + 1 + 7) / 8 = i / 8 + 1 := by omega
    cases hb : l[i]
    · rw [if_neg (by simp), ← packN_off l _ i (by rw [getD_at l i (by omega), hb]), wrap_in i (by omega), ← h7]
      exact ih (i + 1) k (by omega) (by omega)
    · have ha := packN_at l (i / 8 + 1) i (i / 8) (by omega)
      have hf : (fun k => decide (8 * (i / 8) + k < i) && l.getD (8 * (i / 8) + k) false) (i % 8) = false := by
        show (decide (8 * (i / 8) + i % 8 < i) && _) = false
        rw [decide_eq_false (by omega), Bool.false_and]
      have hv := bv_add (fun k => decide (8 * (i / 8) + k < i) && l.getD (8 * (i / 8) + k) false) (i % 8) (by omega) hf
      have hu := bv_range (upd (fun k => decide (8 * (i / 8) + k < i) && l.getD (8 * (i / 8) + k) false) (i % 8))
      have h0 := worth_loop l (packN l (i / 8 + 1) i) i (by omega) (i % 8) 0 k (by omega) (by omega)
      have h1 : (2 : Int) ^ 0 = 1 := rfl
      rw [h1] at h0
      rw [if_pos rfl]
      have h0' : G.saucierref06_PackBits.l1 k l (packN l (i / 8 + 1) i) (i : Int) 1 0 = _ := h0
      rw [h0', worth_end l _ i (by omega) (packN_len _ _ _) _ (by omega), ha, hv, Int.emod_eq_of_lt hu.1 hu.2, packN_on l _ i (by rw [getD_at l i (by omega), hb]) (by omega), ← h7]
      exact ih (i + 1) _ (by omega) (by omega)
theorem refPackBits_is (l : List Bool) (hl : l.length ≤ 10000000) (k : Nat) (hk : 20 * l.length + 1 ≤ k) : G.saucierref06_PackBits.f k l = some (packBits l) :=
  refPackBits_loop l hl l.length 0 k (by omega) hk
def saucierref06_PackBits.f (l : List Bool) : Option (List Int) := if l.length ≤ 10000000 then some (packBits l) else none
theorem saucierref06_PackBits.calls (A0 : Option Addr) (c0 : Nat) (l0 : List Bool) (r : List Int) (w : World) (hr0 : Kd.C Kd.bool w A0 l0.length l0) (hc0 : l0.length ≤ c0) (h : saucierref06_PackBits.f l0 = some r) :
    Calls Try.prog 30 #[.slice A0 l0.length c0] w fun e w' => ∃ v0_ : Value, e = .returned (v0_) ∧ Kd.R (Kd.int .u8) 5 w' w.heap.size (fun _ => True) v0_ r ∧ Below w.heap.size w w' := by
  unfold saucierref06_PackBits.f at h
  split at h
  · rename_i hr
    exact G.saucierref06_PackBits.calls (20 * l0.length + 1) A0 c0 l0 r w hr0 hc0 ((refPackBits_is l0 hr _ (Nat.le_refl _)).trans h)
  · cases h
/-! ### Contains -/
theorem Index_loop (l : List Bool) (hl : l.length ≤ 9223372036854775807) (d : Nat) : ∀ (i k : Nat), i + d = l.length → d < k →
    ∃ r, G.slices_Index_bool_bool.l0 k l true (l.length : Int) (i : Int) = some r ∧ (r ≥ 0 ↔ true ∈ l.drop i) := by
  induction d with
  | zero =>
    intro i k hi hk
    obtain ⟨k, rfl⟩ : ∃ m, k = m + 1 := ⟨k - 1, by omega⟩
    refine ⟨-1, by rw [G.slices_Index_bool_bool.l0, if_neg (by omega)], ?_⟩
    rw [List.drop_of_length_le (by omega)]
    simp
  | succ d ih =>
    intro i k hi hk
    obtain ⟨k, rfl⟩ : ∃ m, k = m + 1 := ⟨k - 1, by omega⟩
    rw [G.slices_Index_bool_bool.l0, if_pos (by omega), if_pos (by omega), if_pos (by omega), rdOf_at false l i (by omega), drop_cons l i (by omega), wrap_in i (by omega)]
    cases hb : l[i]
    · rw [if_neg (by simp)]
      obtain ⟨r, h1, h2⟩ := ih (i + 1) k (by omega) (by omega)
      refine ⟨r, h1, h2.trans ?_⟩
      rw [List.mem_cons]
      simp
    · rw [if_pos (by simp)]
      exact ⟨_, rfl, by simp⟩
theorem Contains_is (l : List Bool) (hl : l.length ≤ 9223372036854775807) (k : Nat) (hk : l.length < k) : G.slices_Contains_bool_bool.f k l true = some (decide (true ∈ l)) := by
  obtain ⟨r, h1, h2⟩ := Index_loop l hl l.length 0 k (by omega) hk
  have h3 : G.slices_Index_bool_bool.f k l true = some r := h1
  unfold G.slices_Contains_bool_bool.f
  rw [h3, Option.bind_some]
  congr 1
  rw [decide_eq_decide, h2, List.drop_zero]
end Go.Proofs.Ytjlckmekajlbmaa.H
