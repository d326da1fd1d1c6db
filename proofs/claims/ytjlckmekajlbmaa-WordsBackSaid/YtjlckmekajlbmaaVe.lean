/-
  Bits of package words and of its reference: both return the bits that bytes are, by one plain Lean function.
-/
import Derived.Test.YtjlckmekajlbmaaVd
import Derived.Test.YtjlckmekajlbmaaG2
namespace Go.Proofs.Ytjlckmekajlbmaa.H
open Go.RowKit Go.Proofs.YtjlckmekajlbmaaW.PrintWords Go.Proofs.YtjlckmekajlbmaaW.PrintLast Go.Proofs.YtjlckmekajlbmaaW.PrintMore
set_option linter.unusedVariables false
theorem i64_nat (n : Int) (h : 0 ≤ n) : ∃ m : Nat, n = (m : Int) := Int.eq_ofNat_of_zero_le h
/-! ### Bits -/
theorem fits_is (b : List Int) (n : Int) (hb : b.length ≤ 1000000) (hn : n < 9223372036854775808) : G.words_fits.f b n = some (decide (0 ≤ n ∧ b.length = (n.toNat + 7) / 8)) := by
  unfold G.words_fits.f
  by_cases c : n ≥ 0
  · rw [if_pos c]
    congr 1
    have hw : wrap64 ((wrap64 (Int.tdiv n 8)) + (mn (Int.tmod n 8) 1)) = (((n.toNat + 7) / 8 : Nat) : Int) := by
      have w1 : wrap64 (n / 8) = n / 8 := by unfold wrap64; omega
      rw [Int.tdiv_eq_ediv_of_nonneg c, Int.tmod_eq_emod_of_nonneg c, w1]
      have w2 : n / 8 + mn (n % 8) 1 = (((n.toNat + 7) / 8 : Nat) : Int) := by
        unfold mn
        split <;> omega
      rw [w2]
      unfold wrap64
      omega
    rw [hw, Bool.eq_iff_iff, beq_iff_eq, decide_eq_true_iff]
    omega
  · rw [if_neg c]
    congr 1
    symm
    rw [decide_eq_false_iff_not]
    exact fun h => c h.1
theorem Bits_end (b : List Int) (hb : b.length ≤ 1000000) (n : Nat) (hn : n ≤ 8 * b.length) (k : Nat) (hk : 8 * b.length + 1 < k) :
    G.words_Bits.l0 k b (n : Int) (firstBits b (8 * b.length)) ((8 * b.length : Nat) : Int) ((8 * b.length : Nat) : Int) = some (if true ∈ (firstBits b (8 * b.length)).drop n then [] else firstBits b n) := by
  obtain ⟨k, rfl⟩ : ∃ m, k = m + 1 := ⟨k - 1, by omega⟩
  have hl := firstBits_len b (8 * b.length)
  rw [G.words_Bits.l0, if_neg (by omega), if_pos (by omega), if_pos (by omega), Int.toNat_natCast, Contains_is _ (by rw [List.length_drop, hl]; omega) k (by rw [List.length_drop, hl]; omega), Option.bind_some, firstBits_take b _ n hn]
  by_cases c : true ∈ (firstBits b (8 * b.length)).drop n
  · rw [if_pos (decide_eq_true c), if_pos c]
  · rw [if_neg (by simpa using c), if_neg c]
theorem Bits_loop (b : List Int) (hb : b.length ≤ 1000000) (hr : inR 256 b) (n : Nat) (hn : n ≤ 8 * b.length) (d : Nat) : ∀ (i k : Nat), i + d = 8 * b.length → 8 * b.length + 2 + d ≤ k →
    G.words_Bits.l0 k b (n : Int) ((firstBits b (8 * b.length)).take i ++ List.replicate (8 * b.length - i) false) ((8 * b.length : Nat) : Int) (i : Int) = some (if true ∈ (firstBits b (8 * b.length)).drop n then [] else firstBits b n) := by
  have hl := firstBits_len b (8 * b.length)
  induction d with
  | zero =>
    intro i k hi hk
    obtain rfl : i = 8 * b.length := by omega
    rw [List.take_of_length_le (by omega), Nat.sub_self, List.replicate_zero, List.append_nil]
    exact Bits_end b hb n hn k (by omega)
  | succ d ih =>
    intro i k hi hk
    obtain ⟨k, rfl⟩ : ∃ m, k = m + 1 := ⟨k - 1, by omega⟩
    have h8 : (i : Int) / 8 = ((i / 8 : Nat) : Int) := by omega
    have hs := fill_step false (firstBits b (8 * b.length)) (8 * b.length) i hl (by omega)
    rw [firstBits_at] at hs
    have hlen : ((firstBits b (8 * b.length)).take i ++ List.replicate (8 * b.length - i) false).length = 8 * b.length := by rw [List.length_append, List.length_take, List.length_replicate]; omega
    have hv : (Go.bits .and .u8 (shr .u8 (rd b ((i / 8 : Nat) : Int)) ((i % 8 : Nat) : Int)) 1 == 1) = bitAt b i := bit_read _ _ (hr.at_ _ (by omega)) (by omega)
    rw [G.words_Bits.l0, if_pos (by omega), h8, and64_7 i (by omega), if_pos (by omega), if_pos (by omega), if_pos (by omega), if_pos (by omega), if_pos (by rw [hlen]; omega), Int.toNat_natCast, hv, hs, wrap_in i (by omega)]
    exact ih (i + 1) k (by omega) (by omega)
theorem Bits_is (b : List Int) (n : Int) (hb : b.length ≤ 1000000) (hr : inR 256 b) (hn : n < 9223372036854775808) (k : Nat) (hk : 16 * b.length + 2 ≤ k) : G.words_Bits.f k b n = some (bitsOf b n) := by
  unfold G.words_Bits.f bitsOf
  rw [fits_is b n hb hn, Option.bind_some]
  by_cases c : 0 ≤ n ∧ b.length = (n.toNat + 7) / 8
  · obtain ⟨m, rfl⟩ := i64_nat n c.1
    rw [Int.toNat_natCast] at c ⊢
    have w : wrap64 (8 * (b.length : Int)) = ((8 * b.length : Nat) : Int) := by unfold wrap64; omega
    rw [decide_eq_true c, if_pos rfl, w, if_pos (by omega), Int.toNat_natCast, if_pos (by omega), Option.bind_some, List.length_replicate]
    have h := Bits_loop b hb hr m (by omega) (8 * b.length) 0 k (by omega) (by omega)
    rw [List.take_zero, List.nil_append, Nat.sub_zero] at h
    refine Eq.trans h ?_
    congr 1
    by_cases hm : true ∈ (firstBits b (8 * b.length)).drop m
    · rw [if_pos hm, if_neg (fun h => h.2.2 hm)]
    · rw [if_neg hm, if_pos ⟨c.1, c.2, hm⟩]
  · rw [decide_eq_false c, if_neg (by simp), if_neg (fun h => c ⟨h.1, h.2.1⟩)]
def words_Bits.f (b : List Int) (n : Int) : Option (List Bool) := if b.length ≤ 1000000 ∧ inR 256 b ∧ n < 9223372036854775808 then some (bitsOf b n) else none
theorem V_as {α : Type} {d : Kd α} {e : Nat} {W : World} {base b : Nat} {v : Value} {xs : List α} (h : Kd.V d e W base (fun k => b ≤ k) v xs) : Kd.V d e W base (fun k => True ∧ b ≤ k ∧ True) v xs := Kd.V_mono h (fun _ hk => ⟨trivial, hk, trivial⟩)
theorem words_Bits.calls (A0 : Option Addr) (c0 : Nat) (l0 : List Int) (a1 : Int) (r : List Bool) (w : World) (hr0 : Kd.C (Kd.int .u8) w A0 l0.length l0) (hc0 : l0.length ≤ c0) (h : words_Bits.f l0 a1 = some r) :
    Calls Try.prog 26 #[.slice A0 l0.length c0, .int .i64 a1] w fun e w' => ∃ v0_ : Value, e = .returned (v0_) ∧ Kd.V Kd.bool 4 w' w.heap.size (fun k_ => w.heap.size ≤ k_) v0_ r ∧ Below w.heap.size w w' := by
  unfold words_Bits.f at h
  split at h
  · rename_i hr
    exact G.words_Bits.calls (16 * l0.length + 2) A0 c0 l0 a1 r w hr0 hc0 ((Bits_is l0 a1 hr.1 hr.2.1 hr.2.2 _ (Nat.le_refl _)).trans h)
  · cases h
/-! ### the reference's Bits -/
theorem halve_loop (i : Nat) (hi : i < 9223372036854775800) (x : Int) (hx : 0 ≤ x ∧ x < 256) (d : Nat) : ∀ (q k : Nat), q + d = i % 8 → d < k →
    G.saucierref06_bit.l0 k (i : Int) (x / (2 : Int) ^ q) (q : Int) = some (bitOf x (i % 8)) := by
  induction d with
  | zero =>
    intro q k hq hk
    obtain ⟨k, rfl⟩ : ∃ m, k = m + 1 := ⟨k - 1, by omega⟩
    obtain rfl : q = i % 8 := by omega
    have hm : Int.tmod (i : Int) 8 = ((i % 8 : Nat) : Int) := by rw [Int.tmod_eq_emod_of_nonneg (by omega)]; omega
    have hd := div_range x (i % 8) hx
    rw [G.saucierref06_bit.l0, hm, if_neg (by omega), Int.tmod_eq_emod_of_nonneg hd.1]
    rfl
  | succ d ih =>
    intro q k hq hk
    obtain ⟨k, rfl⟩ : ∃ m, k = m + 1 := ⟨k - 1, by omega⟩
    have hm : Int.tmod (i : Int) 8 = ((i % 8 : Nat) : Int) := by rw [Int.tmod_eq_emod_of_nonneg (by omega)]; omega
    have hd := div_range x q hx
    have h2 : Int.tdiv (x / (2 : Int) ^ q) 2 % 256 = x / (2 : Int) ^ (q + 1) := by
      rw [Int.tdiv_eq_ediv_of_nonneg hd.1, Int.pow_succ, ← Int.ediv_ediv_of_nonneg (Int.le_of_lt (pow_pos8 q))]
      omega
    rw [G.saucierref06_bit.l0, hm, if_pos (by omega), h2, wrap_in q (by omega)]
    exact ih (q + 1) k (by omega) (by omega)
theorem bit_is (b : List Int) (hr : inR 256 b) (i : Nat) (hb : b.length ≤ 1000000) (hi : i < 8 * b.length) (k : Nat) (hk : 9 ≤ k) : G.saucierref06_bit.f k b (i : Int) = some (bitAt b i) := by
  have hq : wrap64 (Int.tdiv (i : Int) 8) = ((i / 8 : Nat) : Int) := by
    rw [Int.tdiv_eq_ediv_of_nonneg (by omega)]; unfold wrap64; omega
  unfold G.saucierref06_bit.f
  rw [hq, if_pos (by omega), if_pos (by omega)]
  have h := halve_loop i (by omega) (rd b ((i / 8 : Nat) : Int)) (hr.at_ _ (by omega)) (i % 8) 0 k (by omega) (by omega)
  rw [show (2 : Int) ^ 0 = 1 from rfl, Int.ediv_one] at h
  exact h
theorem refSame_loop (b c : List Int) (o : List Bool) (hb : b.length ≤ 1000000) (hl : c.length = b.length) (d : Nat) : ∀ (i k : Nat), i + d = b.length → d < k →
    G.saucierref06_Bits.l1 k b o c (i : Int) = some (if b.drop i = c.drop i then o else []) := by
  induction d with
  | zero =>
    intro i k hi hk
    obtain ⟨k, rfl⟩ : ∃ m, k = m + 1 := ⟨k - 1, by omega⟩
    rw [G.saucierref06_Bits.l1, if_neg (by omega), List.drop_of_length_le (by omega), List.drop_of_length_le (by omega), if_pos rfl]
  | succ d ih =>
    intro i k hi hk
    obtain ⟨k, rfl⟩ : ∃ m, k = m + 1 := ⟨k - 1, by omega⟩
    rw [G.saucierref06_Bits.l1, if_pos (by omega), if_pos (by omega), if_pos (by omega), rd_at b i (by omega), rd_at c i (by omega), drop_cons b i (by omega), drop_cons c i (by omega), wrap_in i (by omega)]
    by_cases e : b[i] = c[i]
    · rw [if_pos e, ih (i + 1) k (by omega) (by omega)]
      congr 1
      by_cases e2 : b.drop (i + 1) = c.drop (i + 1)
      · rw [if_pos e2, if_pos (by rw [e, e2])]
      · rw [if_neg e2, if_neg (fun h => e2 (List.cons.inj h).2)]
    · rw [if_neg e, if_neg (fun h => e (List.cons.inj h).1)]
theorem refBits_loop (b : List Int) (hb : b.length ≤ 1000000) (hr : inR 256 b) (n : Nat) (hn : n ≤ 8 * b.length) (d : Nat) : ∀ (i k : Nat), i + d = n → d + 160 * b.length + 10 ≤ k →
    G.saucierref06_Bits.l0 k b (n : Int) (firstBits b i) (i : Int) = some (if packBits (firstBits b n) = b then firstBits b n else []) := by
  induction d with
  | zero =>
    intro i k hi hk
    obtain ⟨k, rfl⟩ : ∃ m, k = m + 1 := ⟨k - 1, by omega⟩
    obtain rfl : i = n := by omega
    have hp : (packBits (firstBits b i)).length = (i + 7) / 8 := by rw [packBits_len, firstBits_len]
    rw [G.saucierref06_Bits.l0, if_neg (by omega), refPackBits_is _ (by rw [firstBits_len]; omega) k (by rw [firstBits_len]; omega), Option.bind_some]
    by_cases c : (packBits (firstBits b i)).length = b.length
    · rw [if_pos (by omega)]
      have h := refSame_loop b (packBits (firstBits b i)) (firstBits b i) hb c b.length 0 k (by omega) (by omega)
      rw [List.drop_zero, List.drop_zero] at h
      refine Eq.trans h ?_
      congr 1
      by_cases e : b = packBits (firstBits b i)
      · rw [if_pos e, if_pos e.symm]
      · rw [if_neg e, if_neg (fun h => e h.symm)]
    · rw [if_neg (by omega), if_neg (fun h => c (by rw [h]))]
  | succ d ih =>
    intro i k hi hk
    obtain ⟨k, rfl⟩ : ∃ m, k = m + 1 := ⟨k - 1, by omega⟩
    rw [G.saucierref06_Bits.l0, if_pos (by omega), bit_is b hr i hb (by omega) k (by omega), Option.bind_some, if_pos (by rw [firstBits_len]; omega), ← firstBits_succ, wrap_in i (by omega)]
    exact ih (i + 1) k (by omega) (by omega)
theorem refBits_is (b : List Int) (n : Int) (hb : b.length ≤ 1000000) (hr : inR 256 b) (hn : n < 9223372036854775808) : G.saucierref06_Bits.f (168 * b.length + 20) b n = some (bitsOf b n) := by
  have w : wrap64 (8 * (b.length : Int)) = ((8 * b.length : Nat) : Int) := by unfold wrap64; omega
  have hk : 168 * b.length + 20 = (168 * b.length + 19) + 1 := rfl
  unfold G.saucierref06_Bits.f bitsOf
  rw [w]
  by_cases c : n < 0
  · rw [if_pos c, if_neg (fun h => by omega), hk, G.saucierref06_Bits.j0, if_pos rfl]
  · obtain ⟨m, rfl⟩ := i64_nat n (by omega)
    rw [if_neg c, Int.toNat_natCast]
    by_cases c2 : m > 8 * b.length
    · rw [decide_eq_true (by omega), if_neg (fun h => by omega), hk, G.saucierref06_Bits.j0, if_pos rfl]
    · rw [decide_eq_false (by omega), hk, G.saucierref06_Bits.j0, if_neg (by simp)]
      refine Eq.trans (refBits_loop b hb hr m (by omega) m 0 _ (by omega) (by omega)) ?_
      congr 1
      by_cases e : packBits (firstBits b m) = b
      · have hl : b.length = (m + 7) / 8 := by
          have h := congrArg List.length e
          rw [packBits_len, firstBits_len] at h
          exact h.symm
        rw [if_pos e, if_pos ⟨by omega, hl, (in_drop b m (by omega)).2 ((pack_first b hr m (by omega) hl).1 e)⟩]
      · rw [if_neg e, if_neg (fun h => e ((pack_first b hr m (by omega) h.2.1).2 ((in_drop b m (by omega)).1 h.2.2)))]
def saucierref06_Bits.f (b : List Int) (n : Int) : Option (List Bool) := if b.length ≤ 1000000 ∧ inR 256 b ∧ n < 9223372036854775808 then some (bitsOf b n) else none
theorem saucierref06_Bits.calls (A0 : Option Addr) (c0 : Nat) (l0 : List Int) (a1 : Int) (r : List Bool) (w : World) (hr0 : Kd.C (Kd.int .u8) w A0 l0.length l0) (hc0 : l0.length ≤ c0) (h : saucierref06_Bits.f l0 a1 = some r) :
    Calls Try.prog 27 #[.slice A0 l0.length c0, .int .i64 a1] w fun e w' => ∃ v0_ : Value, e = .returned (v0_) ∧ Kd.R Kd.bool 4 w' w.heap.size (fun _ => True) v0_ r ∧ Below w.heap.size w w' := by
  unfold saucierref06_Bits.f at h
  split at h
  · rename_i hr
    exact G.saucierref06_Bits.calls _ A0 c0 l0 a1 r w hr0 hc0 ((refBits_is l0 a1 hr.1 hr.2.1 hr.2.2).trans h)
  · cases h
end Go.Proofs.Ytjlckmekajlbmaa.H
