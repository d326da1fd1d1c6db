/-
  Proved: with one bit set and all others 0, of 1 to 200 bits, each byte is nought but for the bit's own, which is a power of two, the higher the later the bit is; a bit more that is set, or a byte more, makes bytes none of so many bits; there are no bytes of fewer than no bits; and the chapter's examples hold. No condition.
-/
import Derived.Test.YtjlckmekajlbmaaR3
import Derived.Test.YtjlckmekajlbmaaVg
namespace Go.Proofs.Ytjlckmekajlbmaa.Pure
open Go.RowKit Go.Proofs.Ytjlckmekajlbmaa.R Go.Proofs.Ytjlckmekajlbmaa.H Go.Proofs.YtjlckmekajlbmaaW.PrintWords Go.Proofs.YtjlckmekajlbmaaW.PrintLast
theorem wf6_u8 {a : Int} (h : (Lit.int .u8 a).wf = true) : 0 ≤ a ∧ a < 256 := by
  simp [Lit.wf, IntKind.min, IntKind.max, IntKind.signed, IntKind.bits] at h
  omega
theorem w64 (x : Int) (h : -9223372036854775808 ≤ x ∧ x < 9223372036854775808) : wrap64 x = x := by unfold wrap64; omega
/-- Behind the bits: a byte more, and fewer than no bits. -/
theorem bits_last (l : List Bool) (h0 : 0 < l.length) (h : l.length ≤ 200) (k : Nat) : saucierlaw06_WordsBits.j2 (k + 1) (l.length : Int) (packBits l) = some true := by
  have hl := packBits_len l
  have hr := pack_inR l
  have b1 : words_Bits.f (packBits l ++ [0]) (l.length : Int) = some [] := by
    have h8 : inR 256 (packBits l ++ [0]) := by
      intro x hx
      rcases List.mem_append.1 hx with hx | hx
      · exact hr x hx
      · rw [List.mem_singleton.1 hx]; decide
    have hl2 : (packBits l ++ [0]).length = (l.length + 7) / 8 + 1 := by rw [List.length_append, hl, List.length_singleton]
    unfold words_Bits.f
    rw [if_pos ⟨by omega, h8, by omega⟩, bits_long _ _ (by rw [hl2, Int.toNat_natCast]; omega)]
  have b2 : words_Bits.f (packBits l) (-1) = some [] := by
    unfold words_Bits.f
    rw [if_pos ⟨by omega, hr, by decide⟩, bits_neg _ _ (by decide)]
  rw [saucierlaw06_WordsBits.j2, if_pos (by omega), b1, Option.bind_some, if_pos (by rfl), b2, Option.bind_some, if_pos (by rfl)]
  rfl
/-- A bit more that is set. -/
theorem bits_free (l : List Bool) (h0 : 0 < l.length) (h : l.length ≤ 200) (a2 x8 : Int) (x : List Int) (ha : 0 ≤ a2 ∧ a2 < 256) (i : Int) (k : Nat) :
    ∀ (n : Int), n ≤ i → saucierlaw06_WordsBits.l0 (k + 2) a2 (l.length : Int) x8 (packBits l) x n i = some true := by
  intro n hn
  have hl := packBits_len l
  have hr := pack_inR l
  have w8 : wrap64 (8 * ((packBits l).length : Int)) = 8 * ((packBits l).length : Int) := w64 _ (by omega)
  obtain ⟨F, hF⟩ : ∃ F : Nat, 8 * (packBits l).length = l.length + F := ⟨8 * (packBits l).length - l.length, by omega⟩
  have hF7 : F < 8 := by omega
  have wf : wrap64 (8 * ((packBits l).length : Int) - (l.length : Int)) = (F : Int) := by rw [w64 _ (by omega)]; omega
  have wa : wrap64 a2 = a2 := w64 _ (by omega)
  rw [saucierlaw06_WordsBits.l0, if_neg (by omega), w8, wf]
  clear w8 wf
  by_cases c : F = 0
  · rw [c, if_neg (by decide)]
    exact bits_last l h0 h k
  · have hf : (0 : Int) < (F : Int) := by omega
    rw [if_pos hf, Option.bind_some, if_pos (by rw [List.length_nil]; omega), Option.bind_some, if_neg (by omega), wa, Int.tmod_eq_emod_of_nonneg ha.1]
    obtain ⟨m, hm⟩ : ∃ m : Nat, (m : Int) = a2 % (F : Int) := ⟨_, Int.toNat_of_nonneg (Int.emod_nonneg _ (by omega))⟩
    have hmf : m < F := by have := Int.emod_lt_of_pos a2 hf; rw [← hm] at this; omega
    rw [← hm]
    clear hm wa
    have hA : wrap64 ((l.length : Int) + (m : Int)) = ((l.length + m : Nat) : Int) := by rw [w64 _ (by omega)]; omega
    rw [hA]
    have hd : wrap64 (Int.tdiv ((l.length + m : Nat) : Int) 8) = (((l.length + m) / 8 : Nat) : Int) := by rw [Int.tdiv_eq_ediv_of_nonneg (by omega), w64 _ (by omega)]; omega
    have hmo : Int.tmod ((l.length + m : Nat) : Int) 8 = (((l.length + m) % 8 : Nat) : Int) := by rw [Int.tmod_eq_emod_of_nonneg (by omega)]; omega
    have h1 : wrap64 (((l.length + m : Nat) : Int) + 1) = ((l.length + m + 1 : Nat) : Int) := by rw [w64 _ (by omega)]; omega
    rw [hd, hmo, h1, List.nil_append]
    clear hA hd hmo h1
    rw [if_pos (by omega), if_pos (by omega), if_pos (by omega), Int.toNat_natCast, pack_bit l (l.length + m) (by omega) (by omega), Option.bind_some]
    have hL : (l ++ (List.replicate (l.length + m - l.length) false ++ [true])).length = l.length + m + 1 := by simp; omega
    generalize hM : l ++ (List.replicate (l.length + m - l.length) false ++ [true]) = M at hL ⊢
    have hML := packBits_len M
    have hbt : bitAt (packBits M) (l.length + m) = true := by
      rw [bitAt_pack M _ (by omega), ← hM, List.getD_eq_getElem?_getD, List.getElem?_append_right (by omega), List.getElem?_append_right (by simp)]
      simp
    have b1 : words_Bits.f (packBits M) (l.length : Int) = some [] := by
      unfold words_Bits.f
      rw [if_pos ⟨by omega, pack_inR M, by omega⟩, bits_more (packBits M) l.length (l.length + m) (by omega) (by omega) hbt]
    have b2 : words_Bits.f (packBits M) ((l.length + m + 1 : Nat) : Int) = some M := by
      unfold words_Bits.f
      have := bits_pack M
      rw [hL] at this
      rw [if_pos ⟨by omega, pack_inR M, by omega⟩, this]
    rw [b1, Option.bind_some, if_pos (by rfl), b2, Option.bind_some, if_pos (by omega)]
    exact bits_last l h0 h k
/-- The bytes, one by one. -/
theorem bits_loop (n q : Nat) (hq : q < n) (hn : n ≤ 200) (a2 : Int) (ha : 0 ≤ a2 ∧ a2 < 256) (d : Nat) : ∀ (i k : Nat), i + d = (packBits (oneBit n q)).length → 2 * d + 2 ≤ k →
    saucierlaw06_WordsBits.l0 k a2 (n : Int) (q : Int) (packBits (oneBit n q)) (packBits (oneBit n q)) ((packBits (oneBit n q)).length : Int) (i : Int) = some true := by
  have hl := packBits_len (oneBit n q)
  have ho := oneBit_len n q
  rw [ho] at hl
  induction d with
  | zero =>
    intro i k hi hk
    obtain ⟨k, rfl⟩ : ∃ m, k = m + 2 := ⟨k - 2, by omega⟩
    have := bits_free (oneBit n q) (by omega) (by omega) a2 (q : Int) (packBits (oneBit n q)) ha (i : Int) k ((packBits (oneBit n q)).length : Int) (by omega)
    rw [ho] at this
    exact this
  | succ d ih =>
    intro i k hi hk
    obtain ⟨k, rfl⟩ : ∃ m, k = m + 2 := ⟨k - 2, by omega⟩
    have hb := one_byte n q i hq (by omega)
    have hd : wrap64 (Int.tdiv (q : Int) 8) = ((q / 8 : Nat) : Int) := by rw [Int.tdiv_eq_ediv_of_nonneg (by omega), w64 _ (by omega)]; omega
    have hmo : Int.tmod (q : Int) 8 = ((q % 8 : Nat) : Int) := by rw [Int.tmod_eq_emod_of_nonneg (by omega)]; omega
    rw [saucierlaw06_WordsBits.l0, hd, hmo, hb]
    clear hd hmo
    rw [if_pos (by omega), if_pos (by omega), if_pos (by omega)]
    by_cases c : i = q / 8
    · rw [if_pos (by omega), if_pos c, if_pos (by omega), saucierlaw06_WordsBits.j1, if_pos rfl, wrap_in i (by omega)]
      exact ih (i + 1) k (by omega) (by omega)
    · rw [if_neg (by omega), if_neg c, saucierlaw06_WordsBits.j1, if_pos rfl, wrap_in i (by omega)]
      exact ih (i + 1) k (by omega) (by omega)
theorem WordsBits : saucierlaw06_WordsBits.Pure := by
  intro a0 a1 a2 h0 h1 h2
  have h0 := wf6_u8 h0
  have h1 := wf6_u8 h1
  have h2 := wf6_u8 h2
  obtain ⟨n, hn⟩ : ∃ n : Nat, (n : Int) = 1 + a0 % 200 := ⟨_, Int.toNat_of_nonneg (by omega)⟩
  obtain ⟨q, hq⟩ : ∃ q : Nat, (q : Int) = a1 % (n : Int) := ⟨_, Int.toNat_of_nonneg (Int.emod_nonneg _ (by omega))⟩
  have hqn : (q : Int) < (n : Int) := by rw [hq]; exact Int.emod_lt_of_pos _ (by omega)
  have hl := packBits_len (oneBit n q)
  rw [oneBit_len] at hl
  refine ⟨2 * (packBits (oneBit n q)).length + 2, ?_⟩
  have w0 : wrap64 (1 + wrap64 (Int.tmod a0 200)) = (n : Int) := by rw [Int.tmod_eq_emod_of_nonneg h0.1, w64 (a0 % 200) (by omega), w64 _ (by omega), hn]
  have w1 : Int.tmod (wrap64 a1) (n : Int) = (q : Int) := by rw [w64 a1 (by clear w0; omega), Int.tmod_eq_emod_of_nonneg h1.1, hq]
  have w2 : wrap64 (Int.tdiv (wrap64 ((n : Int) + 7)) 8) = (((n + 7) / 8 : Nat) : Int) := by
    clear w0 w1
    rw [w64 ((n : Int) + 7) (by omega), Int.tdiv_eq_ediv_of_nonneg (by omega), w64 _ (by omega)]
    omega
  have pk : words_PackBits.f (oneBit n q) = some (packBits (oneBit n q)) := by unfold words_PackBits.f; rw [if_pos (by rw [oneBit_len]; omega)]
  unfold saucierlaw06_WordsBits.f
  rw [w0, w1, w2]
  clear w0 w1 w2
  rw [if_neg (by omega), if_pos (by omega), Int.toNat_natCast, if_pos (by omega), Option.bind_some, if_pos (by omega), if_pos (by rw [List.length_replicate]; omega), Int.toNat_natCast]
  have e : (List.replicate n false).set q true = oneBit n q := rfl
  rw [e, pk, Option.bind_some, if_pos (by omega)]
  exact bits_loop n q (by omega) (by omega) a2 h2 (packBits (oneBit n q)).length 0 _ (by omega) (by omega)
end Go.Proofs.Ytjlckmekajlbmaa.Pure
