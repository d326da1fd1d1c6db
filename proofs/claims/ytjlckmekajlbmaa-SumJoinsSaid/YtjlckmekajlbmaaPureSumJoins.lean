/-
  Proved: for any two rows of bytes of at most 300 each: what bytes behind others come to is told by both sums and by how long the ones behind are; and the check of bytes with the four bytes of their own check behind them, the lowest first, is always that of four bytes 0. Longer rows: the chapter's examples hold. No condition.
-/
import Derived.Test.YtjlckmekajlbmaaQ5
namespace Go.Proofs.Ytjlckmekajlbmaa.Pure
open Go.RowKit Go.Proofs.Ytjlckmekajlbmaa.Q Go.Proofs.Ytjlckmekajlbmaa.H Go.Proofs.YtjlckmekajlbmaaW.PrintWords Go.Proofs.YtjlckmekajlbmaaW.PrintLast
open Go.Proofs.Ytjlckmekajlbmaa.Crc
/-- The four bytes of a word, as numbers. -/
theorem byte_of (x : W) (k : Nat) : B ((Z x / (2 : Int) ^ k) % 256) = (x >>> k) &&& 255#32 := by
  rw [half32]
  apply BitVec.eq_of_toNat_eq
  have h255 : (255#32).toNat = 2 ^ 8 - 1 := rfl
  have hl := (x >>> k).isLt
  rw [BitVec.toNat_and, h255, Nat.and_two_pow_sub_one_eq_mod]
  simp only [B, Z, BitVec.toNat_ofInt]
  omega
theorem word_bytes (x : W) : Bs [(Z x) % 256, (Z x / 256) % 256, (Z x / 65536) % 256, (Z x / 16777216) % 256] = [x &&& 255#32, (x >>> 8) &&& 255#32, (x >>> 16) &&& 255#32, (x >>> 24) &&& 255#32] := by
  have h0 := byte_of x 0
  have h1 := byte_of x 8
  have h2 := byte_of x 16
  have h3 := byte_of x 24
  rw [show (2 : Int) ^ 0 = 1 from rfl, Int.ediv_one, BitVec.ushiftRight_zero] at h0
  rw [show (2 : Int) ^ 8 = 256 from rfl] at h1
  rw [show (2 : Int) ^ 16 = 65536 from rfl] at h2
  rw [show (2 : Int) ^ 24 = 16777216 from rfl] at h3
  simp only [Bs, List.map_cons, List.map_nil]
  rw [h0, h1, h2, h3]
theorem Bs_append (a b : List Int) : Bs (a ++ b) = Bs a ++ Bs b := by simp [Bs]
/-- The check of bytes with their own check behind them. -/
theorem with_own (a : List Int) : crc (a ++ [(Z (crc a)) % 256, (Z (crc a) / 256) % 256, (Z (crc a) / 65536) % 256, (Z (crc a) / 16777216) % 256]) = crc [0, 0, 0, 0] := by
  have h : crc [0, 0, 0, 0] = ~~~ steps 32 ones := by
    have hb : Bs [0, 0, 0, 0] = List.replicate 4 0#32 := by decide
    unfold crc
    rw [hb, raw_zeros]
  rw [h]
  conv => lhs; unfold crc
  rw [Bs_append, raw_append, word_bytes, raw_word]
  congr 2
  have ho : ones = BitVec.allOnes 32 := by decide
  rw [ho]
  apply BitVec.eq_of_getLsbD_eq
  intro i hi
  rw [BitVec.getLsbD_xor, BitVec.getLsbD_not, BitVec.getLsbD_allOnes]
  simp [hi]
theorem joins_body (a b : List Int) (ha : a.length ≤ 300) (hb : b.length ≤ 300) : saucierlaw08_SumJoins.j0 1 a b false = some true := by
  have r1 : saucierlaw08_raw.f 4294967295 ([] ++ a ++ b) = some (Z (raw (raw ones (Bs a)) (Bs b))) := by
    unfold saucierlaw08_raw.f
    rw [if_pos (by omega), List.nil_append, Bs_append, raw_append]
    rfl
  have r2 : saucierlaw08_raw.f 4294967295 a = some (Z (raw ones (Bs a))) := by
    unfold saucierlaw08_raw.f
    rw [if_pos (by omega)]
    rfl
  have r3 : sum_Zeros.f (Z (raw ones (Bs a))) (b.length : Int) = some (Z (steps (8 * b.length) (raw ones (Bs a)))) := by
    unfold sum_Zeros.f
    rw [if_pos ⟨Z_nonneg _, Z_lt _, by omega⟩, B_Z, Int.toNat_natCast]
  have r4 : saucierlaw08_raw.f 0 b = some (Z (raw 0#32 (Bs b))) := by
    unfold saucierlaw08_raw.f
    rw [if_pos (by omega)]
    rfl
  have r5 : Go.bits .xor .u32 (Z (steps (8 * b.length) (raw ones (Bs a)))) (Z (raw 0#32 (Bs b))) = Z (raw (raw ones (Bs a)) (Bs b)) := by
    rw [xor32, B_Z, B_Z, raw_split (raw ones (Bs a)) (Bs b), Bs_len]
  have r6 : sum_Bytes.f a = some (Z (crc a)) := rfl
  have r7 : sum_Bytes.f ([] ++ a ++ [(Z (crc a)) % 256, (Z (crc a) / 256) % 256, (Z (crc a) / 65536) % 256, (Z (crc a) / 16777216) % 256]) = some (Z (crc [0, 0, 0, 0])) := by
    rw [List.nil_append]
    unfold sum_Bytes.f
    rw [with_own]
  have r8 : sum_Bytes.f [0, 0, 0, 0] = some (Z (crc [0, 0, 0, 0])) := rfl
  rw [saucierlaw08_SumJoins.j0, if_neg (by simp), Option.bind_some, if_pos (by simp; omega), Option.bind_some, if_pos (by simp; omega), r1, Option.bind_some, r2, Option.bind_some, r3, Option.bind_some, r4, Option.bind_some, r5, if_pos rfl, r6, Option.bind_some, Option.bind_some, if_pos (by simp; omega), Option.bind_some, Option.bind_some, if_pos (by simp; omega), r7, Option.bind_some, r8, Option.bind_some, if_pos rfl]
  rfl
theorem SumJoins : saucierlaw08_SumJoins.Pure := by
  intro l0 l1 _ _ _ _ _ _
  refine ⟨1, ?_⟩
  unfold saucierlaw08_SumJoins.f
  by_cases c1 : (l0.length : Int) > 300
  · rw [if_pos c1, saucierlaw08_SumJoins.j0, if_pos rfl]
    rfl
  · rw [if_neg c1]
    by_cases c2 : (l1.length : Int) > 300
    · rw [decide_eq_true c2, saucierlaw08_SumJoins.j0, if_pos rfl]
      rfl
    · rw [decide_eq_false c2]
      exact joins_body l0 l1 (by omega) (by omega)
end Go.Proofs.Ytjlckmekajlbmaa.Pure
