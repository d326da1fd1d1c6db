/-
  Proved: for any 1 to 500 bytes, any place and any 32 bits: the bytes with those bits turned from that place on (as far as there are bytes) have another check just if they are other bytes; and the chapter's examples hold. No condition.
-/
import Derived.Test.YtjlckmekajlbmaaQ1
namespace Go.Proofs.Ytjlckmekajlbmaa.Pure
open Go.RowKit Go.Proofs.Ytjlckmekajlbmaa.Q Go.Proofs.Ytjlckmekajlbmaa.H Go.Proofs.YtjlckmekajlbmaaW.PrintWords Go.Proofs.YtjlckmekajlbmaaW.PrintLast
open Go.Proofs.Ytjlckmekajlbmaa.Crc
theorem wf_u8 {a : Int} (h : (Lit.int .u8 a).wf = true) : 0 ≤ a ∧ a < 256 := by
  simp [Lit.wf, IntKind.min, IntKind.max, IntKind.signed, IntKind.bits] at h
  omega
theorem wf_u16 {a : Int} (h : (Lit.int .u16 a).wf = true) : 0 ≤ a ∧ a < 65536 := by
  simp [Lit.wf, IntKind.min, IntKind.max, IntKind.signed, IntKind.bits] at h
  omega
theorem wf_u32 {a : Int} (h : (Lit.int .u32 a).wf = true) : 0 ≤ a ∧ a < 4294967296 := by
  simp [Lit.wf, IntKind.min, IntKind.max, IntKind.signed, IntKind.bits] at h
  omega
/-- Exclusive or of two bytes. -/
theorem xor8 (x y : Int) (hx : 0 ≤ x ∧ x < 256) (hy : 0 ≤ y ∧ y < 256) : B (Go.bits .xor .u8 x y) = B x ^^^ B y ∧ 0 ≤ Go.bits .xor .u8 x y ∧ Go.bits .xor .u8 x y < 256 := by
  obtain ⟨n, rfl⟩ := Int.eq_ofNat_of_zero_le hx.1
  obtain ⟨m, rfl⟩ := Int.eq_ofNat_of_zero_le hy.1
  have hl : n ^^^ m < 2 ^ 8 := Nat.xor_lt_two_pow (by omega) (by omega)
  have e : Go.bits .xor .u8 (n : Int) (m : Int) = ((n ^^^ m : Nat) : Int) := by
    show IntKind.u8.wrap ((BitVec.ofInt 8 (n : Int) ^^^ BitVec.ofInt 8 (m : Int)).toNat : Int) = _
    rw [BitVec.toNat_xor, BitVec.toNat_ofInt, BitVec.toNat_ofInt, IntKind.wrap_u8]
    have e1 : ((n : Int) % ((2 ^ 8 : Nat) : Int)).toNat = n := by omega
    have e2 : ((m : Int) % ((2 ^ 8 : Nat) : Int)).toNat = m := by omega
    rw [e1, e2]
    omega
  rw [e]
  refine ⟨?_, by omega, by omega⟩
  apply BitVec.eq_of_toNat_eq
  rw [BitVec.toNat_xor]
  simp only [B, BitVec.toNat_ofInt]
  have e1 : ((n : Int) % ((2 ^ 32 : Nat) : Int)).toNat = n := by omega
  have e2 : ((m : Int) % ((2 ^ 32 : Nat) : Int)).toNat = m := by omega
  have e3 : (((n ^^^ m : Nat) : Int) % ((2 ^ 32 : Nat) : Int)).toNat = n ^^^ m := by omega
  rw [e1, e2, e3]
/-- A byte of one bit. -/
theorem one_bit (m : Nat) (h : m < 8) : B (shl .u8 1 (m : Int)) = BitVec.twoPow 32 m ∧ 0 ≤ shl .u8 1 (m : Int) ∧ shl .u8 1 (m : Int) < 256 := by
  have h8 : ∀ m : Fin 8, B (shl .u8 1 ((m.val : Nat) : Int)) = BitVec.twoPow 32 m.val ∧ 0 ≤ shl .u8 1 ((m.val : Nat) : Int) ∧ shl .u8 1 ((m.val : Nat) : Int) < 256 := by decide
  exact h8 ⟨m, h⟩
/-- Is bit i of the turns set? -/
theorem bit_set (t : W) (i : Nat) (h : i < 32) : Go.bits .and .u32 (shr .u32 (Z t) (i : Int)) 1 = 1 ↔ t.getLsbD i = true := by
  have e : shr .u32 (Z t) (i : Int) = Z (t >>> i) := by
    have hm : min ((i : Int)).toNat IntKind.u32.bits = i := by
      show min ((i : Int)).toNat 32 = i
      rw [Int.toNat_natCast]; omega
    unfold shr
    rw [hm, half32]
  have h1 : B 1 = 1#32 := by decide
  have hb : t.getLsbD i = (t >>> i).getLsbD 0 := by rw [BitVec.getLsbD_ushiftRight, Nat.add_zero]
  rw [e, and32, B_Z, h1, hb]
  have hand : (t >>> i) &&& 1#32 = if (t >>> i).getLsbD 0 then 1#32 else 0#32 := by
    apply BitVec.eq_of_getLsbD_eq
    intro j hj
    rw [BitVec.getLsbD_and]
    by_cases e0 : j = 0
    · subst e0; cases (t >>> i).getLsbD 0 <;> rfl
    · have h2 : (1#32).getLsbD j = false := by rw [BitVec.getLsbD_one]; simp [e0]
      rw [h2, Bool.and_false]
      cases (t >>> i).getLsbD 0
      · simp
      · rw [if_pos rfl, h2]
  rw [hand]
  cases (t >>> i).getLsbD 0 <;> decide
theorem str_inj (a b : List Int) (ha : inR 256 a) (hb : inR 256 b) (h : (strOfNums a).toList = (strOfNums b).toList) : a = b := by
  have hs : ∀ l : List Int, (strOfNums l).toList = l.map fun n => UInt8.ofNat n.toNat := by
    intro l
    rw [ByteArray.toList_eq]
    simp [strOfNums]
  rw [hs, hs] at h
  have hl : a.length = b.length := by simpa using congrArg List.length h
  apply List.ext_getElem hl
  intro i h1 h2
  have e := congrArg (fun l => l[i]?) h
  simp only [List.getElem?_map, List.getElem?_eq_getElem h1, List.getElem?_eq_getElem h2, Option.map_some, Option.some.injEq] at e
  have x := ha _ (List.getElem_mem h1)
  have y := hb _ (List.getElem_mem h2)
  have e2 := congrArg UInt8.toNat e
  simp only [UInt8.toNat_ofNat'] at e2
  omega
/-- What holds of the turned bytes ahead of round i: b the bytes, p where the turns begin. -/
structure Inv (b : List Int) (p i : Nat) (c : List Int) : Prop where
  len : c.length = b.length
  bytes : inR 256 c
  turned : ∃ V : W, (∀ j, i ≤ j → V.getLsbD j = false) ∧ raw ones (Bs c) = raw ones (Bs b) ^^^ steps (8 * b.length - p) V ∧ (V = 0#32 → c = b)
theorem Inv.next {b c : List Int} {p i : Nat} (h : Inv b p i c) : Inv b p (i + 1) c := by
  obtain ⟨hl, hb, V, h1, h2, h3⟩ := h
  exact ⟨hl, hb, V, fun j hj => h1 j (by omega), h2, h3⟩
theorem Inv.turn {b c : List Int} {p i : Nat} (h : Inv b p i c) (hi : i < 32) (hk : p + i < 8 * b.length) :
    Inv b p (i + 1) (c.set ((p + i) / 8) (Go.bits .xor .u8 (rd c (((p + i) / 8 : Nat) : Int)) (shl .u8 1 (((p + i) % 8 : Nat) : Int)))) := by
  obtain ⟨hl, hb, V, h1, h2, h3⟩ := h
  have hj : (p + i) / 8 < c.length := by omega
  have hx := hb.at_ _ hj
  have ho := one_bit ((p + i) % 8) (by omega)
  have he := xor8 _ _ hx ho.2
  have hBs : Bs (c.set ((p + i) / 8) (Go.bits .xor .u8 (rd c (((p + i) / 8 : Nat) : Int)) (shl .u8 1 (((p + i) % 8 : Nat) : Int)))) = (Bs c).set ((p + i) / 8) ((Bs c)[(p + i) / 8]'(by rw [Bs_len]; exact hj) ^^^ BitVec.twoPow 32 ((p + i) % 8)) := by
    unfold Bs
    rw [List.map_set, he.1, ho.1]
    congr 2
    have hr : rd c (((p + i) / 8 : Nat) : Int) = c[(p + i) / 8] := by
      unfold rd
      rw [Int.toNat_natCast, List.getD_eq_getElem?_getD, List.getElem?_eq_getElem hj]
      rfl
    rw [hr, List.getElem_map]
  have hr := raw_bit ones (Bs c) p i (by rw [Bs_len, hl]; exact hk) hi (by rw [Bs_len]; exact hj)
  have hlen : 8 * (Bs c).length - p = 8 * b.length - p := by rw [Bs_len, hl]
  rw [hlen] at hr
  refine ⟨by rw [List.length_set]; exact hl, fun x hx => ?_, V ^^^ BitVec.twoPow 32 i, fun j hj => ?_, ?_, fun h0 => ?_⟩
  · rcases List.mem_or_eq_of_mem_set hx with hx | rfl
    · exact hb x hx
    · exact he.2
  · rw [BitVec.getLsbD_xor, h1 j (by omega), BitVec.getLsbD_twoPow]
    have : ¬ i = j := by omega
    simp [this]
  · rw [hBs, hr, h2, steps_xor, BitVec.xor_assoc]
  · have hi1 : (V ^^^ BitVec.twoPow 32 i).getLsbD i = true := by
      rw [BitVec.getLsbD_xor, h1 i (Nat.le_refl _), BitVec.getLsbD_twoPow]
      simp [hi]
    rw [h0] at hi1
    simp at hi1
theorem bursts_end (b c : List Int) (p : Nat) (_hp : p < 8 * b.length) (hb : inR 256 b) (h : Inv b p 32 c) :
    ((Z (crc b) != Z (crc c)) == (!((strOfNums b).toList == (strOfNums c).toList))) = true := by
  obtain ⟨hl, hc, V, h1, h2, h3⟩ := h
  by_cases hV : V = 0#32
  · rw [h3 hV]
    simp
  · have hne : raw ones (Bs c) ≠ raw ones (Bs b) := by
      intro e
      rw [e] at h2
      have h4 : steps (8 * b.length - p) V = 0#32 := by
        have h5 : raw ones (Bs b) ^^^ raw ones (Bs b) = raw ones (Bs b) ^^^ (raw ones (Bs b) ^^^ steps (8 * b.length - p) V) := by rw [← h2]
        rw [← BitVec.xor_assoc, BitVec.xor_self, BitVec.zero_xor] at h5
        exact h5.symm
      exact steps_ne _ V hV h4
    have hcrc : (Z (crc b) != Z (crc c)) = true := by
      rw [bne_iff_ne]
      intro e
      have e2 := Z_inj _ _ e
      unfold crc at e2
      have e3 : ~~~ (~~~ raw ones (Bs b)) = ~~~ (~~~ raw ones (Bs c)) := by rw [e2]
      rw [BitVec.not_not, BitVec.not_not] at e3
      exact hne e3.symm
    have hstr : ((strOfNums b).toList == (strOfNums c).toList) = false := by
      rw [beq_eq_false_iff_ne]
      intro e
      exact hne (by rw [str_inj b c hb hc e])
    rw [hcrc, hstr]
    rfl
theorem bursts_loop (b : List Int) (t : W) (p : Nat) (hlen : b.length ≤ 500) (hp : p < 8 * b.length) (hb : inR 256 b) (d : Nat) :
    ∀ (i k : Nat) (c : List Int), i + d = 32 → d < k → Inv b p i c → saucierlaw08_SumBursts.l0 k b (Z t) c (p : Int) (i : Int) = some true := by
  induction d with
  | zero =>
    intro i k c hi hk hc
    obtain rfl : i = 32 := by omega
    obtain ⟨k, rfl⟩ : ∃ m, k = m + 1 := ⟨k - 1, by omega⟩
    have r1 : sum_Bytes.f b = some (Z (crc b)) := rfl
    have r2 : sum_Bytes.f c = some (Z (crc c)) := rfl
    rw [saucierlaw08_SumBursts.l0, if_neg (by omega), r1, Option.bind_some, r2, Option.bind_some, if_pos (bursts_end b c p hp hb hc)]
    rfl
  | succ d ih =>
    intro i k c hi hk hc
    obtain ⟨k, rfl⟩ : ∃ m, k = m + 1 := ⟨k - 1, by omega⟩
    have hw : wrap64 ((i : Int) + 1) = ((i + 1 : Nat) : Int) := wrap_in i (by omega)
    have hw2 : wrap64 ((p : Int) + (i : Int)) = ((p + i : Nat) : Int) := by unfold wrap64; omega
    have hw3 : wrap64 (8 * (b.length : Int)) = ((8 * b.length : Nat) : Int) := by unfold wrap64; omega
    have hq : wrap64 (Int.tdiv ((p + i : Nat) : Int) 8) = (((p + i) / 8 : Nat) : Int) := by
      rw [Int.tdiv_eq_ediv_of_nonneg (by omega)]; unfold wrap64; omega
    have hm : Int.tmod ((p + i : Nat) : Int) 8 = (((p + i) % 8 : Nat) : Int) := by
      rw [Int.tmod_eq_emod_of_nonneg (by omega)]; omega
    rw [saucierlaw08_SumBursts.l0, if_pos (by omega), if_pos (by omega), hw, hw2, hw3, hq, hm]
    by_cases hbit : Go.bits .and .u32 (shr .u32 (Z t) (i : Int)) 1 = 1
    · rw [if_pos hbit]
      by_cases hin : p + i < 8 * b.length
      · rw [if_pos (by omega), if_pos (by omega), if_pos (by rw [hc.len]; omega), if_pos (by omega), Int.toNat_natCast]
        exact ih (i + 1) k _ (by omega) (by omega) (hc.turn (by omega) hin)
      · rw [if_neg (by omega)]
        exact ih (i + 1) k c (by omega) (by omega) hc.next
    · rw [if_neg hbit]
      exact ih (i + 1) k c (by omega) (by omega) hc.next
theorem SumBursts : saucierlaw08_SumBursts.Pure := by
  intro l0 a1 a2 _ _ h0 h1 h2
  obtain ⟨t, rfl⟩ : ∃ t, a2 = Z t := ⟨B a2, (Z_B a2 (wf_u32 h2).1 (wf_u32 h2).2).symm⟩
  refine ⟨35, ?_⟩
  unfold saucierlaw08_SumBursts.f
  by_cases c1 : (l0.length : Int) > 500
  · rw [if_pos c1, saucierlaw08_SumBursts.j0, if_pos rfl]
    rfl
  · rw [if_neg c1]
    by_cases c2 : l0.length = 0
    · have e : ((l0.length : Int) == 0) = true := by rw [c2]; rfl
      rw [e, saucierlaw08_SumBursts.j0, if_pos rfl]
      rfl
    · have e : ((l0.length : Int) == 0) = false := by rw [beq_eq_false_iff_ne]; omega
      have hb : inR 256 l0 := fun x hx => wf_u8 (h0 x hx)
      have hw3 : wrap64 (8 * (l0.length : Int)) = ((8 * l0.length : Nat) : Int) := by unfold wrap64; omega
      have hu := wf_u16 h1
      have hw1 : wrap64 a1 = a1 := by unfold wrap64; omega
      have hmod : Int.tmod a1 ((8 * l0.length : Nat) : Int) = ((a1 % ((8 * l0.length : Nat) : Int)).toNat : Int) := by
        rw [Int.tmod_eq_emod_of_nonneg hu.1, Int.toNat_of_nonneg (Int.emod_nonneg _ (by omega))]
      have hlt : (a1 % ((8 * l0.length : Nat) : Int)).toNat < 8 * l0.length := by
        have := Int.emod_lt_of_pos a1 (b := ((8 * l0.length : Nat) : Int)) (by omega)
        have := Int.emod_nonneg a1 (b := ((8 * l0.length : Nat) : Int)) (by omega)
        omega
      rw [e, saucierlaw08_SumBursts.j0, if_neg (by simp), Option.bind_some, if_pos (by simp; omega), hw3, if_neg (by omega), List.nil_append, hw1, hmod]
      exact bursts_loop l0 t _ (by omega) hlt hb 32 0 34 l0 rfl (by omega) ⟨rfl, hb, 0#32, fun j _ => by simp, by rw [steps_zero, BitVec.xor_zero], fun _ => rfl⟩
end Go.Proofs.Ytjlckmekajlbmaa.Pure
