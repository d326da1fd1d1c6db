/-
  Proved: for any three rows of bytes, cut to the shortest and to 300: the check of the row of which each bit is 1 just if it is so in an odd number of them is the exclusive or of the three checks; and the chapter's examples hold. No condition.
-/
import Derived.Test.YtjlckmekajlbmaaQ2
namespace Go.Proofs.Ytjlckmekajlbmaa.Pure
open Go.RowKit Go.Proofs.Ytjlckmekajlbmaa.Q Go.Proofs.Ytjlckmekajlbmaa.H Go.Proofs.YtjlckmekajlbmaaW.PrintWords Go.Proofs.YtjlckmekajlbmaaW.PrintLast
open Go.Proofs.Ytjlckmekajlbmaa.Crc
theorem wf_u8 {a : Int} (h : (Lit.int .u8 a).wf = true) : 0 ≤ a ∧ a < 256 := by
  simp [Lit.wf, IntKind.min, IntKind.max, IntKind.signed, IntKind.bits] at h
  omega
/-- Exclusive or of two bytes. -/
theorem xor8 (x y : Int) (hx : 0 ≤ x ∧ x < 256) (hy : 0 ≤ y ∧ y < 256) : B (Go.bits .xor .u8 x y) = B x ^^^ B y ∧ 0 ≤ Go.bits .xor .u8 x y ∧ Go.bits .xor .u8 x y < 256 := by
  obtain ⟨n, rfl⟩ := Int.eq_ofNat_of_zero_le hx.1
  obtain ⟨m, rfl⟩ := Int.eq_ofNat_of_zero_le hy.1
  have hl : n ^^^ m < 2 ^ 8 := Nat.xor_lt_two_pow (by omega) (by omega)
  have e : Go.bits .xor .u8 (n : Int) (m : Int) = ((n ^^^ m : Nat) : Int) := by
    show IntKind.u8.wrap ((BitVec.ofInt 8 (n : Int) ^^^ BitVec.ofInt 8 (m : Int)).toNat : Int) = _
    rw [BitVec.toNat_xor, BitVec.toNat_ofInt, BitVec.toNat_ofInt, IntKind.wrap_u8]
    have e1 : ((n : Int) % ((2 ^ 8 : Nat) : Int)).toNat = n := by omega
    have e2 : ((m : Int) % ((2 ^ 8 : Nat) : Int)).toNat = m := by omega
    rw [e1, e2]
    omega
  rw [e]
  refine ⟨?_, by omega, by omega⟩
  apply BitVec.eq_of_toNat_eq
  rw [BitVec.toNat_xor]
  simp only [B, BitVec.toNat_ofInt]
  have e1 : ((n : Int) % ((2 ^ 32 : Nat) : Int)).toNat = n := by omega
  have e2 : ((m : Int) % ((2 ^ 32 : Nat) : Int)).toNat = m := by omega
  have e3 : (((n ^^^ m : Nat) : Int) % ((2 ^ 32 : Nat) : Int)).toNat = n ^^^ m := by omega
  rw [e1, e2, e3]
/-- The row of three. -/
def three (a b c : List Int) (n : Nat) : List Int := (List.range n).map fun (j : Nat) => Go.bits .xor .u8 (Go.bits .xor .u8 (rd a (j : Int)) (rd b (j : Int))) (rd c (j : Int))
theorem three_len (a b c : List Int) (n : Nat) : (three a b c n).length = n := by simp [three]
theorem three_bytes (a b c : List Int) (n : Nat) (ha : inR 256 a) (hb : inR 256 b) (hc : inR 256 c) (la : n ≤ a.length) (lb : n ≤ b.length) (lc : n ≤ c.length) :
    Bs (three a b c n) = List.zipWith (· ^^^ ·) (List.zipWith (· ^^^ ·) (Bs (a.take n)) (Bs (b.take n))) (Bs (c.take n)) := by
  apply List.ext_getElem
  · simp [Bs, three]; omega
  · intro j h1 h2
    have hj : j < n := by rw [Bs_len, three_len] at h1; exact h1
    have xa := ha.at_ j (by omega)
    have xb := hb.at_ j (by omega)
    have xc := hc.at_ j (by omega)
    have e1 := xor8 _ _ xa xb
    have e2 := xor8 _ _ e1.2 xc
    have ra : rd a (j : Int) = a[j] := by simp [rd, show j < a.length by omega]
    have rb : rd b (j : Int) = b[j] := by simp [rd, show j < b.length by omega]
    have rc : rd c (j : Int) = c[j] := by simp [rd, show j < c.length by omega]
    simp only [Bs, three, List.getElem_map, List.getElem_range, List.getElem_zipWith, List.getElem_take]
    rw [e2.1, e1.1, ra, rb, rc]
theorem not_three (x y z : W) : ~~~(x ^^^ y ^^^ z) = ~~~x ^^^ ~~~y ^^^ ~~~z := by
  apply BitVec.eq_of_getLsbD_eq
  intro i hi
  simp only [BitVec.getLsbD_xor, BitVec.getLsbD_not]
  cases x.getLsbD i <;> cases y.getLsbD i <;> cases z.getLsbD i <;> simp [hi]
theorem crc_three (a b c : List Int) (n : Nat) (ha : inR 256 a) (hb : inR 256 b) (hc : inR 256 c) (la : n ≤ a.length) (lb : n ≤ b.length) (lc : n ≤ c.length) :
    crc (three a b c n) = crc (a.take n) ^^^ crc (b.take n) ^^^ crc (c.take n) := by
  have ho : ones = ones ^^^ ones ^^^ ones := by decide
  have l1 : (Bs (a.take n)).length = (Bs (b.take n)).length := by rw [Bs_len, Bs_len, List.length_take, List.length_take]; omega
  have l2 : (List.zipWith (· ^^^ ·) (Bs (a.take n)) (Bs (b.take n))).length = (Bs (c.take n)).length := by rw [List.length_zipWith, Bs_len, Bs_len, Bs_len, List.length_take, List.length_take, List.length_take]; omega
  have h : raw ones (Bs (three a b c n)) = raw ones (Bs (a.take n)) ^^^ raw ones (Bs (b.take n)) ^^^ raw ones (Bs (c.take n)) := by
    rw [three_bytes a b c n ha hb hc la lb lc]
    conv => lhs; rw [ho]
    rw [raw_xor _ _ _ _ l2, raw_xor _ _ _ _ l1]
  unfold crc
  rw [h, not_three]
/-- The row as it stands behind i rounds. -/
theorem three_step (D : List Int) (n i : Nat) (hD : D.length = n) (h : i < D.length) : (D.take i ++ List.replicate (n - i) 0).set i D[i] = D.take (i + 1) ++ List.replicate (n - (i + 1)) 0 := by
  subst hD
  have e : D.length - i = (D.length - (i + 1)) + 1 := by omega
  have hl : (D.take i).length = i := by rw [List.length_take]; omega
  rw [List.set_append_right _ _ (by omega), hl, Nat.sub_self, e, List.replicate_succ, List.set_cons_zero, List.take_succ_eq_append_getElem h, List.append_assoc]
  rfl
theorem threes_end (a b c : List Int) (n : Nat) (ha : inR 256 a) (hb : inR 256 b) (hc : inR 256 c) (la : n ≤ a.length) (lb : n ≤ b.length) (lc : n ≤ c.length) (k : Nat) (hk : 0 < k) :
    saucierlaw08_SumThrees.l0 k a b c (n : Int) (three a b c n) (n : Int) (n : Int) = some true := by
  obtain ⟨k, rfl⟩ : ∃ m, k = m + 1 := ⟨k - 1, by omega⟩
  have r0 : sum_Bytes.f (three a b c n) = some (Z (crc (three a b c n))) := rfl
  have r1 : sum_Bytes.f (a.take n) = some (Z (crc (a.take n))) := rfl
  have r2 : sum_Bytes.f (b.take n) = some (Z (crc (b.take n))) := rfl
  have r3 : sum_Bytes.f (c.take n) = some (Z (crc (c.take n))) := rfl
  rw [saucierlaw08_SumThrees.l0, if_neg (by omega), r0, Option.bind_some, if_pos (by omega), if_pos (by omega), Int.toNat_natCast, r1, Option.bind_some, if_pos (by omega), r2, Option.bind_some, if_pos (by omega), r3, Option.bind_some, xor32, B_Z, xor32, B_Z, B_Z, B_Z, ← crc_three a b c n ha hb hc la lb lc, if_pos rfl]
  rfl
theorem threes_loop (a b c : List Int) (n : Nat) (hn : n ≤ 300) (ha : inR 256 a) (hb : inR 256 b) (hc : inR 256 c) (la : n ≤ a.length) (lb : n ≤ b.length) (lc : n ≤ c.length) (d : Nat) :
    ∀ (i k : Nat), i + d = n → d < k → saucierlaw08_SumThrees.l0 k a b c (n : Int) ((three a b c n).take i ++ List.replicate (n - i) 0) (n : Int) (i : Int) = some true := by
  induction d with
  | zero =>
    intro i k hi hk
    obtain rfl : i = n := by omega
    rw [List.take_of_length_le (by rw [three_len]; omega), Nat.sub_self, List.replicate_zero, List.append_nil]
    exact threes_end a b c i ha hb hc la lb lc k (by omega)
  | succ d ih =>
    intro i k hi hk
    obtain ⟨k, rfl⟩ : ∃ m, k = m + 1 := ⟨k - 1, by omega⟩
    have hl : ((three a b c n).take i ++ List.replicate (n - i) 0).length = n := by rw [List.length_append, List.length_take, three_len, List.length_replicate]; omega
    have hs := three_step (three a b c n) n i (three_len a b c n) (by rw [three_len]; omega)
    have hv : (three a b c n)[i]'(by rw [three_len]; omega) = Go.bits .xor .u8 (Go.bits .xor .u8 (rd a (i : Int)) (rd b (i : Int))) (rd c (i : Int)) := by simp [three]
    rw [hv] at hs
    rw [saucierlaw08_SumThrees.l0, if_pos (by omega), if_pos (by omega), if_pos (by omega), if_pos (by omega), if_pos (by omega), if_pos (by rw [hl]; omega), Int.toNat_natCast, hs, wrap_in i (by omega)]
    exact ih (i + 1) k (by omega) (by omega)
theorem SumThrees : saucierlaw08_SumThrees.Pure := by
  intro l0 l1 l2 _ _ h0 _ _ h1 _ _ h2
  obtain ⟨n, hn⟩ : ∃ n : Nat, mn (mn (mn (l0.length : Int) (l1.length : Int)) (l2.length : Int)) 300 = (n : Int) := by
    refine ⟨(mn (mn (mn (l0.length : Int) (l1.length : Int)) (l2.length : Int)) 300).toNat, ?_⟩
    unfold mn
    (repeat' split) <;> omega
  have hb : n ≤ l0.length ∧ n ≤ l1.length ∧ n ≤ l2.length ∧ n ≤ 300 := by
    unfold mn at hn
    (repeat' split at hn) <;> omega
  refine ⟨n + 1, ?_⟩
  unfold saucierlaw08_SumThrees.f
  rw [hn, if_pos (by omega), Int.toNat_natCast, if_pos (by omega), Option.bind_some, List.length_replicate]
  have h := threes_loop l0 l1 l2 n hb.2.2.2 (fun x hx => wf_u8 (h0 x hx)) (fun x hx => wf_u8 (h1 x hx)) (fun x hx => wf_u8 (h2 x hx)) hb.1 hb.2.1 hb.2.2.1 n 0 (n + 1) (by omega) (by omega)
  rw [List.take_zero, List.nil_append, Nat.sub_zero] at h
  exact h
end Go.Proofs.Ytjlckmekajlbmaa.Pure
