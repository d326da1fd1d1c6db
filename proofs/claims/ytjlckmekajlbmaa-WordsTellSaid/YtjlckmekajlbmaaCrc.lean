/-
  The check sum of 32 bits, in plain Lean: one step of the register is linear over exclusive or, and one-to-one; what follows for bytes that are joined, turned or added.
-/
namespace Go.Proofs.Ytjlckmekajlbmaa.Crc
abbrev W := BitVec 32
def turn : W := 0xEDB88320#32
def step (v : W) : W := (v >>> 1) ^^^ (turn &&& -(v &&& 1#32))
theorem step_eq (v : W) : step v = (v >>> 1) ^^^ (if v.getLsbD 0 then turn else 0#32) := by
  have h : v &&& 1#32 = if v.getLsbD 0 then 1#32 else 0#32 := by
    apply BitVec.eq_of_getLsbD_eq
    intro i hi
    by_cases h0 : v.getLsbD 0
    · rw [if_pos h0, BitVec.getLsbD_and]
      by_cases e : i = 0
      · subst e; rw [h0]; rfl
      · have : (1#32).getLsbD i = false := by rw [BitVec.getLsbD_one]; simp [e]
        rw [this, Bool.and_false]
    · rw [if_neg h0, BitVec.getLsbD_and]
      by_cases e : i = 0
      · subst e; have h1 : v.getLsbD 0 = false := by simpa using h0
        rw [h1]; simp
      · have : (1#32).getLsbD i = false := by rw [BitVec.getLsbD_one]; simp [e]
        rw [this, Bool.and_false]; simp
  unfold step
  rw [h]
  by_cases h0 : v.getLsbD 0
  · rw [if_pos h0, if_pos h0]; congr 1
  · rw [if_neg h0, if_neg h0]; congr 1
theorem step_xor (a b : W) : step (a ^^^ b) = step a ^^^ step b := by
  rw [step_eq, step_eq, step_eq, BitVec.ushiftRight_xor_distrib, BitVec.getLsbD_xor]
  generalize a >>> 1 = x
  generalize b >>> 1 = y
  cases a.getLsbD 0 <;> cases b.getLsbD 0 <;> simp
  · rw [BitVec.xor_assoc]
  · rw [BitVec.xor_assoc, BitVec.xor_assoc, BitVec.xor_comm y turn]
  · have h : turn ^^^ (y ^^^ turn) = y := by rw [BitVec.xor_comm y, ← BitVec.xor_assoc, BitVec.xor_self, BitVec.zero_xor]
    rw [BitVec.xor_assoc, h]
theorem step_zero : step 0#32 = 0#32 := by decide
/-- k steps. -/
def steps : Nat → W → W
  | 0, v => v
  | k + 1, v => steps k (step v)
theorem steps_add (j k : Nat) (v : W) : steps (j + k) v = steps k (steps j v) := by
  induction j generalizing v with
  | zero => rw [Nat.zero_add]; rfl
  | succ j ih => rw [Nat.add_right_comm]; exact ih _
theorem steps_xor (k : Nat) (a b : W) : steps k (a ^^^ b) = steps k a ^^^ steps k b := by
  induction k generalizing a b with
  | zero => rfl
  | succ k ih => simp only [steps]; rw [step_xor, ih]
theorem steps_zero (k : Nat) : steps k 0#32 = 0#32 := by
  induction k with
  | zero => rfl
  | succ k ih => simp only [steps]; rw [step_zero, ih]
theorem step_top (v : W) : (step v).getLsbD 31 = v.getLsbD 0 := by
  rw [step_eq, BitVec.getLsbD_xor, BitVec.getLsbD_ushiftRight]
  have h1 : v.getLsbD (1 + 31) = false := BitVec.getLsbD_of_ge _ _ (by omega)
  rw [h1]
  cases v.getLsbD 0 <;> decide
theorem step_ne (v : W) (h : v ≠ 0#32) : step v ≠ 0#32 := by
  intro h0
  have h1 := step_top v
  rw [h0] at h1
  have h2 : v.getLsbD 0 = false := by rw [← h1]; decide
  rw [step_eq, h2] at h0
  simp at h0
  apply h
  apply BitVec.eq_of_getLsbD_eq
  intro i hi
  by_cases e : i = 0
  · subst e; rw [h2]; rfl
  · have h3 : (v >>> 1).getLsbD (i - 1) = v.getLsbD i := by rw [BitVec.getLsbD_ushiftRight]; congr 1; omega
    rw [h0] at h3
    rw [← h3]; simp
theorem steps_ne (k : Nat) (v : W) (h : v ≠ 0#32) : steps k v ≠ 0#32 := by
  induction k generalizing v with
  | zero => exact h
  | succ k ih => exact ih _ (step_ne v h)
theorem xor_zero_iff (a b : W) : a ^^^ b = 0#32 ↔ a = b := by
  constructor
  · intro h
    have : a ^^^ b ^^^ b = b := by rw [h, BitVec.zero_xor]
    rwa [BitVec.xor_assoc, BitVec.xor_self, BitVec.xor_zero] at this
  · intro h; rw [h, BitVec.xor_self]
theorem steps_inj (k : Nat) (a b : W) (h : steps k a = steps k b) : a = b := by
  refine Decidable.byContradiction fun hne => ?_
  have h1 : a ^^^ b ≠ 0#32 := fun e => hne ((xor_zero_iff a b).1 e)
  refine steps_ne k _ h1 ?_
  rw [steps_xor, h, BitVec.xor_self]
/-- A bit above the lowest goes down. -/
theorem step_pow (i : Nat) (h : i + 1 < 32) : step (BitVec.twoPow 32 (i + 1)) = BitVec.twoPow 32 i := by
  rw [step_eq]
  have h0 : (BitVec.twoPow 32 (i + 1)).getLsbD 0 = false := by rw [BitVec.getLsbD_twoPow]; simp
  rw [h0]
  simp only [Bool.false_eq_true, if_false, BitVec.xor_zero]
  apply BitVec.eq_of_getLsbD_eq
  intro j hj
  rw [BitVec.getLsbD_ushiftRight, BitVec.getLsbD_twoPow, BitVec.getLsbD_twoPow]
  by_cases e : i = j
  · subst e; simp [Nat.add_comm]; omega
  · have e2 : ¬ i + 1 = 1 + j := by omega
    simp [e, e2]
theorem steps_pow (k i : Nat) (h : i < 32) (hk : k ≤ i) : steps k (BitVec.twoPow 32 i) = BitVec.twoPow 32 (i - k) := by
  induction k generalizing i with
  | zero => rfl
  | succ k ih =>
    obtain ⟨j, rfl⟩ : ∃ j, i = j + 1 := ⟨i - 1, by omega⟩
    simp only [steps]
    rw [step_pow j h, ih j (by omega) (by omega)]
    congr 1; omega
/-! ### Bytes -/
def add (s b : W) : W := steps 8 (s ^^^ b)
def raw (s : W) : List W → W
  | [] => s
  | b :: l => raw (add s b) l
theorem raw_append (s : W) (a b : List W) : raw s (a ++ b) = raw (raw s a) b := by
  induction a generalizing s with
  | nil => rfl
  | cons x l ih => exact ih _
theorem raw_xor (s t : W) (a b : List W) (h : a.length = b.length) : raw (s ^^^ t) (List.zipWith (· ^^^ ·) a b) = raw s a ^^^ raw t b := by
  induction a generalizing s t b with
  | nil => cases b with
    | nil => rfl
    | cons y m => simp at h
  | cons x l ih => cases b with
    | nil => simp at h
    | cons y m =>
      simp only [List.zipWith_cons_cons, raw]
      rw [← ih _ _ m (by simpa using h)]
      congr 1
      simp only [add]
      rw [← steps_xor]
      congr 1
      rw [BitVec.xor_assoc, BitVec.xor_assoc, ← BitVec.xor_assoc t, BitVec.xor_comm t x, BitVec.xor_assoc]
theorem raw_zeros (s : W) (n : Nat) : raw s (List.replicate n 0#32) = steps (8 * n) s := by
  induction n generalizing s with
  | zero => rfl
  | succ n ih =>
    rw [List.replicate_succ]
    simp only [raw]
    rw [ih, Nat.mul_succ, Nat.add_comm, steps_add]
    simp only [add, BitVec.xor_zero]
/-- The register that lies ahead and the bytes each give their part. -/
theorem raw_split (s : W) (l : List W) : raw s l = steps (8 * l.length) s ^^^ raw 0#32 l := by
  have h := raw_xor s 0#32 (List.replicate l.length 0#32) l (by simp)
  rw [BitVec.xor_zero, raw_zeros] at h
  rw [← h]
  congr 1
  apply List.ext_getElem
  · simp
  · intro i h1 h2; simp
theorem raw_len_xor (s t : W) (l : List W) : raw (s ^^^ t) l = raw s l ^^^ steps (8 * l.length) t := by
  rw [raw_split (s ^^^ t), raw_split s, steps_xor, BitVec.xor_assoc, BitVec.xor_assoc, BitVec.xor_comm (steps _ t)]
/-- One byte turned. -/
theorem raw_set (s : W) (l : List W) (j : Nat) (h : j < l.length) (x : W) : raw s (l.set j (l[j] ^^^ x)) = raw s l ^^^ steps (8 * (l.length - j)) x := by
  induction l generalizing s j with
  | nil => simp at h
  | cons b l ih =>
    cases j with
    | zero =>
      simp only [List.set_cons_zero, List.getElem_cons_zero, raw, Nat.sub_zero, List.length_cons]
      have e : add s (b ^^^ x) = add s b ^^^ steps 8 x := by simp only [add]; rw [← BitVec.xor_assoc, steps_xor]
      rw [e, raw_len_xor, Nat.mul_succ, Nat.add_comm, steps_add]
    | succ j =>
      simp only [List.set_cons_succ, List.getElem_cons_succ, raw, List.length_cons, Nat.add_sub_add_right]
      exact ih _ j (by simpa using h)
/-- One bit turned. -/
theorem raw_bit (s : W) (l : List W) (p i : Nat) (h : p + i < 8 * l.length) (hi : i < 32) (hj : (p + i) / 8 < l.length) :
    raw s (l.set ((p + i) / 8) (l[(p + i) / 8] ^^^ BitVec.twoPow 32 ((p + i) % 8))) = raw s l ^^^ steps (8 * l.length - p) (BitVec.twoPow 32 i) := by
  rw [raw_set s l _ hj]
  congr 1
  have e1 : 8 * (l.length - (p + i) / 8) = (p + i) % 8 + (8 * l.length - (p + i)) := by omega
  have e2 : 8 * l.length - p = i + (8 * l.length - (p + i)) := by omega
  rw [e1, e2, steps_add, steps_add, steps_pow _ _ (by omega) (Nat.le_refl _), steps_pow _ _ hi (Nat.le_refl _), Nat.sub_self, Nat.sub_self]
/-! ### Four bytes of a word -/
theorem step_even (v : W) (h : v.getLsbD 0 = false) : step v = v >>> 1 := by
  rw [step_eq, h]; simp
theorem steps_low (k : Nat) (v : W) (h : ∀ j, j < k → v.getLsbD j = false) : steps k v = v >>> k := by
  induction k generalizing v with
  | zero => simp [steps]
  | succ k ih =>
    simp only [steps]
    rw [step_even v (h 0 (by omega)), ih]
    · rw [← BitVec.shiftRight_add, Nat.add_comm]
    · intro j hj
      rw [BitVec.getLsbD_ushiftRight]
      exact h _ (by omega)
theorem byte_split (y : W) : y = (y &&& 255#32) ^^^ (y &&& ~~~255#32) := by
  apply BitVec.eq_of_getLsbD_eq
  intro i hi
  simp only [BitVec.getLsbD_xor, BitVec.getLsbD_and, BitVec.getLsbD_not]
  cases y.getLsbD i <;> cases (255#32).getLsbD i <;> simp [hi]
theorem byte_high (y : W) : steps 8 (y &&& ~~~255#32) = y >>> 8 := by
  rw [steps_low]
  · apply BitVec.eq_of_getLsbD_eq
    intro i hi
    simp only [BitVec.getLsbD_ushiftRight, BitVec.getLsbD_and]
    by_cases h : 8 + i < 32
    · have : (~~~255#32).getLsbD (8 + i) = true := by
        have : ∀ j : Fin 24, (~~~255#32).getLsbD (8 + j.val) = true := by decide
        exact this ⟨i, by omega⟩
      rw [this, Bool.and_true]
    · rw [BitVec.getLsbD_of_ge y _ (by omega)]; simp
  · intro j hj
    have : ∀ j : Fin 8, (~~~255#32).getLsbD j.val = false := by decide
    rw [BitVec.getLsbD_and, this ⟨j, hj⟩, Bool.and_false]
theorem add_byte (r y : W) : add r (y &&& 255#32) = steps 8 (r ^^^ y) ^^^ (y >>> 8) := by
  have h : r ^^^ (y &&& 255#32) = (r ^^^ y) ^^^ (y &&& ~~~255#32) := by
    have e : ∀ a b : W, a ^^^ b ^^^ b = a := fun a b => by rw [BitVec.xor_assoc, BitVec.xor_self, BitVec.xor_zero]
    have h2 := byte_split y
    generalize y &&& 255#32 = u at h2 ⊢
    generalize y &&& ~~~255#32 = v at h2 ⊢
    rw [h2, ← BitVec.xor_assoc, e]
  unfold add
  rw [h, steps_xor, byte_high]
theorem raw_word (r y : W) : raw r [y &&& 255#32, (y >>> 8) &&& 255#32, (y >>> 16) &&& 255#32, (y >>> 24) &&& 255#32] = steps 32 (r ^^^ y) := by
  have e : ∀ a b : W, a ^^^ b ^^^ b = a := fun a b => by rw [BitVec.xor_assoc, BitVec.xor_self, BitVec.xor_zero]
  have s1 : y >>> 8 >>> 8 = y >>> 16 := by rw [← BitVec.shiftRight_add]
  have s2 : y >>> 16 >>> 8 = y >>> 24 := by rw [← BitVec.shiftRight_add]
  have s3 : y >>> 24 >>> 8 = 0#32 := by
    rw [← BitVec.shiftRight_add]
    apply BitVec.eq_of_getLsbD_eq
    intro i hi
    rw [BitVec.getLsbD_ushiftRight, BitVec.getLsbD_of_ge y _ (by omega)]; simp
  simp only [raw]
  rw [add_byte r y, add_byte _ (y >>> 8), s1, e, add_byte _ (y >>> 16), s2, e, add_byte _ (y >>> 24), s3, e, BitVec.xor_zero]
  show _ = steps (8 + (8 + (8 + 8))) (r ^^^ y)
  rw [steps_add, steps_add, steps_add]
/-! ### A linear function by what it does to each bit -/
def low (s : W) (k : Nat) : W := BitVec.ofNat 32 (s.toNat % 2 ^ k)
theorem low_zero (s : W) : low s 0 = 0#32 := by simp [low, Nat.mod_one]
theorem low_all (s : W) : low s 32 = s := by
  apply BitVec.eq_of_toNat_eq
  simp [low]
  exact s.isLt
theorem low_succ (s : W) (k : Nat) (h : k < 32) : low s (k + 1) = low s k ^^^ (if s.getLsbD k then BitVec.twoPow 32 k else 0#32) := by
  apply BitVec.eq_of_getLsbD_eq
  intro i hi
  have h1 : ∀ m, (low s m).getLsbD i = (decide (i < m) && s.getLsbD i) := by
    intro m
    rw [low, BitVec.getLsbD_ofNat, Nat.testBit_mod_two_pow, decide_eq_true hi, Bool.true_and]
    rfl
  rw [BitVec.getLsbD_xor, h1, h1]
  by_cases e : i = k
  · subst e
    cases hb : s.getLsbD i
    · simp
    · simp [hi]
  · have e1 : (if s.getLsbD k = true then BitVec.twoPow 32 k else 0#32).getLsbD i = false := by
      by_cases hb : s.getLsbD k = true
      · rw [if_pos hb, BitVec.getLsbD_twoPow]; simp; intro _ e2; exact absurd e2.symm e
      · rw [if_neg hb]; simp
    rw [e1, Bool.xor_false]
    congr 1
    by_cases c : i < k
    · rw [decide_eq_true c, decide_eq_true (by omega)]
    · rw [decide_eq_false c, decide_eq_false (by omega)]
structure Lin (F : W → W) : Prop where
  xor : ∀ a b, F (a ^^^ b) = F a ^^^ F b
  zero : F 0#32 = 0#32
theorem Lin.low {F : W → W} (h : Lin F) (s : W) (k : Nat) (hk : k < 32) : F (low s (k + 1)) = F (low s k) ^^^ (if s.getLsbD k then F (BitVec.twoPow 32 k) else 0#32) := by
  rw [low_succ s k hk, h.xor]
  congr 1
  split
  · rfl
  · exact h.zero
theorem Lin.steps (k : Nat) : Lin (steps k) := ⟨steps_xor k, steps_zero k⟩
theorem Lin.twice {F : W → W} (h : Lin F) : Lin (fun v => F (F v)) := ⟨fun a b => by simp only [h.xor], by simp only [h.zero]⟩
end Go.Proofs.Ytjlckmekajlbmaa.Crc
