/-
  Regs of package words and of its reference, and the reference's PackRegs: each by one plain Lean function, with no count of rounds.
-/
import Derived.Test.YtjlckmekajlbmaaVa
namespace Go.Proofs.Ytjlckmekajlbmaa.H
open Go.RowKit Go.Proofs.YtjlckmekajlbmaaW.PrintWords Go.Proofs.YtjlckmekajlbmaaW.PrintLast Go.Proofs.YtjlckmekajlbmaaW.PrintMore
set_option linter.unusedVariables false
/-- The registers that bytes are. -/
def unpack (b : List Int) : List Int := (List.range (b.length / 2)).map fun (i : Nat) => rd b ((2 * i : Nat) : Int) * 256 + rd b ((2 * i + 1 : Nat) : Int)
theorem unpack_len (b : List Int) : (unpack b).length = b.length / 2 := by simp [unpack]
theorem unpack_at (b : List Int) (i : Nat) (h : i < (unpack b).length) : (unpack b)[i] = rd b ((2 * i : Nat) : Int) * 256 + rd b ((2 * i + 1 : Nat) : Int) := by simp only [unpack, List.getElem_map, List.getElem_range]
theorem fill_step {α : Type} (z : α) (D : List α) (n i : Nat) (hD : D.length = n) (h : i < D.length) : (D.take i ++ List.replicate (n - i) z).set i D[i] = D.take (i + 1) ++ List.replicate (n - (i + 1)) z := by
  subst hD
  have e : D.length - i = (D.length - (i + 1)) + 1 := by omega
  have hl : (D.take i).length = i := by rw [List.length_take]; omega
  rw [List.set_append_right _ _ (by omega), hl, Nat.sub_self, e, List.replicate_succ, List.set_cons_zero, List.take_succ_eq_append_getElem h, List.append_assoc]
  rfl
def regsOf (b : List Int) : List Int × Bool := if b.length % 2 = 1 then ([], false) else (unpack b, true)
def words_Regs.f (b : List Int) : Option (List Int × Bool) := if b.length ≤ 1000000 ∧ inR 256 b then some (regsOf b) else none
theorem Regs_loop (b : List Int) (hb : b.length ≤ 1000000) (hr : inR 256 b) (n : Nat) (hn : b.length = 2 * n) (d : Nat) : ∀ (i k : Nat), i + d = n → d < k →
    G.words_Regs.l0 k b ((unpack b).take i ++ List.replicate (n - i) 0) (n : Int) (i : Int) = some (unpack b, true) := by
  have hu : (unpack b).length = n := by rw [unpack_len]; omega
  induction d with
  | zero =>
    intro i k hi hk
    obtain ⟨k, rfl⟩ : ∃ m, k = m + 1 := ⟨k - 1, by omega⟩
    obtain rfl : i = n := by omega
    rw [G.words_Regs.l0, if_neg (by omega), List.take_of_length_le (by omega), Nat.sub_self, List.replicate_zero, List.append_nil]
  | succ d ih =>
    intro i k hi hk
    obtain ⟨k, rfl⟩ : ∃ m, k = m + 1 := ⟨k - 1, by omega⟩
    have hl : ((unpack b).take i ++ List.replicate (n - i) 0).length = n := by rw [List.length_append, List.length_take, List.length_replicate]; omega
    have w1 : wrap64 (2 * (i : Int)) = ((2 * i : Nat) : Int) := by unfold wrap64; omega
    have w2 : wrap64 (((2 * i : Nat) : Int) + 1) = ((2 * i + 1 : Nat) : Int) := wrap_in _ (by omega)
    have h1 := hr.at_ (2 * i) (by omega)
    have h2 := hr.at_ (2 * i + 1) (by omega)
    have e1 : IntKind.u16.wrap (IntKind.u16.wrap (rd b ((2 * i : Nat) : Int)) * 256) = rd b ((2 * i : Nat) : Int) * 256 := by rw [IntKind.wrap_u16, IntKind.wrap_u16]; omega
    have e2 : IntKind.u16.wrap (rd b ((2 * i + 1 : Nat) : Int)) = rd b ((2 * i + 1 : Nat) : Int) := by rw [IntKind.wrap_u16]; omega
    have hs := fill_step 0 (unpack b) n i hu (by omega)
    rw [unpack_at b i (by omega)] at hs
    rw [G.words_Regs.l0, if_pos (by omega), w1, w2, if_pos (by omega), if_pos (by omega), if_pos (by omega), if_pos (by omega), if_pos (by omega), if_pos (by rw [hl]; omega), Int.toNat_natCast, e1, e2, or16 _ _ h1 h2, hs, wrap_in i (by omega)]
    exact ih (i + 1) k (by omega) (by omega)
theorem Regs_is (b : List Int) (hb : b.length ≤ 1000000) (hr : inR 256 b) (k : Nat) (hk : b.length < k) : G.words_Regs.f k b = some (regsOf b) := by
  unfold G.words_Regs.f regsOf
  rw [and64 _ (by omega)]
  by_cases c : b.length % 2 = 1
  · rw [if_pos (by omega), if_pos c]
  · have hn : b.length = 2 * (b.length / 2) := by omega
    have w : wrap64 ((b.length : Int) / 2) = ((b.length / 2 : Nat) : Int) := by unfold wrap64; omega
    rw [if_neg (by omega), if_neg c, w, if_pos (by omega), Int.toNat_natCast, if_pos (by omega), Option.bind_some, List.length_replicate]
    have h := Regs_loop b hb hr (b.length / 2) hn (b.length / 2) 0 k (by omega) (by omega)
    rw [List.take_zero, List.nil_append, Nat.sub_zero] at h
    exact h
theorem words_Regs.calls (A0 : Option Addr) (c0 : Nat) (l0 : List Int) (r1 : List Int) (r2 : Bool) (w : World) (hr0 : Kd.C (Kd.int .u8) w A0 l0.length l0) (hc0 : l0.length ≤ c0) (h : words_Regs.f l0 = some (r1, r2)) :
    Calls Try.prog 23 #[.slice A0 l0.length c0] w fun e w' => ∃ v0_ : Value, e = .returned (.tuple #[v0_, .bool r2]) ∧ Kd.R (Kd.int .u16) 23 w' w.heap.size (fun _ => True) v0_ r1 ∧ Below w.heap.size w w' := by
  unfold words_Regs.f at h
  split at h
  · rename_i hr
    exact G.words_Regs.calls (l0.length + 1) A0 c0 l0 r1 r2 w hr0 hc0 ((Regs_is l0 hr.1 hr.2 _ (by omega)).trans h)
  · cases h
def saucierref06_Regs.f (b : List Int) : Option (List Int × Bool) := if b.length ≤ 1000000 ∧ inR 256 b then some (regsOf b) else none
theorem refRegs_loop (b : List Int) (hb : b.length ≤ 1000000) (hr : inR 256 b) (n : Nat) (hn : b.length = 2 * n) (d : Nat) : ∀ (i k : Nat), i + d = n → d < k →
    G.saucierref06_Regs.l0 k b ((unpack b).take i) ((2 * i : Nat) : Int) = some (unpack b, true) := by
  have hu : (unpack b).length = n := by rw [unpack_len]; omega
  induction d with
  | zero =>
    intro i k hi hk
    obtain ⟨k, rfl⟩ : ∃ m, k = m + 1 := ⟨k - 1, by omega⟩
    rw [G.saucierref06_Regs.l0, if_neg (by omega), List.take_of_length_le (by omega)]
  | succ d ih =>
    intro i k hi hk
    obtain ⟨k, rfl⟩ : ∃ m, k = m + 1 := ⟨k - 1, by omega⟩
    have hl : ((unpack b).take i).length ≤ n := by rw [List.length_take]; omega
    have w2 : wrap64 (((2 * i : Nat) : Int) + 1) = ((2 * i + 1 : Nat) : Int) := wrap_in _ (by omega)
    have w3 : wrap64 (((2 * i : Nat) : Int) + 2) = ((2 * (i + 1) : Nat) : Int) := by unfold wrap64; omega
    have h1 := hr.at_ (2 * i) (by omega)
    have h2 := hr.at_ (2 * i + 1) (by omega)
    have e1 : IntKind.u16.wrap ((IntKind.u16.wrap (256 * (IntKind.u16.wrap (rd b ((2 * i : Nat) : Int))))) + (IntKind.u16.wrap (rd b ((2 * i + 1 : Nat) : Int)))) = rd b ((2 * i : Nat) : Int) * 256 + rd b ((2 * i + 1 : Nat) : Int) := by
      rw [IntKind.wrap_u16, IntKind.wrap_u16, IntKind.wrap_u16, IntKind.wrap_u16]; omega
    have hs : (unpack b).take i ++ [rd b ((2 * i : Nat) : Int) * 256 + rd b ((2 * i + 1 : Nat) : Int)] = (unpack b).take (i + 1) := by
      rw [List.take_succ_eq_append_getElem (by omega), unpack_at b i (by omega)]
    rw [G.saucierref06_Regs.l0, if_pos (by omega), if_pos (by omega), w2, w3, if_pos (by omega), if_pos (by omega), if_pos (by omega), e1, hs]
    exact ih (i + 1) k (by omega) (by omega)
theorem refRegs_is (b : List Int) (hb : b.length ≤ 1000000) (hr : inR 256 b) (k : Nat) (hk : b.length < k) : G.saucierref06_Regs.f k b = some (regsOf b) := by
  unfold G.saucierref06_Regs.f regsOf
  by_cases c : b.length % 2 = 1
  · rw [if_neg (by omega), if_pos c]
  · rw [if_pos (by omega), if_neg c]
    have h := refRegs_loop b hb hr (b.length / 2) (by omega) (b.length / 2) 0 k (by omega) (by omega)
    rw [List.take_zero] at h
    exact h
theorem saucierref06_Regs.calls (A0 : Option Addr) (c0 : Nat) (l0 : List Int) (r1 : List Int) (r2 : Bool) (w : World) (hr0 : Kd.C (Kd.int .u8) w A0 l0.length l0) (hc0 : l0.length ≤ c0) (h : saucierref06_Regs.f l0 = some (r1, r2)) :
    Calls Try.prog 24 #[.slice A0 l0.length c0] w fun e w' => ∃ v0_ : Value, e = .returned (.tuple #[v0_, .bool r2]) ∧ Kd.R (Kd.int .u16) 23 w' w.heap.size (fun _ => True) v0_ r1 ∧ Below w.heap.size w w' := by
  unfold saucierref06_Regs.f at h
  split at h
  · rename_i hr
    exact G.saucierref06_Regs.calls (l0.length + 1) A0 c0 l0 r1 r2 w hr0 hc0 ((refRegs_is l0 hr.1 hr.2 _ (by omega)).trans h)
  · cases h
theorem refPackRegs_loop (l : List Int) (hl : l.length ≤ 1000000) (hr : inR 65536 l) (d : Nat) : ∀ (i k : Nat), i + d = l.length → d < k →
    G.saucierref06_PackRegs.l0 k l (pack (l.take i)) (i : Int) = some (pack l) := by
  induction d with
  | zero =>
    intro i k hi hk
    obtain ⟨k, rfl⟩ : ∃ m, k = m + 1 := ⟨k - 1, by omega⟩
    rw [G.saucierref06_PackRegs.l0, if_neg (by omega), List.take_of_length_le (by omega)]
  | succ d ih =>
    intro i k hi hk
    obtain ⟨k, rfl⟩ : ∃ m, k = m + 1 := ⟨k - 1, by omega⟩
    have hp := pack_len (l.take i)
    rw [List.length_take] at hp
    have hx := hr.at_ i (by omega)
    have e1 : (IntKind.u16.wrap (Int.tdiv (rd l (i : Int)) 256)) % 256 = rd l (i : Int) / 256 % 256 := by
      rw [IntKind.wrap_u16, Int.tdiv_eq_ediv_of_nonneg hx.1]; omega
    have e2 : (Int.tmod (rd l (i : Int)) 256) % 256 = rd l (i : Int) % 256 := by
      rw [Int.tmod_eq_emod_of_nonneg hx.1]; omega
    rw [G.saucierref06_PackRegs.l0, if_pos (by omega), if_pos (by omega), Option.bind_some, if_pos (by rw [hp]; simp; omega), wrap_in i (by omega), e1, e2, ← pack_take l i (by omega), ih (i + 1) k (by omega) (by omega)]
def saucierref06_PackRegs.f (l : List Int) : Option (List Int) := if l.length ≤ 1000000 ∧ inR 65536 l then some (pack l) else none
theorem saucierref06_PackRegs.calls (A0 : Option Addr) (c0 : Nat) (l0 : List Int) (r : List Int) (w : World) (hr0 : Kd.C (Kd.int .u16) w A0 l0.length l0) (hc0 : l0.length ≤ c0) (h : saucierref06_PackRegs.f l0 = some r) :
    Calls Try.prog 32 #[.slice A0 l0.length c0] w fun e w' => ∃ v0_ : Value, e = .returned (v0_) ∧ Kd.R (Kd.int .u8) 5 w' w.heap.size (fun _ => True) v0_ r ∧ Below w.heap.size w w' := by
  unfold saucierref06_PackRegs.f at h
  split at h
  · rename_i hr
    exact G.saucierref06_PackRegs.calls (l0.length + 1) A0 c0 l0 r w hr0 hc0 ((refPackRegs_loop l0 hr.1 hr.2 l0.length 0 _ (by omega) (by omega)).trans h)
  · cases h
end Go.Proofs.Ytjlckmekajlbmaa.H
