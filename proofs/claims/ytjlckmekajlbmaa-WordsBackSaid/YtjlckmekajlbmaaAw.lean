/-
  The examples of chapter 08 hold: the law's 'awake' returns true.
-/
import Derived.Test.YtjlckmekajlbmaaHc
import Derived.Lib.SlBytesConst
namespace Go.Proofs.Ytjlckmekajlbmaa.H
open Go.RowKit Go.Proofs.YtjlckmekajlbmaaW.PrintWords Go.Proofs.YtjlckmekajlbmaaW.PrintLast Go.Proofs.YtjlckmekajlbmaaW.PrintMore
open Go.Proofs.Ytjlckmekajlbmaa.Crc
set_option linter.unusedVariables false
theorem crc_nine : sum_Bytes.f [49, 50, 51, 52, 53, 54, 55, 56, 57] = some 3421780262 := by decide +kernel
theorem crc_none : sum_Bytes.f [] = some 0 := by decide +kernel
theorem crc_four : sum_Bytes.f [49, 50, 51, 52] = some 2615402659 := by decide +kernel
theorem crc_regs : sum_Words.f [12594, 13108] = some 2615402659 := by decide +kernel
/-- A literal of numbers, as it lies in a new block, marked or not. -/
theorem C_lit (k : IntKind) (W : World) (e : TypeId) (fr : Nat × Nat) (xs : List Int) (hm : xs.length ≤ 9223372036854775807) :
    Kd.C (Kd.int k) (W.alloc (.cells (xs.map (Value.int k)).toArray e fr)) (some ⟨W.heap.size, 0, none⟩) xs.length xs := by
  refine ⟨rfl, hm, fun _ => ⟨_, rfl, fun j p hj => ⟨[.int k p], rfl, rfl, fun i u hi => ?_⟩⟩⟩
  have hi0 : i = 0 := by
    have := (List.getElem?_eq_some_iff.1 hi).1
    simpa using this
  subst hi0
  have hu : Value.int k p = u := by simpa using hi
  subst hu
  have hadd : (⟨W.heap.size, 0, none⟩ : Addr).add (j * (Kd.int k).sz + 0) = ⟨W.heap.size, j, none⟩ := by
    rw [add_plain]
    show (⟨W.heap.size, j * 1 + 0, none⟩ : Addr) = _
    rw [Nat.mul_one, Nat.add_zero]
  rw [hadd, cell_of_row _ _ j _ e fr (heap_alloc_new W _)]
  simp [hj]
set_option maxHeartbeats 4000000 in
set_option maxRecDepth 100000 in
theorem awake_calls (w : World) : Calls Try.prog 12 #[] w fun e w' => e = .returned (.bool true) ∧ Below w.heap.size w w' := by
  have kc := fun (w : World) (C : Array Value) (n c : Nat) => Lib.run_convert_bytes_const (P := Try.prog) w 22 5 C n c Try.underlying22 Try.underlying5
  go_enter Try.func12, Try.ntmps12
  go_wp2_with fail
  refine (sum_Bytes.calls (some ⟨w.heap.size, 0, none⟩) 9 [49, 50, 51, 52, 53, 54, 55, 56, 57] 3421780262 _ (C_lit .u8 w 5 (9, 10) [49, 50, 51, 52, 53, 54, 55, 56, 57] (by decide)) (by decide) crc_nine).mono ?_
  rintro e w1 ⟨rfl, ⟨nd, hw1⟩⟩
  have HB := Aside0.mk (show Below w.heap.size w w1 from by rw [hw1]; exact pw_below_drewN (below_alloc (Below.refl _ _) _) _)
  clear hw1
  go_wp2_with fail
  refine (sum_Bytes.calls none 0 [] 0 _ (Kd.C_nil _ _) (by decide) crc_none).mono ?_
  rintro e w2 ⟨rfl, ⟨nd2, hw2⟩⟩
  have HB2 := Aside0.mk (show Below w.heap.size w w2 from by rw [hw2]; exact pw_below_drewN HB.out _)
  clear hw2 HB
  go_wp2_with fail
  refine (sum_Words.calls (some ⟨w2.heap.size, 0, none⟩) 2 [12594, 13108] 2615402659 _ (C_lit .u16 w2 23 (0, 0) [12594, 13108] (by decide)) (by decide) crc_regs).mono ?_
  rintro e w3 ⟨rfl, hb3⟩
  have HB3 := Aside0.mk (below_step (below_alloc HB2.out _) hb3)
  clear hb3 HB2
  go_wp2_with fail
  refine (sum_Bytes.calls (some ⟨w3.heap.size, 0, none⟩) 4 [49, 50, 51, 52] 2615402659 _ (C_lit .u8 w3 5 (4, 5) [49, 50, 51, 52] (by decide)) (by decide) crc_four).mono ?_
  rintro e w4 ⟨rfl, ⟨nd4, hw4⟩⟩
  have HB4 := Aside0.mk (show Below w.heap.size w w4 from by rw [hw4]; exact pw_below_drewN (below_alloc HB3.out _) _)
  clear hw4 HB3
  go_wp2_with fail
  refine (sum_Bytes.calls (some ⟨w4.heap.size, 0, none⟩) 4 [49, 50, 51, 52] 2615402659 _ (C_lit .u8 w4 5 (4, 5) [49, 50, 51, 52] (by decide)) (by decide) crc_four).mono ?_
  rintro e w5 ⟨rfl, ⟨nd5, hw5⟩⟩
  have HB5 := Aside0.mk (show Below w.heap.size w w5 from by rw [hw5]; exact pw_below_drewN (below_alloc HB4.out _) _)
  clear hw5 HB4
  go_wp2_with fail
  go_ret
  exact ⟨rfl, HB5.out⟩
def saucierlaw08_awake.f : Option Bool := some true
theorem saucierlaw08_awake.calls (r : Bool) (w : World) (h : saucierlaw08_awake.f = some r) :
    Calls Try.prog 12 #[] w fun e w' => e = .returned (.bool r) ∧ Below w.heap.size w w' := by
  obtain rfl := Option.some.inj h
  exact awake_calls w
end Go.Proofs.Ytjlckmekajlbmaa.H
