/-
  The examples of chapter 06 hold: the law's 'awake' returns true.
-/
import Derived.Test.YtjlckmekajlbmaaVe
import Derived.Test.YtjlckmekajlbmaaAw
namespace Go.Proofs.Ytjlckmekajlbmaa.H
open Go.RowKit Go.Proofs.YtjlckmekajlbmaaW.PrintWords Go.Proofs.YtjlckmekajlbmaaW.PrintLast Go.Proofs.YtjlckmekajlbmaaW.PrintMore
set_option linter.unusedVariables false
def nine : List Bool := [true, false, true, true, false, false, false, false, true]
theorem x_regs : words_Regs.f [0, 1, 1, 2] = some ([1, 258], true) := by decide +kernel
theorem x_parts : words_Parts.f 65538 = some (1, 2) := by decide +kernel
theorem x_word : words_Word.f (-2) = some (65534, true) := by decide +kernel
theorem x_far : words_Word.f 40000 = some (0, false) := by decide +kernel
theorem x_pack : words_PackBits.f nine = some [13, 1] := by decide +kernel
theorem x_same : saucierlaw06_Same.f [13, 1] [13, 1] = some true := by decide +kernel
theorem x_bits : words_Bits.f [13, 1] 9 = some nine := by decide +kernel
theorem x_none : words_Bits.f [13, 3] 9 = some [] := by decide +kernel
theorem x_bools : saucierlaw06_Bools.f nine nine = some true := by decide +kernel
theorem x_packregs : words_PackRegs.f [1, 258] = some [0, 1, 1, 2] := by decide +kernel
theorem x_same2 : saucierlaw06_Same.f [0, 1, 1, 2] [0, 1, 1, 2] = some true := by decide +kernel
theorem x_lawregs : saucierlaw06_Regs.f [1, 258] [1, 258] = some true := by decide +kernel
theorem x_wide : words_Wide.f 1 2 = some 65538 := by decide +kernel
theorem x_signed : words_Signed.f 65535 = some (-1) := by decide +kernel
/-- A literal of bools, as it lies in a new block. -/
theorem C_litb (W : World) (e : TypeId) (fr : Nat × Nat) (xs : List Bool) (hm : xs.length ≤ 9223372036854775807) :
    Kd.C Kd.bool (W.alloc (.cells (xs.map Value.bool).toArray e fr)) (some ⟨W.heap.size, 0, none⟩) xs.length xs := by
  refine ⟨rfl, hm, fun _ => ⟨_, rfl, fun j p hj => ⟨[.bool p], rfl, rfl, fun i u hi => ?_⟩⟩⟩
  have hi0 : i = 0 := by
    have := (List.getElem?_eq_some_iff.1 hi).1
    simpa using this
  subst hi0
  have hu : Value.bool p = u := by simpa using hi
  subst hu
  have hadd : (⟨W.heap.size, 0, none⟩ : Addr).add (j * Kd.bool.sz + 0) = ⟨W.heap.size, j, none⟩ := by
    rw [add_plain]
    show (⟨W.heap.size, j * 1 + 0, none⟩ : Addr) = _
    rw [Nat.mul_one, Nat.add_zero]
  rw [hadd, cell_of_row _ _ j _ e fr (heap_alloc_new W _)]
  simp [hj]
set_option maxHeartbeats 8000000 in
set_option maxRecDepth 100000 in
theorem awake06_calls (w : World) : Calls Try.prog 22 #[] w fun e w' => e = .returned (.bool true) ∧ Below w.heap.size w w' := by
  go_enter Try.func22, Try.ntmps22
  go_wp2_with fail
  have hsz : (w.alloc (.cells (nine.map Value.bool).toArray 4)).heap.size = w.heap.size + 1 := by simp
  have c1 := C_lit .u8 (w.alloc (.cells (nine.map Value.bool).toArray 4)) 5 (0, 0) [0, 1, 1, 2] (by decide)
  rw [hsz] at c1
  refine (words_Regs.calls (some ⟨w.heap.size + 1, 0, none⟩) 4 [0, 1, 1, 2] [1, 258] true _ c1 (by decide) x_regs).mono ?_
  clear c1 hsz
  rintro e w1 ⟨v1, rfl, hR1, hb1⟩
  obtain ⟨A1, n1, rfl⟩ := Kd.R_slice hR1
  have HR := Aside0.mk (Kd.R_reads' hR1)
  have HL := Aside0.mk (Kd.C_below (Kd.C_alloc (C_litb w 4 (0, 0) nine (by decide)) _) hb1)
  have HB := Aside0.mk (below_step (below_alloc (below_alloc (Below.refl _ w) _) _) hb1)
  clear hR1 hb1
  go_wp2_with fail
  refine (words_Parts.calls 65538 1 2 _ x_parts).mono ?_
  rintro e w2 ⟨rfl, ⟨nd2, rfl⟩⟩
  go_wp2_with fail
  refine (words_Word.calls (-2) 65534 true _ x_word).mono ?_
  rintro e w3 ⟨rfl, ⟨nd3, rfl⟩⟩
  go_wp2_with fail
  refine (words_Word.calls 40000 0 false _ x_far).mono ?_
  rintro e w4 ⟨rfl, ⟨nd4, hw4⟩⟩
  have hb4 : Below w1.heap.size w1 w4 := by rw [hw4]; (repeat (first | exact Below.refl _ _ | apply pw_below_drewN))
  have HR4 := Aside0.mk (Kd.C_below HR.out.2.2 hb4)
  have HL4 := Aside0.mk (Kd.C_below HL.out hb4)
  have HB4 := Aside0.mk (below_step HB.out hb4)
  have HN := Aside0.mk (show 2 ≤ n1 from HR.out.2.1)
  clear hw4 hb4 HR HL HB
  go_wp2_with fail
  refine (words_PackBits.calls (some ⟨w.heap.size, 0, none⟩) 9 nine [13, 1] _ HL4.out (by decide) x_pack).mono ?_
  rintro e w5 ⟨v5, rfl, hR5, hb5⟩
  obtain ⟨A5, n5, rfl⟩ := Kd.R_slice hR5
  have HP5 := Aside0.mk (Kd.R_reads' hR5)
  have HR5 := Aside0.mk (Kd.C_below HR4.out hb5)
  have HL5 := Aside0.mk (Kd.C_below HL4.out hb5)
  have HB5 := Aside0.mk (below_step HB4.out hb5)
  clear hR5 hb5 HR4 HL4 HB4
  go_wp2_with fail
  refine (saucierlaw06_Same.calls A5 n5 [13, 1] (some ⟨w5.heap.size, 0, none⟩) 2 [13, 1] true _ (Kd.C_alloc HP5.out.2.2 _) HP5.out.2.1 (C_lit .u8 w5 5 (0, 0) [13, 1] (by decide)) (by decide) x_same).mono ?_
  rintro e w6 ⟨rfl, ⟨nd6, hw6⟩⟩
  have hb6 : Below w5.heap.size w5 w6 := by rw [hw6]; exact pw_below_drewN (below_alloc (Below.refl _ _) _) _
  have HR6 := Aside0.mk (Kd.C_below HR5.out hb6)
  have HL6 := Aside0.mk (Kd.C_below HL5.out hb6)
  have HB6 := Aside0.mk (below_step HB5.out hb6)
  clear hw6 hb6 HP5 HR5 HL5 HB5
  go_wp2_with fail
  refine (words_Bits.calls (some ⟨w6.heap.size, 0, none⟩) 2 [13, 1] 9 nine _ (C_lit .u8 w6 5 (0, 0) [13, 1] (by decide)) (by decide) x_bits).mono ?_
  rintro e w7 ⟨v7, rfl, hV7, hb7⟩
  obtain ⟨A7, n7, rfl⟩ := Kd.V_slice hV7
  have HP7 := Aside0.mk (Kd.V_reads' hV7)
  have hb7' := below_step (below_alloc (Below.refl _ w6) _) hb7
  have HR7 := Aside0.mk (Kd.C_below HR6.out hb7')
  have HL7 := Aside0.mk (Kd.C_below HL6.out hb7')
  have HB7 := Aside0.mk (below_step HB6.out hb7')
  clear hV7 hb7 hb7' HR6 HL6 HB6
  go_wp2_with fail
  refine (saucierlaw06_Bools.calls A7 n7 nine (some ⟨w.heap.size, 0, none⟩) 9 nine true _ HP7.out.2.2 HP7.out.2.1 HL7.out (by decide) x_bools).mono ?_
  rintro e w8 ⟨rfl, ⟨nd8, hw8⟩⟩
  have hb8 : Below w7.heap.size w7 w8 := by rw [hw8]; exact pw_below_drewN (Below.refl _ _) _
  have HR8 := Aside0.mk (Kd.C_below HR7.out hb8)
  have HB8 := Aside0.mk (below_step HB7.out hb8)
  clear hw8 hb8 HP7 HR7 HL7 HB7
  go_wp2_with fail
  refine (words_Bits.calls (some ⟨w8.heap.size, 0, none⟩) 2 [13, 3] 9 [] _ (C_lit .u8 w8 5 (0, 0) [13, 3] (by decide)) (by decide) x_none).mono ?_
  rintro e w9 ⟨v9, rfl, hV9, hb9⟩
  obtain ⟨A9, n9, rfl⟩ := Kd.V_slice hV9
  have hb9' := below_step (below_alloc (Below.refl _ w8) _) hb9
  have HR9 := Aside0.mk (Kd.C_below HR8.out hb9')
  have HB9 := Aside0.mk (below_step HB8.out hb9')
  clear hV9 hb9 hb9' HR8 HB8
  go_wp2_with fail
  refine (words_PackRegs.calls (some ⟨w9.heap.size, 0, none⟩) 2 [1, 258] [0, 1, 1, 2] _ (C_lit .u16 w9 23 (0, 0) [1, 258] (by decide)) (by decide) x_packregs).mono ?_
  rintro e w10 ⟨v10, rfl, hR10, hb10⟩
  obtain ⟨A10, n10, rfl⟩ := Kd.R_slice hR10
  have HP10 := Aside0.mk (Kd.R_reads' hR10)
  have hb10' := below_step (below_alloc (Below.refl _ w9) _) hb10
  have HR10 := Aside0.mk (Kd.C_below HR9.out hb10')
  have HB10 := Aside0.mk (below_step HB9.out hb10')
  clear hR10 hb10 hb10' HR9 HB9
  go_wp2_with fail
  refine (saucierlaw06_Same.calls A10 n10 [0, 1, 1, 2] (some ⟨w10.heap.size, 0, none⟩) 4 [0, 1, 1, 2] true _ (Kd.C_alloc HP10.out.2.2 _) HP10.out.2.1 (C_lit .u8 w10 5 (0, 0) [0, 1, 1, 2] (by decide)) (by decide) x_same2).mono ?_
  rintro e w11 ⟨rfl, ⟨nd11, hw11⟩⟩
  have hb11 : Below w10.heap.size w10 w11 := by rw [hw11]; exact pw_below_drewN (below_alloc (Below.refl _ _) _) _
  have HR11 := Aside0.mk (Kd.C_below HR10.out hb11)
  have HB11 := Aside0.mk (below_step HB10.out hb11)
  clear hw11 hb11 HP10 HR10 HB10
  go_wp2_with fail
  refine (saucierlaw06_Regs.calls A1 n1 [1, 258] (some ⟨w11.heap.size, 0, none⟩) 2 [1, 258] true _ (Kd.C_alloc HR11.out _) HN.out (C_lit .u16 w11 23 (0, 0) [1, 258] (by decide)) (by decide) x_lawregs).mono ?_
  rintro e w12 ⟨rfl, ⟨nd12, hw12⟩⟩
  have hb12 : Below w11.heap.size w11 w12 := by rw [hw12]; exact pw_below_drewN (below_alloc (Below.refl _ _) _) _
  have HB12 := Aside0.mk (below_step HB11.out hb12)
  clear hw12 hb12 HR11 HB11
  go_wp2_with fail
  refine (words_Wide.calls 1 2 65538 _ x_wide).mono ?_
  rintro e w13 ⟨rfl, ⟨nd13, hw13⟩⟩
  have HB13 := Aside0.mk (show Below w.heap.size w w13 from by rw [hw13]; (repeat (first | exact HB12.out | apply pw_below_drewN)))
  clear hw13 HB12
  go_wp2_with fail
  refine (words_Signed.calls 65535 (-1) _ x_signed).mono ?_
  rintro e w14 ⟨rfl, ⟨nd14, hw14⟩⟩
  have HB14 := Aside0.mk (show Below w.heap.size w w14 from by rw [hw14]; (repeat (first | exact HB13.out | apply pw_below_drewN)))
  clear hw14 HB13
  go_wp2_with fail
  go_ret
  exact ⟨rfl, HB14.out⟩
def saucierlaw06_awake.f : Option Bool := some true
theorem saucierlaw06_awake.calls (r : Bool) (w : World) (h : saucierlaw06_awake.f = some r) :
    Calls Try.prog 22 #[] w fun e w' => e = .returned (.bool r) ∧ Below w.heap.size w w' := by
  obtain rfl := Option.some.inj h
  exact awake06_calls w
end Go.Proofs.Ytjlckmekajlbmaa.H
