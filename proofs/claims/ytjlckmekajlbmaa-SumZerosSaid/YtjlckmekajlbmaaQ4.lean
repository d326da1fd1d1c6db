/- A law of package sum as a plain Lean function, and that its call returns true where that one does, under the premises that stand in each theorem. Written by a program of this session: a changed copy of the kit's print. -/
import Derived.Test.YtjlckmekajlbmaaQ0
namespace Go.Proofs.Ytjlckmekajlbmaa.Q
open Go.RowKit Go.Proofs.YtjlckmekajlbmaaW.PrintWords Go.Proofs.YtjlckmekajlbmaaW.PrintLast Go.Proofs.YtjlckmekajlbmaaW.PrintMore Go.Proofs.Ytjlckmekajlbmaa.H
attribute [local go_sem] max2_int min2_int max_two min_two max_three min_three max_four min_four   -- for this text's walks alone
set_option linter.unusedVariables false
set_option linter.unusedSimpArgs false

/-! ### saucierlaw08_SumZeros: function 6 -/
def saucierlaw08_SumZeros.j0 : Nat → Int → Int → Int → Int → Bool → Option (Bool)
  | 0, _, _, _, _, _ => none
  | k + 1, x0, x1, x9, x11, x50 => if x50 = true then (some false) else (if ((x11 == 0) == (x0 == 0)) = true then ((sum_Zeros.f x1 x9).bind fun t146 => (if ((x11 == t146) == (x0 == x1)) = true then ((sum_Zeros.f x0 x9).bind fun t147 => ((sum_Zeros.f x1 x9).bind fun t148 => ((sum_Zeros.f (Go.bits .xor .u32 x0 x1) x9).bind fun t149 => (if (Go.bits .xor .u32 t147 t148) = t149 then ((saucierlaw08_awake.f).bind fun t150 => (some t150)) else (some false))))) else (some false))) else (some false))
def saucierlaw08_SumZeros.f (k : Nat) (a0 : Int) (a1 : Int) (a2 : Int) (a3 : Int) : Option (Bool) := (sum_Zeros.f a0 (wrap64 (Int.tmod a2 1099511627777))).bind fun t139 => ((sum_Zeros.f t139 (wrap64 (Int.tmod a3 1099511627777))).bind fun t140 => ((sum_Zeros.f a0 (wrap64 ((wrap64 (Int.tmod a2 1099511627777)) + (wrap64 (Int.tmod a3 1099511627777))))).bind fun t141 => (if t140 = t141 then ((sum_Zeros.f a0 1).bind fun t142 => ((sum_Add.f a0 0).bind fun t143 => (if t142 = t143 then ((sum_Zeros.f a0 0).bind fun t144 => (if t144 = a0 then ((sum_Zeros.f a0 (wrap64 ((-1) - (wrap64 (Int.tmod a2 1099511627777))))).bind fun t145 => (saucierlaw08_SumZeros.j0 k a0 a1 (wrap64 (Int.tmod a2 1099511627777)) t139 (t145 != a0))) else (saucierlaw08_SumZeros.j0 k a0 a1 (wrap64 (Int.tmod a2 1099511627777)) t139 true))) else (saucierlaw08_SumZeros.j0 k a0 a1 (wrap64 (Int.tmod a2 1099511627777)) t139 true)))) else (saucierlaw08_SumZeros.j0 k a0 a1 (wrap64 (Int.tmod a2 1099511627777)) t139 true))))
theorem saucierlaw08_SumZeros.mono_l : ∀ k, (∀ y0 y1 y2 y3 y4, LeO (saucierlaw08_SumZeros.j0 k y0 y1 y2 y3 y4) (saucierlaw08_SumZeros.j0 (k + 1) y0 y1 y2 y3 y4))
  | 0 => fun _ _ _ _ _ r h => by simp [saucierlaw08_SumZeros.j0] at h
  | k + 1 => by
    have ih0 := saucierlaw08_SumZeros.mono_l k
    · intro y0 y1 y2 y3 y4
      unfold saucierlaw08_SumZeros.j0
      repeat' first
      | (with_reducible exact ih0 _ _ _ _ _)
      | (with_reducible exact LeO.refl _)
      | (with_reducible exact LeO.none _)
      | (with_reducible refine LeO.ite ?_ ?_)
      | (with_reducible refine LeO.bind ?_ (fun _ => ?_))
      | exact ih0 _ _ _ _ _
      | exact LeO.none _
      | refine LeO.ite ?_ ?_
      | refine LeO.bind ?_ (fun _ => ?_)
theorem saucierlaw08_SumZeros.mono : ∀ a0 a1 a2 a3 k, LeO (saucierlaw08_SumZeros.f k a0 a1 a2 a3) (saucierlaw08_SumZeros.f (k + 1) a0 a1 a2 a3) := by
  intro a0 a1 a2 a3 k
  have ih0 := saucierlaw08_SumZeros.mono_l k
  unfold saucierlaw08_SumZeros.f
  repeat' first
      | (with_reducible exact ih0 _ _ _ _ _)
      | (with_reducible exact LeO.refl _)
      | (with_reducible exact LeO.none _)
      | (with_reducible refine LeO.ite ?_ ?_)
      | (with_reducible refine LeO.bind ?_ (fun _ => ?_))
      | exact ih0 _ _ _ _ _
      | exact LeO.none _
      | refine LeO.ite ?_ ?_
      | refine LeO.bind ?_ (fun _ => ?_)
set_option maxHeartbeats 8000000 in
set_option maxRecDepth 100000 in
theorem saucierlaw08_SumZeros.calls (k : Nat) (a0 : Int) (a1 : Int) (a2 : Int) (a3 : Int) (r : Bool) (w : World) (h : saucierlaw08_SumZeros.f k a0 a1 a2 a3 = some r) :
    Calls Try.prog 6 #[.int .u32 a0, .int .u32 a1, .int .u64 a2, .int .u64 a3] w fun e w' => e = .returned (.bool r) ∧ Below w.heap.size w w' := by
  have HB := Aside0.mk (Below.refl w.heap.size w)
  have H : ((sum_Zeros.f a0 (wrap64 (Int.tmod a2 1099511627777))).bind fun t139 => ((sum_Zeros.f t139 (wrap64 (Int.tmod a3 1099511627777))).bind fun t140 => ((sum_Zeros.f a0 (wrap64 ((wrap64 (Int.tmod a2 1099511627777)) + (wrap64 (Int.tmod a3 1099511627777))))).bind fun t141 => (if t140 = t141 then ((sum_Zeros.f a0 1).bind fun t142 => ((sum_Add.f a0 0).bind fun t143 => (if t142 = t143 then ((sum_Zeros.f a0 0).bind fun t144 => (if t144 = a0 then ((sum_Zeros.f a0 (wrap64 ((-1) - (wrap64 (Int.tmod a2 1099511627777))))).bind fun t145 => (saucierlaw08_SumZeros.j0 k a0 a1 (wrap64 (Int.tmod a2 1099511627777)) t139 (t145 != a0))) else (saucierlaw08_SumZeros.j0 k a0 a1 (wrap64 (Int.tmod a2 1099511627777)) t139 true))) else (saucierlaw08_SumZeros.j0 k a0 a1 (wrap64 (Int.tmod a2 1099511627777)) t139 true)))) else (saucierlaw08_SumZeros.j0 k a0 a1 (wrap64 (Int.tmod a2 1099511627777)) t139 true))))) = some r := h
  clear h
  replace H := Option.bind_eq_some_iff.mp H
  obtain ⟨t139, A50, H⟩ := H
  replace H : ((sum_Zeros.f t139 (wrap64 (Int.tmod a3 1099511627777))).bind fun t140 => ((sum_Zeros.f a0 (wrap64 ((wrap64 (Int.tmod a2 1099511627777)) + (wrap64 (Int.tmod a3 1099511627777))))).bind fun t141 => (if t140 = t141 then ((sum_Zeros.f a0 1).bind fun t142 => ((sum_Add.f a0 0).bind fun t143 => (if t142 = t143 then ((sum_Zeros.f a0 0).bind fun t144 => (if t144 = a0 then ((sum_Zeros.f a0 (wrap64 ((-1) - (wrap64 (Int.tmod a2 1099511627777))))).bind fun t145 => (saucierlaw08_SumZeros.j0 k a0 a1 (wrap64 (Int.tmod a2 1099511627777)) t139 (t145 != a0))) else (saucierlaw08_SumZeros.j0 k a0 a1 (wrap64 (Int.tmod a2 1099511627777)) t139 true))) else (saucierlaw08_SumZeros.j0 k a0 a1 (wrap64 (Int.tmod a2 1099511627777)) t139 true)))) else (saucierlaw08_SumZeros.j0 k a0 a1 (wrap64 (Int.tmod a2 1099511627777)) t139 true)))) = some r := H
  have A5 := Aside0.mk A50
  clear A50
  have HC6 := Aside0.mk H
  clear H
  go_enter Try.func6, Try.ntmps6
  go_upto_region 3 with (first | ((with_reducible refine gate_callee (f := 19) rfl ?_); refine goesL_ (some 20) rfl rfl Try.func19 (by kernel_rfl) rfl #[.int .u32 a0, .int .i64 (wrap64 (Int.tmod a2 1099511627777))] rfl (by (try simp only [List.map_toArray, List.map_cons, List.map_nil]); first | done | rfl | (simp only [List.length_drop, List.length_take]; rfl)) ?_; (with_reducible refine (sum_Zeros.calls a0 (wrap64 (Int.tmod a2 1099511627777)) t139 _ A5.out).mono ?_); rintro e w7 ⟨rfl, hb⟩; refine ⟨_, rfl, ?_⟩; have n0_ := Aside0.mk (below_step (by repeat (first | (with_reducible first | exact HB.out | apply below_alloc | apply pw_below_drewN | apply below_drew1) | exact HB.out)) hb); clear HB; have HB := n0_; clear n0_; (try clear hb); (try clear hb2); (try clear hk); (try clear hi)))
  (try simp only [Act.put, List.setIfInBounds_toArray, List.set_cons_zero, List.set_cons_succ])
  go_cut [50] (fun v50 wc => ∃ (kq : Nat) (x50_5 : Bool), v50 = .bool x50_5 ∧ Aside0 (saucierlaw08_SumZeros.j0 kq a0 a1 (wrap64 (Int.tmod a2 1099511627777)) t139 x50_5 = some r) ∧ Aside0 (kq ≤ k) ∧ Aside0 (Below w.heap.size w wc))
  case first =>
    have H := HC6.out
    clear HC6
    replace H := Option.bind_eq_some_iff.mp H
    obtain ⟨t140, A80, H⟩ := H
    replace H : ((sum_Zeros.f a0 (wrap64 ((wrap64 (Int.tmod a2 1099511627777)) + (wrap64 (Int.tmod a3 1099511627777))))).bind fun t141 => (if t140 = t141 then ((sum_Zeros.f a0 1).bind fun t142 => ((sum_Add.f a0 0).bind fun t143 => (if t142 = t143 then ((sum_Zeros.f a0 0).bind fun t144 => (if t144 = a0 then ((sum_Zeros.f a0 (wrap64 ((-1) - (wrap64 (Int.tmod a2 1099511627777))))).bind fun t145 => (saucierlaw08_SumZeros.j0 k a0 a1 (wrap64 (Int.tmod a2 1099511627777)) t139 (t145 != a0))) else (saucierlaw08_SumZeros.j0 k a0 a1 (wrap64 (Int.tmod a2 1099511627777)) t139 true))) else (saucierlaw08_SumZeros.j0 k a0 a1 (wrap64 (Int.tmod a2 1099511627777)) t139 true)))) else (saucierlaw08_SumZeros.j0 k a0 a1 (wrap64 (Int.tmod a2 1099511627777)) t139 true))) = some r := H
    have A8 := Aside0.mk A80
    clear A80
    replace H := Option.bind_eq_some_iff.mp H
    obtain ⟨t141, A90, H⟩ := H
    replace H : (if t140 = t141 then ((sum_Zeros.f a0 1).bind fun t142 => ((sum_Add.f a0 0).bind fun t143 => (if t142 = t143 then ((sum_Zeros.f a0 0).bind fun t144 => (if t144 = a0 then ((sum_Zeros.f a0 (wrap64 ((-1) - (wrap64 (Int.tmod a2 1099511627777))))).bind fun t145 => (saucierlaw08_SumZeros.j0 k a0 a1 (wrap64 (Int.tmod a2 1099511627777)) t139 (t145 != a0))) else (saucierlaw08_SumZeros.j0 k a0 a1 (wrap64 (Int.tmod a2 1099511627777)) t139 true))) else (saucierlaw08_SumZeros.j0 k a0 a1 (wrap64 (Int.tmod a2 1099511627777)) t139 true)))) else (saucierlaw08_SumZeros.j0 k a0 a1 (wrap64 (Int.tmod a2 1099511627777)) t139 true)) = some r := H
    have A9 := Aside0.mk A90
    clear A90
    by_cases c10 : t140 = t141
    · rw [if_pos c10] at H
      have c10b0 : (t140 == t141) = true := beq_iff_eq.mpr c10
      have c10b1 : (t140 != t141) = false := bne_eq_false_iff_eq.mpr c10
      clear c10
      (first | rw [c10b0] | (simp only [i64_w, i32_w]; rw [c10b0]) | skip)
      replace H := Option.bind_eq_some_iff.mp H
      obtain ⟨t142, A110, H⟩ := H
      replace H : ((sum_Add.f a0 0).bind fun t143 => (if t142 = t143 then ((sum_Zeros.f a0 0).bind fun t144 => (if t144 = a0 then ((sum_Zeros.f a0 (wrap64 ((-1) - (wrap64 (Int.tmod a2 1099511627777))))).bind fun t145 => (saucierlaw08_SumZeros.j0 k a0 a1 (wrap64 (Int.tmod a2 1099511627777)) t139 (t145 != a0))) else (saucierlaw08_SumZeros.j0 k a0 a1 (wrap64 (Int.tmod a2 1099511627777)) t139 true))) else (saucierlaw08_SumZeros.j0 k a0 a1 (wrap64 (Int.tmod a2 1099511627777)) t139 true))) = some r := H
      have A11 := Aside0.mk A110
      clear A110
      replace H := Option.bind_eq_some_iff.mp H
      obtain ⟨t143, A120, H⟩ := H
      replace H : (if t142 = t143 then ((sum_Zeros.f a0 0).bind fun t144 => (if t144 = a0 then ((sum_Zeros.f a0 (wrap64 ((-1) - (wrap64 (Int.tmod a2 1099511627777))))).bind fun t145 => (saucierlaw08_SumZeros.j0 k a0 a1 (wrap64 (Int.tmod a2 1099511627777)) t139 (t145 != a0))) else (saucierlaw08_SumZeros.j0 k a0 a1 (wrap64 (Int.tmod a2 1099511627777)) t139 true))) else (saucierlaw08_SumZeros.j0 k a0 a1 (wrap64 (Int.tmod a2 1099511627777)) t139 true)) = some r := H
      have A12 := Aside0.mk A120
      clear A120
      by_cases c13 : t142 = t143
      · rw [if_pos c13] at H
        have c13b0 : (t142 == t143) = true := beq_iff_eq.mpr c13
        have c13b1 : (t142 != t143) = false := bne_eq_false_iff_eq.mpr c13
        clear c13
        replace H := Option.bind_eq_some_iff.mp H
        obtain ⟨t144, A140, H⟩ := H
        replace H : (if t144 = a0 then ((sum_Zeros.f a0 (wrap64 ((-1) - (wrap64 (Int.tmod a2 1099511627777))))).bind fun t145 => (saucierlaw08_SumZeros.j0 k a0 a1 (wrap64 (Int.tmod a2 1099511627777)) t139 (t145 != a0))) else (saucierlaw08_SumZeros.j0 k a0 a1 (wrap64 (Int.tmod a2 1099511627777)) t139 true)) = some r := H
        have A14 := Aside0.mk A140
        clear A140
        by_cases c15 : t144 = a0
        · rw [if_pos c15] at H
          have c15b0 : (t144 == a0) = true := beq_iff_eq.mpr c15
          have c15b1 : (t144 != a0) = false := bne_eq_false_iff_eq.mpr c15
          clear c15
          replace H := Option.bind_eq_some_iff.mp H
          obtain ⟨t145, A160, H⟩ := H
          replace H : (saucierlaw08_SumZeros.j0 k a0 a1 (wrap64 (Int.tmod a2 1099511627777)) t139 (t145 != a0)) = some r := H
          have A16 := Aside0.mk A160
          clear A160
          have H' := Aside0.mk H
          clear H
          go_wp2_with (first | ((with_reducible refine gate_callee (f := 19) rfl ?_); refine goesL_ (some 23) rfl rfl Try.func19 (by kernel_rfl) rfl #[.int .u32 t139, .int .i64 (wrap64 (Int.tmod a3 1099511627777))] rfl (by (try simp only [List.map_toArray, List.map_cons, List.map_nil]); first | done | rfl | (simp only [List.length_drop, List.length_take]; rfl)) ?_; (with_reducible refine (sum_Zeros.calls t139 (wrap64 (Int.tmod a3 1099511627777)) t140 _ A8.out).mono ?_); rintro e w17 ⟨rfl, hb⟩; refine ⟨_, rfl, ?_⟩; have n0_ := Aside0.mk (below_step (by repeat (first | (with_reducible first | exact HB.out | apply below_alloc | apply pw_below_drewN | apply below_drew1) | exact HB.out)) hb); clear HB; have HB := n0_; clear n0_; (try clear hb); (try clear hb2); (try clear hk); (try clear hi)) | ((with_reducible refine gate_callee (f := 19) rfl ?_); refine goesL_ (some 28) rfl rfl Try.func19 (by kernel_rfl) rfl #[.int .u32 a0, .int .i64 (wrap64 ((wrap64 (Int.tmod a2 1099511627777)) + (wrap64 (Int.tmod a3 1099511627777))))] rfl (by (try simp only [List.map_toArray, List.map_cons, List.map_nil]); first | done | rfl | (simp only [List.length_drop, List.length_take]; rfl)) ?_; (with_reducible refine (sum_Zeros.calls a0 (wrap64 ((wrap64 (Int.tmod a2 1099511627777)) + (wrap64 (Int.tmod a3 1099511627777)))) t141 _ A9.out).mono ?_); rintro e w18 ⟨rfl, hb⟩; refine ⟨_, rfl, ?_⟩; have n0_ := Aside0.mk (below_step (by repeat (first | (with_reducible first | exact HB.out | apply below_alloc | apply pw_below_drewN | apply below_drew1) | exact HB.out)) hb); clear HB; have HB := n0_; clear n0_; (try clear hb); (try clear hb2); (try clear hk); (try clear hi)) | (go_at_call 19; (with_reducible refine (sum_Zeros.calls a0 1 t142 _ A11.out).mono ?_); rintro e w19 ⟨rfl, hb⟩; have n0_ := Aside0.mk (below_step (by repeat (first | (with_reducible first | exact HB.out | apply below_alloc | apply pw_below_drewN | apply below_drew1) | exact HB.out)) hb); clear HB; have HB := n0_; clear n0_; (try clear hb); (try clear hb2); (try clear hk); (try clear hi)) | (go_at_call 14; (with_reducible refine (sum_Add.calls a0 0 t143 _ A12.out).mono ?_); rintro e w' ⟨rfl, ⟨nd, rfl⟩⟩) | (go_at_call 19; (with_reducible refine (sum_Zeros.calls a0 0 t144 _ A14.out).mono ?_); rintro e w20 ⟨rfl, hb⟩; have n0_ := Aside0.mk (below_step (by repeat (first | (with_reducible first | exact HB.out | apply below_alloc | apply pw_below_drewN | apply below_drew1) | exact HB.out)) hb); clear HB; have HB := n0_; clear n0_; (try clear hb); (try clear hb2); (try clear hk); (try clear hi)) | (go_at_call 19; (with_reducible refine (sum_Zeros.calls a0 (wrap64 ((-1) - (wrap64 (Int.tmod a2 1099511627777)))) t145 _ A16.out).mono ?_); rintro e w21 ⟨rfl, hb⟩; have n0_ := Aside0.mk (below_step (by repeat (first | (with_reducible first | exact HB.out | apply below_alloc | apply pw_below_drewN | apply below_drew1) | exact HB.out)) hb); clear HB; have HB := n0_; clear n0_; (try clear hb); (try clear hb2); (try clear hk); (try clear hi)))
          go_meet
          case rel => exact ⟨_, ((t145 != a0)), (by first | rfl | (simp; done) | (simp [*]; done)), H', ⟨by first | omega | exact Nat.le_refl _⟩, ⟨by repeat (first | (with_reducible first | exact HB.out | apply below_alloc | apply pw_below_drewN | apply below_drew1) | exact HB.out)⟩⟩
        · rw [if_neg c15] at H
          have c15b0 : (t144 == a0) = false := beq_eq_false_iff_ne.mpr c15
          have c15b1 : (t144 != a0) = true := bne_iff_ne.mpr c15
          have H' := Aside0.mk H
          clear H
          go_wp2_with (first | ((with_reducible refine gate_callee (f := 19) rfl ?_); refine goesL_ (some 23) rfl rfl Try.func19 (by kernel_rfl) rfl #[.int .u32 t139, .int .i64 (wrap64 (Int.tmod a3 1099511627777))] rfl (by (try simp only [List.map_toArray, List.map_cons, List.map_nil]); first | done | rfl | (simp only [List.length_drop, List.length_take]; rfl)) ?_; (with_reducible refine (sum_Zeros.calls t139 (wrap64 (Int.tmod a3 1099511627777)) t140 _ A8.out).mono ?_); rintro e w22 ⟨rfl, hb⟩; refine ⟨_, rfl, ?_⟩; have n0_ := Aside0.mk (below_step (by repeat (first | (with_reducible first | exact HB.out | apply below_alloc | apply pw_below_drewN | apply below_drew1) | exact HB.out)) hb); clear HB; have HB := n0_; clear n0_; (try clear hb); (try clear hb2); (try clear hk); (try clear hi)) | ((with_reducible refine gate_callee (f := 19) rfl ?_); refine goesL_ (some 28) rfl rfl Try.func19 (by kernel_rfl) rfl #[.int .u32 a0, .int .i64 (wrap64 ((wrap64 (Int.tmod a2 1099511627777)) + (wrap64 (Int.tmod a3 1099511627777))))] rfl (by (try simp only [List.map_toArray, List.map_cons, List.map_nil]); first | done | rfl | (simp only [List.length_drop, List.length_take]; rfl)) ?_; (with_reducible refine (sum_Zeros.calls a0 (wrap64 ((wrap64 (Int.tmod a2 1099511627777)) + (wrap64 (Int.tmod a3 1099511627777)))) t141 _ A9.out).mono ?_); rintro e w23 ⟨rfl, hb⟩; refine ⟨_, rfl, ?_⟩; have n0_ := Aside0.mk (below_step (by repeat (first | (with_reducible first | exact HB.out | apply below_alloc | apply pw_below_drewN | apply below_drew1) | exact HB.out)) hb); clear HB; have HB := n0_; clear n0_; (try clear hb); (try clear hb2); (try clear hk); (try clear hi)) | (go_at_call 19; (with_reducible refine (sum_Zeros.calls a0 1 t142 _ A11.out).mono ?_); rintro e w24 ⟨rfl, hb⟩; have n0_ := Aside0.mk (below_step (by repeat (first | (with_reducible first | exact HB.out | apply below_alloc | apply pw_below_drewN | apply below_drew1) | exact HB.out)) hb); clear HB; have HB := n0_; clear n0_; (try clear hb); (try clear hb2); (try clear hk); (try clear hi)) | (go_at_call 14; (with_reducible refine (sum_Add.calls a0 0 t143 _ A12.out).mono ?_); rintro e w' ⟨rfl, ⟨nd, rfl⟩⟩) | (go_at_call 19; (with_reducible refine (sum_Zeros.calls a0 0 t144 _ A14.out).mono ?_); rintro e w25 ⟨rfl, hb⟩; have n0_ := Aside0.mk (below_step (by repeat (first | (with_reducible first | exact HB.out | apply below_alloc | apply pw_below_drewN | apply below_drew1) | exact HB.out)) hb); clear HB; have HB := n0_; clear n0_; (try clear hb); (try clear hb2); (try clear hk); (try clear hi)))
          go_meet
          case rel => exact ⟨_, (true), (by first | rfl | (simp; done) | (simp [*]; done)), H', ⟨by first | omega | exact Nat.le_refl _⟩, ⟨by repeat (first | (with_reducible first | exact HB.out | apply below_alloc | apply pw_below_drewN | apply below_drew1) | exact HB.out)⟩⟩
      · rw [if_neg c13] at H
        have c13b0 : (t142 == t143) = false := beq_eq_false_iff_ne.mpr c13
        have c13b1 : (t142 != t143) = true := bne_iff_ne.mpr c13
        have H' := Aside0.mk H
        clear H
        go_wp2_with (first | ((with_reducible refine gate_callee (f := 19) rfl ?_); refine goesL_ (some 23) rfl rfl Try.func19 (by kernel_rfl) rfl #[.int .u32 t139, .int .i64 (wrap64 (Int.tmod a3 1099511627777))] rfl (by (try simp only [List.map_toArray, List.map_cons, List.map_nil]); first | done | rfl | (simp only [List.length_drop, List.length_take]; rfl)) ?_; (with_reducible refine (sum_Zeros.calls t139 (wrap64 (Int.tmod a3 1099511627777)) t140 _ A8.out).mono ?_); rintro e w26 ⟨rfl, hb⟩; refine ⟨_, rfl, ?_⟩; have n0_ := Aside0.mk (below_step (by repeat (first | (with_reducible first | exact HB.out | apply below_alloc | apply pw_below_drewN | apply below_drew1) | exact HB.out)) hb); clear HB; have HB := n0_; clear n0_; (try clear hb); (try clear hb2); (try clear hk); (try clear hi)) | ((with_reducible refine gate_callee (f := 19) rfl ?_); refine goesL_ (some 28) rfl rfl Try.func19 (by kernel_rfl) rfl #[.int .u32 a0, .int .i64 (wrap64 ((wrap64 (Int.tmod a2 1099511627777)) + (wrap64 (Int.tmod a3 1099511627777))))] rfl (by (try simp only [List.map_toArray, List.map_cons, List.map_nil]); first | done | rfl | (simp only [List.length_drop, List.length_take]; rfl)) ?_; (with_reducible refine (sum_Zeros.calls a0 (wrap64 ((wrap64 (Int.tmod a2 1099511627777)) + (wrap64 (Int.tmod a3 1099511627777)))) t141 _ A9.out).mono ?_); rintro e w27 ⟨rfl, hb⟩; refine ⟨_, rfl, ?_⟩; have n0_ := Aside0.mk (below_step (by repeat (first | (with_reducible first | exact HB.out | apply below_alloc | apply pw_below_drewN | apply below_drew1) | exact HB.out)) hb); clear HB; have HB := n0_; clear n0_; (try clear hb); (try clear hb2); (try clear hk); (try clear hi)) | (go_at_call 19; (with_reducible refine (sum_Zeros.calls a0 1 t142 _ A11.out).mono ?_); rintro e w28 ⟨rfl, hb⟩; have n0_ := Aside0.mk (below_step (by repeat (first | (with_reducible first | exact HB.out | apply below_alloc | apply pw_below_drewN | apply below_drew1) | exact HB.out)) hb); clear HB; have HB := n0_; clear n0_; (try clear hb); (try clear hb2); (try clear hk); (try clear hi)) | (go_at_call 14; (with_reducible refine (sum_Add.calls a0 0 t143 _ A12.out).mono ?_); rintro e w' ⟨rfl, ⟨nd, rfl⟩⟩))
        go_meet
        case rel => exact ⟨_, (true), (by first | rfl | (simp; done) | (simp [*]; done)), H', ⟨by first | omega | exact Nat.le_refl _⟩, ⟨by repeat (first | (with_reducible first | exact HB.out | apply below_alloc | apply pw_below_drewN | apply below_drew1) | exact HB.out)⟩⟩
    · rw [if_neg c10] at H
      have c10b0 : (t140 == t141) = false := beq_eq_false_iff_ne.mpr c10
      have c10b1 : (t140 != t141) = true := bne_iff_ne.mpr c10
      (first | rw [c10b0] | (simp only [i64_w, i32_w]; rw [c10b0]) | skip)
      have H' := Aside0.mk H
      clear H
      go_wp2_with (first | ((with_reducible refine gate_callee (f := 19) rfl ?_); refine goesL_ (some 23) rfl rfl Try.func19 (by kernel_rfl) rfl #[.int .u32 t139, .int .i64 (wrap64 (Int.tmod a3 1099511627777))] rfl (by (try simp only [List.map_toArray, List.map_cons, List.map_nil]); first | done | rfl | (simp only [List.length_drop, List.length_take]; rfl)) ?_; (with_reducible refine (sum_Zeros.calls t139 (wrap64 (Int.tmod a3 1099511627777)) t140 _ A8.out).mono ?_); rintro e w29 ⟨rfl, hb⟩; refine ⟨_, rfl, ?_⟩; have n0_ := Aside0.mk (below_step (by repeat (first | (with_reducible first | exact HB.out | apply below_alloc | apply pw_below_drewN | apply below_drew1) | exact HB.out)) hb); clear HB; have HB := n0_; clear n0_; (try clear hb); (try clear hb2); (try clear hk); (try clear hi)) | ((with_reducible refine gate_callee (f := 19) rfl ?_); refine goesL_ (some 28) rfl rfl Try.func19 (by kernel_rfl) rfl #[.int .u32 a0, .int .i64 (wrap64 ((wrap64 (Int.tmod a2 1099511627777)) + (wrap64 (Int.tmod a3 1099511627777))))] rfl (by (try simp only [List.map_toArray, List.map_cons, List.map_nil]); first | done | rfl | (simp only [List.length_drop, List.length_take]; rfl)) ?_; (with_reducible refine (sum_Zeros.calls a0 (wrap64 ((wrap64 (Int.tmod a2 1099511627777)) + (wrap64 (Int.tmod a3 1099511627777)))) t141 _ A9.out).mono ?_); rintro e w30 ⟨rfl, hb⟩; refine ⟨_, rfl, ?_⟩; have n0_ := Aside0.mk (below_step (by repeat (first | (with_reducible first | exact HB.out | apply below_alloc | apply pw_below_drewN | apply below_drew1) | exact HB.out)) hb); clear HB; have HB := n0_; clear n0_; (try clear hb); (try clear hb2); (try clear hk); (try clear hi)))
      go_meet
      case rel => exact ⟨_, (true), (by first | rfl | (simp; done) | (simp [*]; done)), H', ⟨by first | omega | exact Nat.le_refl _⟩, ⟨by repeat (first | (with_reducible first | exact HB.out | apply below_alloc | apply pw_below_drewN | apply below_drew1) | exact HB.out)⟩⟩
  case rest =>
    clear HC6
    try clear c1
    try clear p2
    try clear c6
    try clear p6
    try clear c10
    try clear c10b0
    try clear c10b1
    try clear c13
    try clear c13b0
    try clear c13b1
    try clear c15
    try clear c15b0
    try clear c15b1
    try clear c19
    obtain ⟨kq, x50_5, rfl, HA, HJ5, HB⟩ := hcut
    cases kq with
    | zero => exact absurd HA.out (by simp [saucierlaw08_SumZeros.j0])
    | succ kj5 =>
      have H := HA.out
      clear HA
      simp only [saucierlaw08_SumZeros.j0] at H
      by_cases c31 : x50_5 = true
      · subst c31
        have H1 : (some false) = some r := by rw [if_pos rfl] at H; exact H
        clear H
        have H := H1
        clear H1
        obtain rfl := Option.some.inj H
        go_wp2
        go_ret
        exact ⟨by first | rfl | (simp [errW_none, errW_some] <;> rfl) | (simp [*, errW_none, errW_some] <;> rfl), by repeat (first | (with_reducible first | exact HB.out | apply below_alloc | apply pw_below_drewN | apply below_drew1) | exact HB.out)⟩
      · replace c31 := Bool.eq_false_iff.mpr c31
        subst c31
        have H1 : (if ((t139 == 0) == (a0 == 0)) = true then ((sum_Zeros.f a1 (wrap64 (Int.tmod a2 1099511627777))).bind fun t146 => (if ((t139 == t146) == (a0 == a1)) = true then ((sum_Zeros.f a0 (wrap64 (Int.tmod a2 1099511627777))).bind fun t147 => ((sum_Zeros.f a1 (wrap64 (Int.tmod a2 1099511627777))).bind fun t148 => ((sum_Zeros.f (Go.bits .xor .u32 a0 a1) (wrap64 (Int.tmod a2 1099511627777))).bind fun t149 => (if (Go.bits .xor .u32 t147 t148) = t149 then ((saucierlaw08_awake.f).bind fun t150 => (some t150)) else (some false))))) else (some false))) else (some false)) = some r := by rw [if_neg (show ¬ (false = true) by decide)] at H; exact H
        clear H
        have H := H1
        clear H1
        by_cases c32 : ((t139 == 0) == (a0 == 0)) = true
        · rw [if_pos c32] at H
          have c32b0 : ((t139 == 0) == (a0 == 0)) = true := c32
          (try (have c32b1 : decide ((t139 == 0) = (a0 == 0)) = true := by simpa using c32))
          (try (have c32b2 : ((t139 == 0) == (a0 == 0)) = true := by simpa using c32))
          clear c32
          replace H := Option.bind_eq_some_iff.mp H
          obtain ⟨t146, A330, H⟩ := H
          replace H : (if ((t139 == t146) == (a0 == a1)) = true then ((sum_Zeros.f a0 (wrap64 (Int.tmod a2 1099511627777))).bind fun t147 => ((sum_Zeros.f a1 (wrap64 (Int.tmod a2 1099511627777))).bind fun t148 => ((sum_Zeros.f (Go.bits .xor .u32 a0 a1) (wrap64 (Int.tmod a2 1099511627777))).bind fun t149 => (if (Go.bits .xor .u32 t147 t148) = t149 then ((saucierlaw08_awake.f).bind fun t150 => (some t150)) else (some false))))) else (some false)) = some r := H
          have A33 := Aside0.mk A330
          clear A330
          by_cases c34 : ((t139 == t146) == (a0 == a1)) = true
          · rw [if_pos c34] at H
            have c34b0 : ((t139 == t146) == (a0 == a1)) = true := c34
            (try (have c34b1 : decide ((t139 == t146) = (a0 == a1)) = true := by simpa using c34))
            (try (have c34b2 : ((t139 == t146) == (a0 == a1)) = true := by simpa using c34))
            clear c34
            replace H := Option.bind_eq_some_iff.mp H
            obtain ⟨t147, A350, H⟩ := H
            replace H : ((sum_Zeros.f a1 (wrap64 (Int.tmod a2 1099511627777))).bind fun t148 => ((sum_Zeros.f (Go.bits .xor .u32 a0 a1) (wrap64 (Int.tmod a2 1099511627777))).bind fun t149 => (if (Go.bits .xor .u32 t147 t148) = t149 then ((saucierlaw08_awake.f).bind fun t150 => (some t150)) else (some false)))) = some r := H
            have A35 := Aside0.mk A350
            clear A350
            replace H := Option.bind_eq_some_iff.mp H
            obtain ⟨t148, A360, H⟩ := H
            replace H : ((sum_Zeros.f (Go.bits .xor .u32 a0 a1) (wrap64 (Int.tmod a2 1099511627777))).bind fun t149 => (if (Go.bits .xor .u32 t147 t148) = t149 then ((saucierlaw08_awake.f).bind fun t150 => (some t150)) else (some false))) = some r := H
            have A36 := Aside0.mk A360
            have e_ : t146 = t148 := Option.some.inj (A33.out.symm.trans A36.out)
            clear A360
            replace H := Option.bind_eq_some_iff.mp H
            obtain ⟨t149, A370, H⟩ := H
            replace H : (if (Go.bits .xor .u32 t147 t148) = t149 then ((saucierlaw08_awake.f).bind fun t150 => (some t150)) else (some false)) = some r := H
            have A37 := Aside0.mk A370
            clear A370
            by_cases c38 : (Go.bits .xor .u32 t147 t148) = t149
            · rw [if_pos c38] at H
              have c38b0 : ((Go.bits .xor .u32 t147 t148) == t149) = true := beq_iff_eq.mpr c38
              have c38b1 : ((Go.bits .xor .u32 t147 t148) != t149) = false := bne_eq_false_iff_eq.mpr c38
              rw [← e_] at c38b0 c38b1; clear e_
              clear c38
              replace H := Option.bind_eq_some_iff.mp H
              obtain ⟨t150, A390, H⟩ := H
              replace H : (some t150) = some r := H
              have A39 := Aside0.mk A390
              clear A390
              obtain rfl := Option.some.inj H
              go_wp2_with (first | (go_at_call 19; (with_reducible refine (sum_Zeros.calls a1 (wrap64 (Int.tmod a2 1099511627777)) t146 _ A33.out).mono ?_); rintro e w40 ⟨rfl, hb⟩; have n0_ := Aside0.mk (below_step (by repeat (first | (with_reducible first | exact HB.out | apply below_alloc | apply pw_below_drewN | apply below_drew1) | exact HB.out)) hb); clear HB; have HB := n0_; clear n0_; (try clear hb); (try clear hb2); (try clear hk); (try clear hi)) | (go_at_call 19; (with_reducible refine (sum_Zeros.calls a0 (wrap64 (Int.tmod a2 1099511627777)) t147 _ A35.out).mono ?_); rintro e w41 ⟨rfl, hb⟩; have n0_ := Aside0.mk (below_step (by repeat (first | (with_reducible first | exact HB.out | apply below_alloc | apply pw_below_drewN | apply below_drew1) | exact HB.out)) hb); clear HB; have HB := n0_; clear n0_; (try clear hb); (try clear hb2); (try clear hk); (try clear hi)) | (go_at_call 19; (with_reducible refine (sum_Zeros.calls a1 (wrap64 (Int.tmod a2 1099511627777)) t148 _ A36.out).mono ?_); rintro e w42 ⟨rfl, hb⟩; have n0_ := Aside0.mk (below_step (by repeat (first | (with_reducible first | exact HB.out | apply below_alloc | apply pw_below_drewN | apply below_drew1) | exact HB.out)) hb); clear HB; have HB := n0_; clear n0_; (try clear hb); (try clear hb2); (try clear hk); (try clear hi)) | (go_at_call 19; (with_reducible refine (sum_Zeros.calls (Go.bits .xor .u32 a0 a1) (wrap64 (Int.tmod a2 1099511627777)) t149 _ A37.out).mono ?_); rintro e w43 ⟨rfl, hb⟩; have n0_ := Aside0.mk (below_step (by repeat (first | (with_reducible first | exact HB.out | apply below_alloc | apply pw_below_drewN | apply below_drew1) | exact HB.out)) hb); clear HB; have HB := n0_; clear n0_; (try clear hb); (try clear hb2); (try clear hk); (try clear hi)) | (go_at_call 12; (with_reducible refine (saucierlaw08_awake.calls  t150 _ A39.out).mono ?_); rintro e w44 ⟨rfl, hb⟩; have n0_ := Aside0.mk (below_step (by repeat (first | (with_reducible first | exact HB.out | apply below_alloc | apply pw_below_drewN | apply below_drew1) | exact HB.out)) hb); clear HB; have HB := n0_; clear n0_; (try clear hb); (try clear hb2); (try clear hk); (try clear hi)))
              go_ret
              exact ⟨by first | rfl | (simp [errW_none, errW_some] <;> rfl) | (simp [*, errW_none, errW_some] <;> rfl), by repeat (first | (with_reducible first | exact HB.out | apply below_alloc | apply pw_below_drewN | apply below_drew1) | exact HB.out)⟩
            · rw [if_neg c38] at H
              have c38b0 : ((Go.bits .xor .u32 t147 t148) == t149) = false := beq_eq_false_iff_ne.mpr c38
              have c38b1 : ((Go.bits .xor .u32 t147 t148) != t149) = true := bne_iff_ne.mpr c38
              rw [← e_] at c38b0 c38b1; clear e_
              obtain rfl := Option.some.inj H
              go_wp2_with (first | (go_at_call 19; (with_reducible refine (sum_Zeros.calls a1 (wrap64 (Int.tmod a2 1099511627777)) t146 _ A33.out).mono ?_); rintro e w45 ⟨rfl, hb⟩; have n0_ := Aside0.mk (below_step (by repeat (first | (with_reducible first | exact HB.out | apply below_alloc | apply pw_below_drewN | apply below_drew1) | exact HB.out)) hb); clear HB; have HB := n0_; clear n0_; (try clear hb); (try clear hb2); (try clear hk); (try clear hi)) | (go_at_call 19; (with_reducible refine (sum_Zeros.calls a0 (wrap64 (Int.tmod a2 1099511627777)) t147 _ A35.out).mono ?_); rintro e w46 ⟨rfl, hb⟩; have n0_ := Aside0.mk (below_step (by repeat (first | (with_reducible first | exact HB.out | apply below_alloc | apply pw_below_drewN | apply below_drew1) | exact HB.out)) hb); clear HB; have HB := n0_; clear n0_; (try clear hb); (try clear hb2); (try clear hk); (try clear hi)) | (go_at_call 19; (with_reducible refine (sum_Zeros.calls a1 (wrap64 (Int.tmod a2 1099511627777)) t148 _ A36.out).mono ?_); rintro e w47 ⟨rfl, hb⟩; have n0_ := Aside0.mk (below_step (by repeat (first | (with_reducible first | exact HB.out | apply below_alloc | apply pw_below_drewN | apply below_drew1) | exact HB.out)) hb); clear HB; have HB := n0_; clear n0_; (try clear hb); (try clear hb2); (try clear hk); (try clear hi)) | (go_at_call 19; (with_reducible refine (sum_Zeros.calls (Go.bits .xor .u32 a0 a1) (wrap64 (Int.tmod a2 1099511627777)) t149 _ A37.out).mono ?_); rintro e w48 ⟨rfl, hb⟩; have n0_ := Aside0.mk (below_step (by repeat (first | (with_reducible first | exact HB.out | apply below_alloc | apply pw_below_drewN | apply below_drew1) | exact HB.out)) hb); clear HB; have HB := n0_; clear n0_; (try clear hb); (try clear hb2); (try clear hk); (try clear hi)))
              go_ret
              exact ⟨by first | rfl | (simp [errW_none, errW_some] <;> rfl) | (simp [*, errW_none, errW_some] <;> rfl), by repeat (first | (with_reducible first | exact HB.out | apply below_alloc | apply pw_below_drewN | apply below_drew1) | exact HB.out)⟩
          · rw [if_neg c34] at H
            have c34b0 : ((t139 == t146) == (a0 == a1)) = false := by simpa using c34
            (try (have c34b1 : decide ((t139 == t146) = (a0 == a1)) = false := by simpa using c34))
            (try (have c34b2 : ((t139 == t146) == (a0 == a1)) = false := by simpa using c34))
            (try (have c34b3 : ¬ ((t139 == t146) = (a0 == a1)) := by simpa using c34))
            clear c34
            obtain rfl := Option.some.inj H
            go_wp2_with (first | (go_at_call 19; (with_reducible refine (sum_Zeros.calls a1 (wrap64 (Int.tmod a2 1099511627777)) t146 _ A33.out).mono ?_); rintro e w49 ⟨rfl, hb⟩; have n0_ := Aside0.mk (below_step (by repeat (first | (with_reducible first | exact HB.out | apply below_alloc | apply pw_below_drewN | apply below_drew1) | exact HB.out)) hb); clear HB; have HB := n0_; clear n0_; (try clear hb); (try clear hb2); (try clear hk); (try clear hi)))
            go_ret
            exact ⟨by first | rfl | (simp [errW_none, errW_some] <;> rfl) | (simp [*, errW_none, errW_some] <;> rfl), by repeat (first | (with_reducible first | exact HB.out | apply below_alloc | apply pw_below_drewN | apply below_drew1) | exact HB.out)⟩
        · rw [if_neg c32] at H
          have c32b0 : ((t139 == 0) == (a0 == 0)) = false := by simpa using c32
          (try (have c32b1 : decide ((t139 == 0) = (a0 == 0)) = false := by simpa using c32))
          (try (have c32b2 : ((t139 == 0) == (a0 == 0)) = false := by simpa using c32))
          (try (have c32b3 : ¬ ((t139 == 0) = (a0 == 0)) := by simpa using c32))
          clear c32
          obtain rfl := Option.some.inj H
          go_wp2
          go_ret
          exact ⟨by first | rfl | (simp [errW_none, errW_some] <;> rfl) | (simp [*, errW_none, errW_some] <;> rfl), by repeat (first | (with_reducible first | exact HB.out | apply below_alloc | apply pw_below_drewN | apply below_drew1) | exact HB.out)⟩

/-- THE ONE PURE STATEMENT of saucierlaw08_SumZeros: yours. -/
def saucierlaw08_SumZeros.Pure : Prop := ∀ (a0 : Int) (a1 : Int) (a2 : Int) (a3 : Int), (Lit.int .u32 a0).wf = true → (Lit.int .u32 a1).wf = true → (Lit.int .u64 a2).wf = true → (Lit.int .u64 a3).wf = true → ∃ k, saucierlaw08_SumZeros.f k a0 a1 a2 a3 = some true
theorem saucierlaw08_SumZeros.walk (P : saucierlaw08_SumZeros.Pure) (a0 : Int) (a1 : Int) (a2 : Int) (a3 : Int) (w : World) (w0 : (Lit.int .u32 a0).wf = true) (w1 : (Lit.int .u32 a1).wf = true) (w2 : (Lit.int .u64 a2).wf = true) (w3 : (Lit.int .u64 a3).wf = true) :
    Calls Try.prog 6 #[.int .u32 a0, .int .u32 a1, .int .u64 a2, .int .u64 a3] w fun e w' => e = .returned (.bool true) ∧ Below w.heap.size w w' := by
  obtain ⟨k, h⟩ := P a0 a1 a2 a3 w0 w1 w2 w3
  refine (saucierlaw08_SumZeros.calls k a0 a1 a2 a3 true w h).mono ?_
  rintro e w' ⟨rfl, hd⟩
  exact ⟨rfl, hd⟩

end Go.Proofs.Ytjlckmekajlbmaa.Q
