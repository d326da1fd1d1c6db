/- A law of package words as a plain Lean function, and that its call returns true where that one does, under the premises that stand in each theorem. Written by a program of this session: a changed copy of the kit's print. -/
import Derived.Test.YtjlckmekajlbmaaR0
import Derived.Test.YtjlckmekajlbmaaVh
namespace Go.Proofs.Ytjlckmekajlbmaa.R
open Go.RowKit Go.Proofs.YtjlckmekajlbmaaW.PrintWords Go.Proofs.YtjlckmekajlbmaaW.PrintLast Go.Proofs.YtjlckmekajlbmaaW.PrintMore Go.Proofs.Ytjlckmekajlbmaa.H
attribute [local go_sem] max2_int min2_int max_two min_two max_three min_three max_four min_four   -- for this text's walks alone
set_option linter.unusedVariables false
set_option linter.unusedSimpArgs false

/-! ### saucierlaw06_WordsBits: function 10 -/
mutual
def saucierlaw06_WordsBits.l0 : Nat → Int → Int → Int → List Int → List Int → Int → Int → Option (Bool)
  | 0, _, _, _, _, _, _, _ => none
  | k + 1, x2, x7, x8, x10, x38, x39, x40 => if x40 < x39 then (if 0 ≤ x40 then (if x40 < (x38.length : Int) then (if x40 = (wrap64 (Int.tdiv x8 8)) then (if 0 ≤ (Int.tmod x8 8) then (saucierlaw06_WordsBits.j1 k x2 x7 x8 x10 (rd x38 x40) (shl .u8 1 (Int.tmod x8 8)) x38 x39 x40) else (none)) else (saucierlaw06_WordsBits.j1 k x2 x7 x8 x10 (rd x38 x40) 0 x38 x39 x40)) else (none)) else (none)) else (if (wrap64 ((wrap64 (8 * (x10.length : Int))) - x7)) > 0 then ((some (([] : List Int) : List Int)).bind fun y201 => (if y201.length + x10.length < 140737488355328 then ((some (y201 ++ x10 : List Int)).bind fun y204 => (if (wrap64 ((wrap64 (8 * (x10.length : Int))) - x7)) = 0 then (none) else (if 0 ≤ (wrap64 (Int.tdiv (wrap64 (x7 + (Int.tmod (wrap64 (x2)) (wrap64 ((wrap64 (8 * (x10.length : Int))) - x7))))) 8)) then (if (wrap64 (Int.tdiv (wrap64 (x7 + (Int.tmod (wrap64 (x2)) (wrap64 ((wrap64 (8 * (x10.length : Int))) - x7))))) 8)) < (y204.length : Int) then (if 0 ≤ (Int.tmod (wrap64 (x7 + (Int.tmod (wrap64 (x2)) (wrap64 ((wrap64 (8 * (x10.length : Int))) - x7))))) 8) then ((some (y204.set ((wrap64 (Int.tdiv (wrap64 (x7 + (Int.tmod (wrap64 (x2)) (wrap64 ((wrap64 (8 * (x10.length : Int))) - x7))))) 8)) : Int).toNat (Go.bits .or .u8 (rd y204 (wrap64 (Int.tdiv (wrap64 (x7 + (Int.tmod (wrap64 (x2)) (wrap64 ((wrap64 (8 * (x10.length : Int))) - x7))))) 8))) (shl .u8 1 (Int.tmod (wrap64 (x7 + (Int.tmod (wrap64 (x2)) (wrap64 ((wrap64 (8 * (x10.length : Int))) - x7))))) 8))) : List Int)).bind fun y208 => ((words_Bits.f y208 x7).bind fun t209 => (if (t209.length : Int) = 0 then ((words_Bits.f y208 (wrap64 ((wrap64 (x7 + (Int.tmod (wrap64 (x2)) (wrap64 ((wrap64 (8 * (x10.length : Int))) - x7))))) + 1))).bind fun t212 => (if (t212.length : Int) = (wrap64 ((wrap64 (x7 + (Int.tmod (wrap64 (x2)) (wrap64 ((wrap64 (8 * (x10.length : Int))) - x7))))) + 1)) then (saucierlaw06_WordsBits.j2 k x7 x10) else (some false))) else (some false)))) else (none)) else (none)) else (none)))) else (none))) else (saucierlaw06_WordsBits.j2 k x7 x10))
def saucierlaw06_WordsBits.j1 : Nat → Int → Int → Int → List Int → Int → Int → List Int → Int → Int → Option (Bool)
  | 0, _, _, _, _, _, _, _, _, _ => none
  | k + 1, x2, x7, x8, x10, x12, x13, x38, x39, x40 => if x12 = x13 then (saucierlaw06_WordsBits.l0 k x2 x7 x8 x10 x38 x39 (wrap64 (x40 + 1))) else (some false)
def saucierlaw06_WordsBits.j2 : Nat → Int → List Int → Option (Bool)
  | 0, _, _ => none
  | k + 1, x7, x10 => if x10.length < 140737488355328 then ((words_Bits.f (x10 ++ [0]) x7).bind fun t218 => (if (t218.length : Int) = 0 then ((words_Bits.f x10 (-1)).bind fun t221 => (if (t221.length : Int) = 0 then ((saucierlaw06_awake.f).bind fun t224 => (some t224)) else (some false))) else (some false))) else (none)
end
def saucierlaw06_WordsBits.f (k : Nat) (a0 : Int) (a1 : Int) (a2 : Int) : Option (Bool) := if (wrap64 (1 + (wrap64 (Int.tmod a0 200)))) = 0 then (none) else (if 0 ≤ (wrap64 (1 + (wrap64 (Int.tmod a0 200)))) then (if (wrap64 (1 + (wrap64 (Int.tmod a0 200))) : Int).toNat ≤ 281474976710656 then ((some (List.replicate (wrap64 (1 + (wrap64 (Int.tmod a0 200))) : Int).toNat false : List Bool)).bind fun y193 => (if 0 ≤ (Int.tmod (wrap64 (a1)) (wrap64 (1 + (wrap64 (Int.tmod a0 200))))) then (if (Int.tmod (wrap64 (a1)) (wrap64 (1 + (wrap64 (Int.tmod a0 200))))) < (y193.length : Int) then ((words_PackBits.f (y193.set ((Int.tmod (wrap64 (a1)) (wrap64 (1 + (wrap64 (Int.tmod a0 200))))) : Int).toNat true)).bind fun t197 => (if (t197.length : Int) = (wrap64 (Int.tdiv (wrap64 ((wrap64 (1 + (wrap64 (Int.tmod a0 200)))) + 7)) 8)) then (saucierlaw06_WordsBits.l0 k a2 (wrap64 (1 + (wrap64 (Int.tmod a0 200)))) (Int.tmod (wrap64 (a1)) (wrap64 (1 + (wrap64 (Int.tmod a0 200))))) t197 t197 (t197.length : Int) 0) else (some false))) else (none)) else (none))) else (none)) else (none))
theorem saucierlaw06_WordsBits.mono_l : ∀ k, (∀ y0 y1 y2 y3 y4 y5 y6, LeO (saucierlaw06_WordsBits.l0 k y0 y1 y2 y3 y4 y5 y6) (saucierlaw06_WordsBits.l0 (k + 1) y0 y1 y2 y3 y4 y5 y6)) ∧ (∀ y0 y1 y2 y3 y4 y5 y6 y7 y8, LeO (saucierlaw06_WordsBits.j1 k y0 y1 y2 y3 y4 y5 y6 y7 y8) (saucierlaw06_WordsBits.j1 (k + 1) y0 y1 y2 y3 y4 y5 y6 y7 y8)) ∧ (∀ y0 y1, LeO (saucierlaw06_WordsBits.j2 k y0 y1) (saucierlaw06_WordsBits.j2 (k + 1) y0 y1))
  | 0 => ⟨fun _ _ _ _ _ _ _ r h => by simp [saucierlaw06_WordsBits.l0] at h, fun _ _ _ _ _ _ _ _ _ r h => by simp [saucierlaw06_WordsBits.j1] at h, fun _ _ r h => by simp [saucierlaw06_WordsBits.j2] at h⟩
  | k + 1 => by
    obtain ⟨ih0, ih1, ih2⟩ := saucierlaw06_WordsBits.mono_l k
    refine ⟨?_, ?_, ?_⟩
    · intro y0 y1 y2 y3 y4 y5 y6
      unfold saucierlaw06_WordsBits.l0
      repeat' first
      | (with_reducible exact ih0 _ _ _ _ _ _ _)
      | (with_reducible exact ih1 _ _ _ _ _ _ _ _ _)
      | (with_reducible exact ih2 _ _)
      | (with_reducible exact LeO.refl _)
      | (with_reducible exact LeO.none _)
      | (with_reducible refine LeO.ite ?_ ?_)
      | (with_reducible refine LeO.bind ?_ (fun _ => ?_))
      | exact ih0 _ _ _ _ _ _ _
      | exact ih1 _ _ _ _ _ _ _ _ _
      | exact ih2 _ _
      | exact LeO.none _
      | refine LeO.ite ?_ ?_
      | refine LeO.bind ?_ (fun _ => ?_)
    · intro y0 y1 y2 y3 y4 y5 y6 y7 y8
      unfold saucierlaw06_WordsBits.j1
      repeat' first
      | (with_reducible exact ih0 _ _ _ _ _ _ _)
      | (with_reducible exact ih1 _ _ _ _ _ _ _ _ _)
      | (with_reducible exact ih2 _ _)
      | (with_reducible exact LeO.refl _)
      | (with_reducible exact LeO.none _)
      | (with_reducible refine LeO.ite ?_ ?_)
      | (with_reducible refine LeO.bind ?_ (fun _ => ?_))
      | exact ih0 _ _ _ _ _ _ _
      | exact ih1 _ _ _ _ _ _ _ _ _
      | exact ih2 _ _
      | exact LeO.none _
      | refine LeO.ite ?_ ?_
      | refine LeO.bind ?_ (fun _ => ?_)
    · intro y0 y1
      unfold saucierlaw06_WordsBits.j2
      repeat' first
      | (with_reducible exact ih0 _ _ _ _ _ _ _)
      | (with_reducible exact ih1 _ _ _ _ _ _ _ _ _)
      | (with_reducible exact ih2 _ _)
      | (with_reducible exact LeO.refl _)
      | (with_reducible exact LeO.none _)
      | (with_reducible refine LeO.ite ?_ ?_)
      | (with_reducible refine LeO.bind ?_ (fun _ => ?_))
      | exact ih0 _ _ _ _ _ _ _
      | exact ih1 _ _ _ _ _ _ _ _ _
      | exact ih2 _ _
      | exact LeO.none _
      | refine LeO.ite ?_ ?_
      | refine LeO.bind ?_ (fun _ => ?_)
theorem saucierlaw06_WordsBits.mono : ∀ a0 a1 a2 k, LeO (saucierlaw06_WordsBits.f k a0 a1 a2) (saucierlaw06_WordsBits.f (k + 1) a0 a1 a2) := by
  intro a0 a1 a2 k
  obtain ⟨ih0, ih1, ih2⟩ := saucierlaw06_WordsBits.mono_l k
  unfold saucierlaw06_WordsBits.f
  repeat' first
      | (with_reducible exact ih0 _ _ _ _ _ _ _)
      | (with_reducible exact ih1 _ _ _ _ _ _ _ _ _)
      | (with_reducible exact ih2 _ _)
      | (with_reducible exact LeO.refl _)
      | (with_reducible exact LeO.none _)
      | (with_reducible refine LeO.ite ?_ ?_)
      | (with_reducible refine LeO.bind ?_ (fun _ => ?_))
      | exact ih0 _ _ _ _ _ _ _
      | exact ih1 _ _ _ _ _ _ _ _ _
      | exact ih2 _ _
      | exact LeO.none _
      | refine LeO.ite ?_ ?_
      | refine LeO.bind ?_ (fun _ => ?_)
def saucierlaw06_WordsBits.T21 : Bool × List (List Nat × List Nat) := (true, [([], []), ([], []), ([1], [1]), ([0, 2], [0, 2]), ([3], [3]), ([], []), ([5], [5]), ([6], [6]), ([4, 7], [4, 7]), ([0, 2, 0, 1, 2, 3, 4, 5, 6, 7, 8], [0, 2]), ([9, 8, 0, 1, 2, 3, 4, 5, 6, 7, 8], [8, 9])])
def saucierlaw06_WordsBits.B21 : List Nat := [0, 0, 2, 7, 15, 0, 32, 96, 255, 511, 1023]
theorem saucierlaw06_WordsBits.tab21 : rtab .any (opsOf Try.f10 21) = saucierlaw06_WordsBits.T21 := by kernel_rfl
theorem saucierlaw06_WordsBits.bits21 : waitsOk saucierlaw06_WordsBits.T21.2 saucierlaw06_WordsBits.B21 = true := by kernel_rfl
set_option maxHeartbeats 8000000 in
set_option maxRecDepth 100000 in
theorem saucierlaw06_WordsBits.calls (k : Nat) (a0 : Int) (a1 : Int) (a2 : Int) (r : Bool) (w : World) (h : saucierlaw06_WordsBits.f k a0 a1 a2 = some r) :
    Calls Try.prog 10 #[.int .u8 a0, .int .u8 a1, .int .u8 a2] w fun e w' => e = .returned (.bool r) ∧ Below w.heap.size w w' := by
  have HB := Aside0.mk (Below.refl w.heap.size w)
  have H : (if (wrap64 (1 + (wrap64 (Int.tmod a0 200)))) = 0 then (none) else (if 0 ≤ (wrap64 (1 + (wrap64 (Int.tmod a0 200)))) then (if (wrap64 (1 + (wrap64 (Int.tmod a0 200))) : Int).toNat ≤ 281474976710656 then ((some (List.replicate (wrap64 (1 + (wrap64 (Int.tmod a0 200))) : Int).toNat false : List Bool)).bind fun y193 => (if 0 ≤ (Int.tmod (wrap64 (a1)) (wrap64 (1 + (wrap64 (Int.tmod a0 200))))) then (if (Int.tmod (wrap64 (a1)) (wrap64 (1 + (wrap64 (Int.tmod a0 200))))) < (y193.length : Int) then ((words_PackBits.f (y193.set ((Int.tmod (wrap64 (a1)) (wrap64 (1 + (wrap64 (Int.tmod a0 200))))) : Int).toNat true)).bind fun t197 => (if (t197.length : Int) = (wrap64 (Int.tdiv (wrap64 ((wrap64 (1 + (wrap64 (Int.tmod a0 200)))) + 7)) 8)) then (saucierlaw06_WordsBits.l0 k a2 (wrap64 (1 + (wrap64 (Int.tmod a0 200)))) (Int.tmod (wrap64 (a1)) (wrap64 (1 + (wrap64 (Int.tmod a0 200))))) t197 t197 (t197.length : Int) 0) else (some false))) else (none)) else (none))) else (none)) else (none))) = some r := h
  clear h
  by_cases c4 : (wrap64 (1 + (wrap64 (Int.tmod a0 200)))) = 0
  · rw [if_pos c4] at H
    exact absurd H (by simp)
  · rw [if_neg c4] at H
    have c4b0 : ((wrap64 (1 + (wrap64 (Int.tmod a0 200)))) == 0) = false := beq_eq_false_iff_ne.mpr c4
    have c4b1 : ((wrap64 (1 + (wrap64 (Int.tmod a0 200)))) != 0) = true := bne_iff_ne.mpr c4
    obtain ⟨ji5, hji5⟩ : ∃ j_ : Int, (wrap64 (1 + (wrap64 (Int.tmod a0 200)))) = j_ := ⟨_, rfl⟩
    replace H : (if 0 ≤ (ji5) then (if (ji5 : Int).toNat ≤ 281474976710656 then ((some (List.replicate (ji5 : Int).toNat false : List Bool)).bind fun y193 => (if 0 ≤ (Int.tmod (wrap64 (a1)) (ji5)) then (if (Int.tmod (wrap64 (a1)) (ji5)) < (y193.length : Int) then ((words_PackBits.f (y193.set ((Int.tmod (wrap64 (a1)) (ji5)) : Int).toNat true)).bind fun t197 => (if (t197.length : Int) = (wrap64 (Int.tdiv (wrap64 ((ji5) + 7)) 8)) then (saucierlaw06_WordsBits.l0 k a2 ji5 (Int.tmod (wrap64 (a1)) (ji5)) t197 t197 (t197.length : Int) 0) else (some false))) else (none)) else (none))) else (none)) else (none)) = some r := by first | (rw [hji5] at H; exact H) | (simp only [hji5] at H ⊢; exact H)
    (try rw [hji5] at c4b0)
    (try rw [hji5] at c4b1)
    have hji5w : (IntKind.i64.wrap (1 + (wrap64 (Int.tmod a0 200)))) = ji5 := (i64_w _).trans hji5
    by_cases c6 : 0 ≤ (ji5)
    · rw [if_pos c6] at H
      have c6b0 := eq_true c6
      have c6b1 : decide (0 ≤ (ji5)) = true := decide_eq_true c6
      clear c6
      by_cases c7 : (ji5 : Int).toNat ≤ 281474976710656
      · rw [if_pos c7] at H
        have c7b0 := eq_true c7
        have c7b1 : decide ((ji5 : Int).toNat ≤ 281474976710656) = true := decide_eq_true c7
        clear c7
        obtain ⟨y193, hy193⟩ : ∃ y_ : List Bool, y_ = (List.replicate (ji5 : Int).toNat false) := ⟨_, rfl⟩
        replace H : (if 0 ≤ (Int.tmod (wrap64 (a1)) (ji5)) then (if (Int.tmod (wrap64 (a1)) (ji5)) < (y193.length : Int) then ((words_PackBits.f (y193.set ((Int.tmod (wrap64 (a1)) (ji5)) : Int).toNat true)).bind fun t197 => (if (t197.length : Int) = (wrap64 (Int.tdiv (wrap64 ((ji5) + 7)) 8)) then (saucierlaw06_WordsBits.l0 k a2 ji5 (Int.tmod (wrap64 (a1)) (ji5)) t197 t197 (t197.length : Int) 0) else (some false))) else (none)) else (none)) = some r := by first | (rw [hy193]; with_reducible exact H) | (have H2_ := (Option.bind_some _ _).symm.trans H; rw [hy193]; with_reducible exact H2_) | (have H2_ := (Option.bind_some _ _).symm.trans H; with_reducible exact H2_) | with_reducible exact H | (rw [hy193]; exact H) | exact H
        have Ny193 := Aside0.mk hy193
        clear hy193
        obtain ⟨ji8, hji8⟩ : ∃ j_ : Int, (Int.tmod (wrap64 (a1)) (ji5)) = j_ := ⟨_, rfl⟩
        replace H : (if 0 ≤ (ji8) then (if (ji8) < (y193.length : Int) then ((words_PackBits.f (y193.set ((ji8) : Int).toNat true)).bind fun t197 => (if (t197.length : Int) = (wrap64 (Int.tdiv (wrap64 ((ji5) + 7)) 8)) then (saucierlaw06_WordsBits.l0 k a2 ji5 ji8 t197 t197 (t197.length : Int) 0) else (some false))) else (none)) else (none)) = some r := by first | (rw [hji8] at H; exact H) | (simp only [hji8] at H ⊢; exact H)
        by_cases c9 : 0 ≤ (ji8)
        · rw [if_pos c9] at H
          have c9b0 : decide (0 ≤ (ji8)) = true := decide_eq_true c9
          clear c9
          by_cases c10 : (ji8) < (y193.length : Int)
          · rw [if_pos c10] at H
            have c10b0 : decide ((ji8) < (y193.length : Int)) = true := decide_eq_true c10
            clear c10
            obtain ⟨y196, hy196⟩ : ∃ y_ : List Bool, y_ = (y193.set ((ji8) : Int).toNat true) := ⟨_, rfl⟩
            replace H : ((words_PackBits.f y196).bind fun t197 => (if (t197.length : Int) = (wrap64 (Int.tdiv (wrap64 ((ji5) + 7)) 8)) then (saucierlaw06_WordsBits.l0 k a2 ji5 ji8 t197 t197 (t197.length : Int) 0) else (some false))) = some r := by first | (rw [hy196]; with_reducible exact H) | (have H2_ := (Option.bind_some _ _).symm.trans H; rw [hy196]; with_reducible exact H2_) | (have H2_ := (Option.bind_some _ _).symm.trans H; with_reducible exact H2_) | with_reducible exact H | (rw [hy196]; exact H) | exact H
            have Ny196 := Aside0.mk hy196
            clear hy196
            replace H := Option.bind_eq_some_iff.mp H
            obtain ⟨t197, A120, H⟩ := H
            replace H : (if (t197.length : Int) = (wrap64 (Int.tdiv (wrap64 ((ji5) + 7)) 8)) then (saucierlaw06_WordsBits.l0 k a2 ji5 ji8 t197 t197 (t197.length : Int) 0) else (some false)) = some r := H
            have A12 := Aside0.mk A120
            clear A120
            by_cases c13 : (t197.length : Int) = (wrap64 (Int.tdiv (wrap64 ((ji5) + 7)) 8))
            · rw [if_pos c13] at H
              have c13b0 : ((t197.length : Int) == (wrap64 (Int.tdiv (wrap64 ((ji5) + 7)) 8))) = true := beq_iff_eq.mpr c13
              have c13b1 : ((t197.length : Int) != (wrap64 (Int.tdiv (wrap64 ((ji5) + 7)) 8))) = false := bne_eq_false_iff_eq.mpr c13
              clear c13
              have H' := Aside0.mk H
              clear H
              go_enter Try.func10, Try.ntmps10
              go_wp2_with (first | ((with_reducible refine gate_dst (N := 26) rfl ?_); (try (refine gate_guard (by rfl) ?_; dsimp only)); refine Kd.R_make Kd.bool _ 4 rfl (N := 26) rfl 39 _ _ rfl ji5 rfl rfl Try.underlying39 (.bool false) 1 info4 rfl (by decide) (by omega) false (ok := fun _ => True) (okp := fun _ => True) rfl (fun _ hk => hk) trivial (of_decide_eq_true (by first | (with_reducible assumption) | assumption)) (Nat.le_trans (Nat.mul_le_mul_right _ (of_decide_eq_true (by first | (with_reducible assumption) | assumption) : ji5.toNat ≤ 281474976710656)) (by omega)) (Below.refl _ _) (Nat.le_refl _) ?_; intro v194 w14 ho15 hb hg_ hnew_; clear hg_ hnew_; (first | rw [← Ny193.out] at ho15 | (simp only [Int.reduceToNat] at ho15; rw [← Ny193.out] at ho15)); have n0_ := Aside0.mk (Kd.R_lower ho15 (below_size (by repeat (first | (with_reducible first | exact HB.out | apply below_alloc | apply pw_below_drewN | apply below_drew1) | exact HB.out)))); have n1_ := Aside0.mk (below_step (by repeat (first | (with_reducible first | exact HB.out | apply below_alloc | apply pw_below_drewN | apply below_drew1) | exact HB.out)) hb); clear HB; have HO195 := n0_; have HB := n1_; clear n0_ n1_; clear hb ho15; have p11 : 0 ≤ ((ji8) : Int) := of_decide_eq_true (by first | (with_reducible assumption) | assumption); have q11 : ((ji8) : Int) < ((y193.length : Int) : Int) := of_decide_eq_true (by first | (with_reducible assumption) | assumption); obtain ⟨go11, co11, eo11, gb11, gl11, cl11, HG11⟩ := Kd.R_form HO195.out (by omega); (first | cases eo11 | (injection eo11 with ea_ en_ ec_; (first | subst ea_ | (injection ea_ with ea_; subst ea_)); subst ec_; clear en_)); have GB11 := Aside0.mk gb11; have GG11 := Aside0.mk HG11; clear gb11 gl11 HG11; obtain ⟨hx11_0, hf11_0⟩ := Kd.R_celln false HO195.out ((ji8) : Int) p11 q11; replace p11 := eq_true p11; replace q11 := eq_true q11; obtain ⟨hy16_, hz16_⟩ := Kd.R_celln false HO195.out ((ji8) : Int) (of_decide_eq_true (by first | (with_reducible assumption) | assumption)) (of_decide_eq_true (by first | (with_reducible assumption) | assumption)); have HP16 := Kd.R_putg HO195.out ((ji8) : Int) true) | ((with_reducible refine gate_store (t := 4) (p := 29) rfl ?_); refine store_event (t := 4) (p := 29) (v := ?vo_w17) (w1 := (w14.setCell ⟨go11, ((ji8) : Int).toNat, none⟩ (.bool true))) ?hg ?ho ?hn ?hr ?_; (case ho => rfl); (case hg => rfl); (case hn => rfl); (case hr => first | (go_simp; done) | (go_simp; rfl)); intro w17 hw; have hg : w14.grownBy w17 (some go11) := (by rw [hw]; exact HP16.2); have hp_ : Kd.R Kd.bool 4 w17 w.heap.size (fun _ => True) (.slice (some ⟨go11, 0, none⟩) y193.length co11) y196 := (by rw [hw, Ny196.out]; exact HP16.1); clear HP16; have n0_ := Aside0.mk (hp_); have n1_ := Aside0.mk ((by rw [hw]; exact below_set (HB.out) GB11.out : Below w.heap.size w w17)); clear HO195; clear HB; have HO195 := n0_; have HB := n1_; clear n0_ n1_; clear hg hw hp_) | ((with_reducible refine gate_callee (f := 29) rfl ?_); refine goesL_ (some 31) rfl rfl Try.func29 (by kernel_rfl) rfl #[.slice (some ⟨go11, 0, none⟩) y196.length co11] rfl (by (try simp only [List.map_toArray, List.map_cons, List.map_nil]); first | done | (rw [show y196.length = y193.length from (Kd.R_reads' HO195.out).1.symm] <;> rfl) | rfl | (simp only [List.length_drop, List.length_take]; rfl)) ?_; (with_reducible refine (words_PackBits.calls _ _ y196 t197 _ ?side1 ?side2 A12.out).mono ?_); (case side1 => repeat (first | exact (Kd.R_reads' HO195.out).2.2 | (with_reducible refine Kd.C_alloc ?_ _) | (with_reducible refine Kd.C_drewN ?_ _) | (with_reducible refine Kd.C_drew ?_))); (case side2 => rw [show y196.length = y193.length from (Kd.R_reads' HO195.out).1.symm]; exact (Kd.R_reads' HO195.out).2.1); rintro e w18 ⟨v198, rfl, ho0, hb⟩; refine ⟨_, rfl, ?_⟩; have n0_ := Aside0.mk (Kd.R_below (by (with_reducible repeat (first | apply Kd.R_alloc | apply Kd.R_drewN | apply Kd.R_drew)); exact HO195.out) hb); have n1_ := Aside0.mk (Kd.R_lower ho0 (below_size (by repeat (first | (with_reducible first | exact HB.out | apply below_alloc | apply pw_below_drewN | apply below_drew1) | exact HB.out)))); have n2_ := Aside0.mk (below_step (by repeat (first | (with_reducible first | exact HB.out | apply below_alloc | apply pw_below_drewN | apply below_drew1) | exact HB.out)) hb); clear HO195; clear HB; have HO195 := n0_; have HO199 := n1_; have HB := n2_; clear n0_ n1_ n2_; (try clear hb); (try clear hb2); (try clear hk); (try clear hi); (try clear ho0); obtain ⟨Ao19, co19, eo19⟩ := Kd.R_slice HO199.out; subst eo19))
              go_loopg [40] k (fun kq v40 w' => ∃ (x40_1 : Int), v40 = .int .i64 x40_1 ∧ Aside0 (saucierlaw06_WordsBits.l0 kq a2 ji5 ji8 t197 t197 (t197.length : Int) x40_1 = some r) ∧ Aside0 (kq ≤ k) ∧ Aside0 (Kd.R (Kd.int .u8) 5 w' w.heap.size (fun _ => True) (.slice Ao19 t197.length co19) t197) ∧ Aside0 (Kd.R (Kd.int .u8) 5 w' w.heap.size (fun _ => True) (.slice Ao19 t197.length co19) t197) ∧ Aside0 (Below w.heap.size w w'))
              case atStart => exact ⟨(0), (by first | rfl | (simp; done) | (simp [*]; done)), H', ⟨Nat.le_refl _⟩, ⟨by (with_reducible repeat (first | apply Kd.R_alloc | apply Kd.R_drewN | apply Kd.R_drew)); exact HO199.out⟩, ⟨by (with_reducible repeat (first | apply Kd.R_alloc | apply Kd.R_drewN | apply Kd.R_drew)); exact HO199.out⟩, ⟨by repeat (first | (with_reducible first | exact HB.out | apply below_alloc | apply pw_below_drewN | apply below_drew1) | exact HB.out)⟩⟩
              case round =>
                clear H'
                try clear c1
                try clear p1
                try clear q1
                try clear hx1
                try clear c2
                try clear p2
                try clear c4
                try clear c4b0
                try clear c4b1
                try clear c6
                try clear c6b0
                try clear c6b1
                try clear p6
                try clear c7
                try clear c7b0
                try clear c7b1
                try clear c9
                try clear c9b0
                try clear c10
                try clear c10b0
                try clear p11
                try clear q11
                try clear hx11
                try clear hf11
                try clear c13
                try clear c13b0
                try clear c13b1
                try clear hx11_0
                try clear p11
                try clear q11
                obtain ⟨x40_1, rfl, HA, HK1, HO_10, HO_38, HB⟩ := hrel
                cases gk with
                | zero => exact absurd HA.out (by simp [saucierlaw06_WordsBits.l0])
                | succ k1 =>
                  have H := HA.out
                  clear HA
                  simp only [saucierlaw06_WordsBits.l0] at H
                  by_cases c20 : x40_1 < (t197.length : Int)
                  · rw [if_pos c20] at H
                    have c20b0 : decide (x40_1 < (t197.length : Int)) = true := decide_eq_true c20
                    clear c20
                    by_cases c21 : 0 ≤ x40_1
                    · rw [if_pos c21] at H
                      have c21b0 : decide (0 ≤ x40_1) = true := decide_eq_true c21
                      clear c21
                      by_cases c22 : x40_1 < (t197.length : Int)
                      · rw [if_pos c22] at H
                        have c22b0 : decide (x40_1 < (t197.length : Int)) = true := decide_eq_true c22
                        clear c22
                        have HC23 := Aside0.mk H
                        clear H
                        have p200 : 0 ≤ (x40_1 : Int) := of_decide_eq_true (by first | (with_reducible assumption) | assumption)
                        have q200 : x40_1 < (t197.length : Int) := of_decide_eq_true (by first | (with_reducible assumption) | assumption)
                        obtain ⟨ad200, e200, hx200_0⟩ := Kd.at_int (Kd.R_reads' HO_38.out).2.2 x40_1 p200 q200
                        cases e200
                        replace p200 := eq_true p200
                        replace q200 := eq_true q200
                        go_upto_if 48 with (fail)
                        go_cut [13] (fun v13 wc => ∃ (kq : Nat) (x13_22 : Int), v13 = .int .u8 x13_22 ∧ Aside0 (saucierlaw06_WordsBits.j1 kq a2 ji5 ji8 t197 (rd t197 x40_1) x13_22 t197 (t197.length : Int) x40_1 = some r) ∧ Aside0 (kq ≤ k1) ∧ Aside0 (Kd.R (Kd.int .u8) 5 wc w.heap.size (fun _ => True) (.slice (some ad200) t197.length co19) t197) ∧ Aside0 (Kd.R (Kd.int .u8) 5 wc w.heap.size (fun _ => True) (.slice (some ad200) t197.length co19) t197) ∧ Aside0 (Below w.heap.size w wc))
                        case first =>
                          have H := HC23.out
                          clear HC23
                          by_cases c24 : x40_1 = (wrap64 (Int.tdiv ji8 8))
                          · rw [if_pos c24] at H
                            have c24b0 : (x40_1 == (wrap64 (Int.tdiv ji8 8))) = true := beq_iff_eq.mpr c24
                            have c24b1 : (x40_1 != (wrap64 (Int.tdiv ji8 8))) = false := bne_eq_false_iff_eq.mpr c24
                            clear c24
                            (first | rw [c24b0] | (simp only [i64_w, i32_w]; rw [c24b0]) | skip)
                            obtain ⟨ji25, hji25⟩ : ∃ j_ : Int, (Int.tmod ji8 8) = j_ := ⟨_, rfl⟩
                            replace H : (if 0 ≤ (ji25) then (saucierlaw06_WordsBits.j1 k1 a2 ji5 ji8 t197 (rd t197 x40_1) (shl .u8 1 (ji25)) t197 (t197.length : Int) x40_1) else (none)) = some r := by first | (rw [hji25] at H; exact H) | (simp only [hji25] at H ⊢; exact H)
                            by_cases c26 : 0 ≤ (ji25)
                            · rw [if_pos c26] at H
                              have c26b0 := eq_true c26
                              have c26b1 : decide (0 ≤ (ji25)) = true := decide_eq_true c26
                              clear c26
                              obtain ⟨ji27, hji27⟩ : ∃ j_ : Int, (shl .u8 1 (ji25)) = j_ := ⟨_, rfl⟩
                              replace H : (saucierlaw06_WordsBits.j1 k1 a2 ji5 ji8 t197 (rd t197 x40_1) ji27 t197 (t197.length : Int) x40_1) = some r := by first | (rw [hji27] at H; exact H) | (simp only [hji27] at H ⊢; exact H)
                              have hji27_ : (IntKind.u8.wrap (1 * 2 ^ min (ji25).toNat 8)) = ji27 := hji27
                              have hji27z : (ji25) ≤ 8 → (IntKind.u8.wrap (1 * 2 ^ (ji25).toNat)) = ji27 := shl_small hji27
                              have hji27u : (IntKind.u8.wrap (2 ^ min (ji25).toNat 8)) = ji27 := by have h_ := hji27_; rw [Int.one_mul] at h_; exact h_
                              have hji27v : (ji25) ≤ 8 → (IntKind.u8.wrap (2 ^ (ji25).toNat)) = ji27 := fun hle_ => by have h_ := hji27z hle_; rw [Int.one_mul] at h_; exact h_
                              have H' := Aside0.mk H
                              clear H
                              go_wp2
                              go_meet
                              case rel => exact ⟨_, (ji27), (by first | rfl | (simp; done) | (simp only [← hji27] <;> (first | rfl | simp)) | (simp [*]; done)), H', ⟨by have := HK1.out; first | omega | exact Nat.le_refl _⟩, ⟨by (with_reducible repeat (first | apply Kd.R_alloc | apply Kd.R_drewN | apply Kd.R_drew)); exact HO_10.out⟩, ⟨by (with_reducible repeat (first | apply Kd.R_alloc | apply Kd.R_drewN | apply Kd.R_drew)); exact HO_38.out⟩, ⟨by repeat (first | (with_reducible first | exact HB.out | apply below_alloc | apply pw_below_drewN | apply below_drew1) | exact HB.out)⟩⟩
                            · rw [if_neg c26] at H
                              exact absurd H (by simp)
                          · rw [if_neg c24] at H
                            have c24b0 : (x40_1 == (wrap64 (Int.tdiv ji8 8))) = false := beq_eq_false_iff_ne.mpr c24
                            have c24b1 : (x40_1 != (wrap64 (Int.tdiv ji8 8))) = true := bne_iff_ne.mpr c24
                            (first | rw [c24b0] | (simp only [i64_w, i32_w]; rw [c24b0]) | skip)
                            have H' := Aside0.mk H
                            clear H
                            go_wp2
                            go_meet
                            case rel => exact ⟨_, (0), (by first | rfl | (simp; done) | (simp [*]; done)), H', ⟨by have := HK1.out; first | omega | exact Nat.le_refl _⟩, ⟨by (with_reducible repeat (first | apply Kd.R_alloc | apply Kd.R_drewN | apply Kd.R_drew)); exact HO_10.out⟩, ⟨by (with_reducible repeat (first | apply Kd.R_alloc | apply Kd.R_drewN | apply Kd.R_drew)); exact HO_38.out⟩, ⟨by repeat (first | (with_reducible first | exact HB.out | apply below_alloc | apply pw_below_drewN | apply below_drew1) | exact HB.out)⟩⟩
                        case rest =>
                          clear HC23
                          try clear c1
                          try clear p1
                          try clear q1
                          try clear hx1
                          try clear c2
                          try clear p2
                          try clear q2
                          try clear hx2
                          try clear c4
                          try clear c4b0
                          try clear c4b1
                          try clear c6
                          try clear c6b0
                          try clear c6b1
                          try clear p6
                          try clear c7
                          try clear c7b0
                          try clear c7b1
                          try clear c9
                          try clear c9b0
                          try clear c10
                          try clear c10b0
                          try clear p11
                          try clear q11
                          try clear hx11
                          try clear hf11
                          try clear c13
                          try clear c13b0
                          try clear c13b1
                          try clear c20
                          try clear c20b0
                          try clear p20
                          try clear q20
                          try clear hx20
                          try clear c21
                          try clear c21b0
                          try clear c22
                          try clear c22b0
                          try clear c24
                          try clear c24b0
                          try clear c24b1
                          try clear c26
                          try clear c26b0
                          try clear c26b1
                          try clear hx11_0
                          try clear hx200_0
                          try clear p1
                          try clear p11
                          try clear p2
                          try clear p200
                          try clear p6
                          try clear q1
                          try clear q11
                          try clear q200
                          obtain ⟨kq, x13_22, rfl, HA, HJ22, HO_10, HO_38, HB⟩ := hcut
                          cases kq with
                          | zero => exact absurd HA.out (by simp [saucierlaw06_WordsBits.j1])
                          | succ kj22 =>
                            have H := HA.out
                            clear HA
                            simp only [saucierlaw06_WordsBits.j1] at H
                            by_cases c28 : (rd t197 x40_1) = x13_22
                            · rw [if_pos c28] at H
                              have c28b0 : ((rd t197 x40_1) == x13_22) = true := beq_iff_eq.mpr c28
                              have c28b1 : ((rd t197 x40_1) != x13_22) = false := bne_eq_false_iff_eq.mpr c28
                              clear c28
                              have H' := Aside0.mk H
                              clear H
                              go_wp2
                              go_roundg kj22
                              case measure => have := HK1.out; have := HJ22.out; omega
                              case rel => exact ⟨(wrap64 (x40_1 + 1)), (by first | rfl | (simp; done) | (simp [*]; done)), H', ⟨by have := HK1.out; have := HJ22.out; omega⟩, ⟨by (with_reducible repeat (first | apply Kd.R_alloc | apply Kd.R_drewN | apply Kd.R_drew)); exact HO_10.out⟩, ⟨by (with_reducible repeat (first | apply Kd.R_alloc | apply Kd.R_drewN | apply Kd.R_drew)); exact HO_38.out⟩, ⟨by repeat (first | (with_reducible first | exact HB.out | apply below_alloc | apply pw_below_drewN | apply below_drew1) | exact HB.out)⟩⟩
                            · rw [if_neg c28] at H
                              have c28b0 : ((rd t197 x40_1) == x13_22) = false := beq_eq_false_iff_ne.mpr c28
                              have c28b1 : ((rd t197 x40_1) != x13_22) = true := bne_iff_ne.mpr c28
                              obtain rfl := Option.some.inj H
                              go_wp2
                              go_ret
                              exact ⟨by first | rfl | (simp [errW_none, errW_some] <;> rfl) | (simp only [← hji5, ← hji8]; first | rfl | (simp [errW_none, errW_some] <;> rfl)) | (simp [*, errW_none, errW_some] <;> rfl), by repeat (first | (with_reducible first | exact HB.out | apply below_alloc | apply pw_below_drewN | apply below_drew1) | exact HB.out)⟩
                      · rw [if_neg c22] at H
                        exact absurd H (by simp)
                    · rw [if_neg c21] at H
                      exact absurd H (by simp)
                  · rw [if_neg c20] at H
                    have c20b0 : decide (x40_1 < (t197.length : Int)) = false := decide_eq_false c20
                    clear c20
                    have HC29 := Aside0.mk H
                    clear H
                    go_upto_if 62 with (fail)
                    go_cut [] (fun wc => ∃ (kq : Nat) (x10_28 : List Int), Aside0 (saucierlaw06_WordsBits.j2 kq ji5 x10_28 = some r) ∧ Aside0 (kq ≤ k1) ∧ Aside0 (Kd.R (Kd.int .u8) 5 wc w.heap.size (fun _ => True) (.slice Ao19 t197.length co19) x10_28) ∧ Aside0 (Below w.heap.size w wc))
                    case first =>
                      have H := HC29.out
                      clear HC29
                      by_cases c30 : (wrap64 ((wrap64 (8 * (t197.length : Int))) - ji5)) > 0
                      · rw [if_pos c30] at H
                        have c30b0 : decide (0 < (wrap64 ((wrap64 (8 * (t197.length : Int))) - ji5))) = true := decide_eq_true c30
                        clear c30
                        (first | rw [c30b0] | (simp only [i64_w, i32_w]; rw [c30b0]) | skip)
                        obtain ⟨y201, hy201⟩ : ∃ y_ : List Int, y_ = (([] : List Int)) := ⟨_, rfl⟩
                        replace H : (if y201.length + t197.length < 140737488355328 then ((some (y201 ++ t197 : List Int)).bind fun y204 => (if (wrap64 ((wrap64 (8 * (t197.length : Int))) - ji5)) = 0 then (none) else (if 0 ≤ (wrap64 (Int.tdiv (wrap64 (ji5 + (Int.tmod (wrap64 (a2)) (wrap64 ((wrap64 (8 * (t197.length : Int))) - ji5))))) 8)) then (if (wrap64 (Int.tdiv (wrap64 (ji5 + (Int.tmod (wrap64 (a2)) (wrap64 ((wrap64 (8 * (t197.length : Int))) - ji5))))) 8)) < (y204.length : Int) then (if 0 ≤ (Int.tmod (wrap64 (ji5 + (Int.tmod (wrap64 (a2)) (wrap64 ((wrap64 (8 * (t197.length : Int))) - ji5))))) 8) then ((some (y204.set ((wrap64 (Int.tdiv (wrap64 (ji5 + (Int.tmod (wrap64 (a2)) (wrap64 ((wrap64 (8 * (t197.length : Int))) - ji5))))) 8)) : Int).toNat (Go.bits .or .u8 (rd y204 (wrap64 (Int.tdiv (wrap64 (ji5 + (Int.tmod (wrap64 (a2)) (wrap64 ((wrap64 (8 * (t197.length : Int))) - ji5))))) 8))) (shl .u8 1 (Int.tmod (wrap64 (ji5 + (Int.tmod (wrap64 (a2)) (wrap64 ((wrap64 (8 * (t197.length : Int))) - ji5))))) 8))) : List Int)).bind fun y208 => ((words_Bits.f y208 ji5).bind fun t209 => (if (t209.length : Int) = 0 then ((words_Bits.f y208 (wrap64 ((wrap64 (ji5 + (Int.tmod (wrap64 (a2)) (wrap64 ((wrap64 (8 * (t197.length : Int))) - ji5))))) + 1))).bind fun t212 => (if (t212.length : Int) = (wrap64 ((wrap64 (ji5 + (Int.tmod (wrap64 (a2)) (wrap64 ((wrap64 (8 * (t197.length : Int))) - ji5))))) + 1)) then (saucierlaw06_WordsBits.j2 k1 ji5 t197) else (some false))) else (some false)))) else (none)) else (none)) else (none)))) else (none)) = some r := by first | (rw [hy201]; with_reducible exact H) | (have H2_ := (Option.bind_some _ _).symm.trans H; rw [hy201]; with_reducible exact H2_) | (have H2_ := (Option.bind_some _ _).symm.trans H; with_reducible exact H2_) | with_reducible exact H | (rw [hy201]; exact H) | exact H
                        have Ny201 := Aside0.mk hy201
                        clear hy201
                        by_cases c31 : y201.length + t197.length < 140737488355328
                        · rw [if_pos c31] at H
                          have LMc31 := Aside0.mk c31
                          clear c31
                          obtain ⟨y204, hy204⟩ : ∃ y_ : List Int, y_ = (y201 ++ t197) := ⟨_, rfl⟩
                          replace H : (if (wrap64 ((wrap64 (8 * (t197.length : Int))) - ji5)) = 0 then (none) else (if 0 ≤ (wrap64 (Int.tdiv (wrap64 (ji5 + (Int.tmod (wrap64 (a2)) (wrap64 ((wrap64 (8 * (t197.length : Int))) - ji5))))) 8)) then (if (wrap64 (Int.tdiv (wrap64 (ji5 + (Int.tmod (wrap64 (a2)) (wrap64 ((wrap64 (8 * (t197.length : Int))) - ji5))))) 8)) < (y204.length : Int) then (if 0 ≤ (Int.tmod (wrap64 (ji5 + (Int.tmod (wrap64 (a2)) (wrap64 ((wrap64 (8 * (t197.length : Int))) - ji5))))) 8) then ((some (y204.set ((wrap64 (Int.tdiv (wrap64 (ji5 + (Int.tmod (wrap64 (a2)) (wrap64 ((wrap64 (8 * (t197.length : Int))) - ji5))))) 8)) : Int).toNat (Go.bits .or .u8 (rd y204 (wrap64 (Int.tdiv (wrap64 (ji5 + (Int.tmod (wrap64 (a2)) (wrap64 ((wrap64 (8 * (t197.length : Int))) - ji5))))) 8))) (shl .u8 1 (Int.tmod (wrap64 (ji5 + (Int.tmod (wrap64 (a2)) (wrap64 ((wrap64 (8 * (t197.length : Int))) - ji5))))) 8))) : List Int)).bind fun y208 => ((words_Bits.f y208 ji5).bind fun t209 => (if (t209.length : Int) = 0 then ((words_Bits.f y208 (wrap64 ((wrap64 (ji5 + (Int.tmod (wrap64 (a2)) (wrap64 ((wrap64 (8 * (t197.length : Int))) - ji5))))) + 1))).bind fun t212 => (if (t212.length : Int) = (wrap64 ((wrap64 (ji5 + (Int.tmod (wrap64 (a2)) (wrap64 ((wrap64 (8 * (t197.length : Int))) - ji5))))) + 1)) then (saucierlaw06_WordsBits.j2 k1 ji5 t197) else (some false))) else (some false)))) else (none)) else (none)) else (none))) = some r := by first | (rw [hy204]; with_reducible exact H) | (have H2_ := (Option.bind_some _ _).symm.trans H; rw [hy204]; with_reducible exact H2_) | (have H2_ := (Option.bind_some _ _).symm.trans H; with_reducible exact H2_) | with_reducible exact H | (rw [hy204]; exact H) | exact H
                          have Ny204 := Aside0.mk hy204
                          clear hy204
                          by_cases c32 : (wrap64 ((wrap64 (8 * (t197.length : Int))) - ji5)) = 0
                          · rw [if_pos c32] at H
                            exact absurd H (by simp)
                          · rw [if_neg c32] at H
                            have c32b0 : ((wrap64 ((wrap64 (8 * (t197.length : Int))) - ji5)) == 0) = false := beq_eq_false_iff_ne.mpr c32
                            have c32b1 : ((wrap64 ((wrap64 (8 * (t197.length : Int))) - ji5)) != 0) = true := bne_iff_ne.mpr c32
                            obtain ⟨ji33, hji33⟩ : ∃ j_ : Int, (wrap64 (Int.tdiv (wrap64 (ji5 + (Int.tmod (wrap64 (a2)) (wrap64 ((wrap64 (8 * (t197.length : Int))) - ji5))))) 8)) = j_ := ⟨_, rfl⟩
                            replace H : (if 0 ≤ (ji33) then (if (ji33) < (y204.length : Int) then (if 0 ≤ (Int.tmod (wrap64 (ji5 + (Int.tmod (wrap64 (a2)) (wrap64 ((wrap64 (8 * (t197.length : Int))) - ji5))))) 8) then ((some (y204.set ((ji33) : Int).toNat (Go.bits .or .u8 (rd y204 (ji33)) (shl .u8 1 (Int.tmod (wrap64 (ji5 + (Int.tmod (wrap64 (a2)) (wrap64 ((wrap64 (8 * (t197.length : Int))) - ji5))))) 8))) : List Int)).bind fun y208 => ((words_Bits.f y208 ji5).bind fun t209 => (if (t209.length : Int) = 0 then ((words_Bits.f y208 (wrap64 ((wrap64 (ji5 + (Int.tmod (wrap64 (a2)) (wrap64 ((wrap64 (8 * (t197.length : Int))) - ji5))))) + 1))).bind fun t212 => (if (t212.length : Int) = (wrap64 ((wrap64 (ji5 + (Int.tmod (wrap64 (a2)) (wrap64 ((wrap64 (8 * (t197.length : Int))) - ji5))))) + 1)) then (saucierlaw06_WordsBits.j2 k1 ji5 t197) else (some false))) else (some false)))) else (none)) else (none)) else (none)) = some r := by first | (rw [hji33] at H; exact H) | (simp only [hji33] at H ⊢; exact H)
                            have hji33w : (IntKind.i64.wrap (Int.tdiv (wrap64 (ji5 + (Int.tmod (wrap64 (a2)) (wrap64 ((wrap64 (8 * (t197.length : Int))) - ji5))))) 8)) = ji33 := (i64_w _).trans hji33
                            by_cases c34 : 0 ≤ (ji33)
                            · rw [if_pos c34] at H
                              have c34b0 : decide (0 ≤ (ji33)) = true := decide_eq_true c34
                              clear c34
                              by_cases c35 : (ji33) < (y204.length : Int)
                              · rw [if_pos c35] at H
                                have c35b0 : decide ((ji33) < (y204.length : Int)) = true := decide_eq_true c35
                                clear c35
                                obtain ⟨ji36, hji36⟩ : ∃ j_ : Int, (Int.tmod (wrap64 (ji5 + (Int.tmod (wrap64 (a2)) (wrap64 ((wrap64 (8 * (t197.length : Int))) - ji5))))) 8) = j_ := ⟨_, rfl⟩
                                replace H : (if 0 ≤ (ji36) then ((some (y204.set ((ji33) : Int).toNat (Go.bits .or .u8 (rd y204 (ji33)) (shl .u8 1 (ji36))) : List Int)).bind fun y208 => ((words_Bits.f y208 ji5).bind fun t209 => (if (t209.length : Int) = 0 then ((words_Bits.f y208 (wrap64 ((wrap64 (ji5 + (Int.tmod (wrap64 (a2)) (wrap64 ((wrap64 (8 * (t197.length : Int))) - ji5))))) + 1))).bind fun t212 => (if (t212.length : Int) = (wrap64 ((wrap64 (ji5 + (Int.tmod (wrap64 (a2)) (wrap64 ((wrap64 (8 * (t197.length : Int))) - ji5))))) + 1)) then (saucierlaw06_WordsBits.j2 k1 ji5 t197) else (some false))) else (some false)))) else (none)) = some r := by first | (rw [hji36] at H; exact H) | (simp only [hji36] at H ⊢; exact H)
                                by_cases c37 : 0 ≤ (ji36)
                                · rw [if_pos c37] at H
                                  have c37b0 := eq_true c37
                                  have c37b1 : decide (0 ≤ (ji36)) = true := decide_eq_true c37
                                  clear c37
                                  obtain ⟨ji38, hji38⟩ : ∃ j_ : Int, (shl .u8 1 (ji36)) = j_ := ⟨_, rfl⟩
                                  replace H : ((some (y204.set ((ji33) : Int).toNat (Go.bits .or .u8 (rd y204 (ji33)) (ji38)) : List Int)).bind fun y208 => ((words_Bits.f y208 ji5).bind fun t209 => (if (t209.length : Int) = 0 then ((words_Bits.f y208 (wrap64 ((wrap64 (ji5 + (Int.tmod (wrap64 (a2)) (wrap64 ((wrap64 (8 * (t197.length : Int))) - ji5))))) + 1))).bind fun t212 => (if (t212.length : Int) = (wrap64 ((wrap64 (ji5 + (Int.tmod (wrap64 (a2)) (wrap64 ((wrap64 (8 * (t197.length : Int))) - ji5))))) + 1)) then (saucierlaw06_WordsBits.j2 k1 ji5 t197) else (some false))) else (some false)))) = some r := by first | (rw [hji38] at H; exact H) | (simp only [hji38] at H ⊢; exact H)
                                  have hji38_ : (IntKind.u8.wrap (1 * 2 ^ min (ji36).toNat 8)) = ji38 := hji38
                                  have hji38z : (ji36) ≤ 8 → (IntKind.u8.wrap (1 * 2 ^ (ji36).toNat)) = ji38 := shl_small hji38
                                  have hji38u : (IntKind.u8.wrap (2 ^ min (ji36).toNat 8)) = ji38 := by have h_ := hji38_; rw [Int.one_mul] at h_; exact h_
                                  have hji38v : (ji36) ≤ 8 → (IntKind.u8.wrap (2 ^ (ji36).toNat)) = ji38 := fun hle_ => by have h_ := hji38z hle_; rw [Int.one_mul] at h_; exact h_
                                  obtain ⟨y208, hy208⟩ : ∃ y_ : List Int, y_ = (y204.set ((ji33) : Int).toNat (Go.bits .or .u8 (rd y204 (ji33)) (ji38))) := ⟨_, rfl⟩
                                  replace H : ((words_Bits.f y208 ji5).bind fun t209 => (if (t209.length : Int) = 0 then ((words_Bits.f y208 (wrap64 ((wrap64 (ji5 + (Int.tmod (wrap64 (a2)) (wrap64 ((wrap64 (8 * (t197.length : Int))) - ji5))))) + 1))).bind fun t212 => (if (t212.length : Int) = (wrap64 ((wrap64 (ji5 + (Int.tmod (wrap64 (a2)) (wrap64 ((wrap64 (8 * (t197.length : Int))) - ji5))))) + 1)) then (saucierlaw06_WordsBits.j2 k1 ji5 t197) else (some false))) else (some false))) = some r := by first | (rw [hy208]; with_reducible exact H) | (have H2_ := (Option.bind_some _ _).symm.trans H; rw [hy208]; with_reducible exact H2_) | (have H2_ := (Option.bind_some _ _).symm.trans H; with_reducible exact H2_) | with_reducible exact H | (rw [hy208]; exact H) | exact H
                                  have Ny208 := Aside0.mk hy208
                                  clear hy208
                                  replace H := Option.bind_eq_some_iff.mp H
                                  obtain ⟨t209, A400, H⟩ := H
                                  replace H : (if (t209.length : Int) = 0 then ((words_Bits.f y208 (wrap64 ((wrap64 (ji5 + (Int.tmod (wrap64 (a2)) (wrap64 ((wrap64 (8 * (t197.length : Int))) - ji5))))) + 1))).bind fun t212 => (if (t212.length : Int) = (wrap64 ((wrap64 (ji5 + (Int.tmod (wrap64 (a2)) (wrap64 ((wrap64 (8 * (t197.length : Int))) - ji5))))) + 1)) then (saucierlaw06_WordsBits.j2 k1 ji5 t197) else (some false))) else (some false)) = some r := H
                                  have A40 := Aside0.mk A400
                                  clear A400
                                  by_cases c41 : (t209.length : Int) = 0
                                  · rw [if_pos c41] at H
                                    have c41b0 : ((t209.length : Int) == 0) = true := beq_iff_eq.mpr c41
                                    have c41b1 : ((t209.length : Int) != 0) = false := bne_eq_false_iff_eq.mpr c41
                                    clear c41
                                    replace H := Option.bind_eq_some_iff.mp H
                                    obtain ⟨t212, A420, H⟩ := H
                                    replace H : (if (t212.length : Int) = (wrap64 ((wrap64 (ji5 + (Int.tmod (wrap64 (a2)) (wrap64 ((wrap64 (8 * (t197.length : Int))) - ji5))))) + 1)) then (saucierlaw06_WordsBits.j2 k1 ji5 t197) else (some false)) = some r := H
                                    have A42 := Aside0.mk A420
                                    clear A420
                                    by_cases c43 : (t212.length : Int) = (wrap64 ((wrap64 (ji5 + (Int.tmod (wrap64 (a2)) (wrap64 ((wrap64 (8 * (t197.length : Int))) - ji5))))) + 1))
                                    · rw [if_pos c43] at H
                                      have c43b0 : ((t212.length : Int) == (wrap64 ((wrap64 (ji5 + (Int.tmod (wrap64 (a2)) (wrap64 ((wrap64 (8 * (t197.length : Int))) - ji5))))) + 1))) = true := beq_iff_eq.mpr c43
                                      have c43b1 : ((t212.length : Int) != (wrap64 ((wrap64 (ji5 + (Int.tmod (wrap64 (a2)) (wrap64 ((wrap64 (8 * (t197.length : Int))) - ji5))))) + 1))) = false := bne_eq_false_iff_eq.mpr c43
                                      clear c43
                                      have H' := Aside0.mk H
                                      clear H
                                      try go_wp2_with (first | ((with_reducible refine gate_dst (N := 63) rfl ?_); (try (refine gate_guard (by rfl) ?_; dsimp only)); refine Kd.R_lit (Kd.int .u8) _ 5 ?hg (N := 63) ?hd (xs := ([] : List Int)) (inner := []) (ok := fun _ => True) (okp := fun _ => True) ?hr ?hp (fun _ hk => hk) trivial (Below.refl _ _) (Nat.le_refl _) (by simp) ?_; (case hd => rfl); (case hg => rfl); (case hr => first | (go_simp; done) | (go_simp; rfl)); (case hp => exact (Reps.none _ _)); intro v202 w44 ho45 hb hg_ hnew_; clear hg_ hnew_; (first | rw [← Ny201.out] at ho45 | (simp only [Int.reduceToNat] at ho45; rw [← Ny201.out] at ho45)); have n0_ := Aside0.mk (Kd.R_elder' (by (with_reducible repeat (first | apply Kd.R_alloc | apply Kd.R_drewN | apply Kd.R_drew)); exact HO_10.out) (Kd.R_base ho45) hb); have n1_ := Aside0.mk (Kd.R_elder' (by (with_reducible repeat (first | apply Kd.R_alloc | apply Kd.R_drewN | apply Kd.R_drew)); exact HO_38.out) (Kd.R_base ho45) hb); have n2_ := Aside0.mk (Kd.R_lower (Kd.R_new' (Kd.R_new' ho45 (Kd.R_lt (by (with_reducible repeat (first | apply Kd.R_alloc | apply Kd.R_drewN | apply Kd.R_drew)); exact HO_10.out))) (Kd.R_lt (by (with_reducible repeat (first | apply Kd.R_alloc | apply Kd.R_drewN | apply Kd.R_drew)); exact HO_38.out))) (below_size (by repeat (first | (with_reducible first | exact HB.out | apply below_alloc | apply pw_below_drewN | apply below_drew1) | exact HB.out)))); have n3_ := Aside0.mk (below_step (by repeat (first | (with_reducible first | exact HB.out | apply below_alloc | apply pw_below_drewN | apply below_drew1) | exact HB.out)) hb); clear HO_10; clear HO_38; clear HB; have HO_10 := n0_; have HO_38 := n1_; have HO203 := n2_; have HB := n3_; clear n0_ n1_ n2_ n3_; clear hb ho45) | ((with_reducible refine gate_builtin (b := .append) (xs := #[.tmp 63, .tmp 64]) rfl ?_); (try (refine gate_guard (by rfl) ?_; dsimp only)); at_builtin; refine Kd.R_append_rows (Kd.int .u8) (w0 := w) w.heap.size rfl (.tmp 63) (.tmp 64) 22 5 (.int .u8 0) 1 rfl Try.underlying22 info5 rfl (by decide) (by omega) v202 y201 t197 _ _ _ (fun k_ => some k_ ≠ (.slice Ao19 t197.length co19 : Value).ownBlock ∧ some k_ ≠ (.slice Ao19 t197.length co19 : Value).ownBlock) (fun _ => False) rfl rfl ?aO ?aR (fun _ _ h => h) (fun _ h => h.elim) ?aF ?aB ?aS ?aL ?_; (case aR => repeat (first | exact (Kd.R_reads' HO_10.out).2.2 | (with_reducible refine Kd.C_alloc ?_ _) | (with_reducible refine Kd.C_drewN ?_ _) | (with_reducible refine Kd.C_drew ?_))); (case aB => exact (by repeat (first | (with_reducible first | exact HB.out | apply below_alloc | apply pw_below_drewN | apply below_drew1) | exact HB.out))); (case aF => exact (fun k_ hk => ⟨Kd.fresh' (Kd.R_lt (by (with_reducible repeat (first | apply Kd.R_alloc | apply Kd.R_drewN | apply Kd.R_drew)); exact HO_10.out)) k_ hk, Kd.fresh' (Kd.R_lt (by (with_reducible repeat (first | apply Kd.R_alloc | apply Kd.R_drewN | apply Kd.R_drew)); exact HO_38.out)) k_ hk⟩)); (case aO => exact (by (with_reducible repeat (first | apply Kd.R_alloc | apply Kd.R_drewN | apply Kd.R_drew)); exact Kd.R_mono HO203.out (fun _ hk => ⟨hk.1.2, hk.2⟩))); (case aS => exact (below_size (by repeat (first | (with_reducible first | exact HB.out | apply below_alloc | apply pw_below_drewN | apply below_drew1) | exact HB.out)))); (case aL => have := LMc31.out; omega); intro v205 w46 ho hb hg hat; rw [← Ny204.out] at ho; have n0_ := Aside0.mk (Kd.R_after (ok := (fun _ => True)) (by (with_reducible repeat (first | apply Kd.R_alloc | apply Kd.R_drewN | apply Kd.R_drew)); exact HO_10.out) hg hat); have n1_ := Aside0.mk (Kd.R_after (ok := (fun _ => True)) (by (with_reducible repeat (first | apply Kd.R_alloc | apply Kd.R_drewN | apply Kd.R_drew)); exact HO_38.out) hg hat); have n2_ := Aside0.mk (hb); have n3_ := Aside0.mk (ho); clear HO_10; clear HO_38; clear HB; clear HO203; have HO_10 := n0_; have HO_38 := n1_; have HB := n2_; have HO206 := n3_; clear n0_ n1_ n2_ n3_; clear ho hb hg hat))
                                      have n0_ := Aside0.mk (Kd.R_drew HO_10.out)
                                      have n1_ := Aside0.mk (Kd.R_drew HO_38.out)
                                      have n2_ := Aside0.mk (Kd.R_drew HO206.out)
                                      have n3_ := Aside0.mk (below_drew1 HB.out)
                                      clear HO_10
                                      clear HO_38
                                      clear HO206
                                      clear HB
                                      have HO_10 := n0_
                                      have HO_38 := n1_
                                      have HO206 := n2_
                                      have HB := n3_
                                      clear n0_ n1_ n2_ n3_
                                      obtain ⟨Ao48, co48, eo48⟩ := Kd.R_slice HO206.out
                                      (first | subst eo48 | (injection eo48 with f1_ f2_ f3_; have f4_ := f1_.symm; have f5_ := f3_.symm; clear f1_ f2_ f3_; subst f4_; subst f5_))
                                      have p207 : 0 ≤ ((ji33) : Int) := of_decide_eq_true (by first | (with_reducible assumption) | assumption)
                                      have q207 : (ji33) < (y204.length : Int) := of_decide_eq_true (by first | (with_reducible assumption) | assumption)
                                      obtain ⟨ad207, e207, hx207_0⟩ := Kd.at_int (Kd.R_reads' HO206.out).2.2 (ji33) p207 q207
                                      cases e207
                                      replace p207 := eq_true p207
                                      replace q207 := eq_true q207
                                      have p39 : 0 ≤ ((ji33) : Int) := of_decide_eq_true (by first | (with_reducible assumption) | assumption)
                                      have q39 : ((ji33) : Int) < ((y204.length : Int) : Int) := of_decide_eq_true (by first | (with_reducible assumption) | assumption)
                                      obtain ⟨go39, co39, eo39, gb39, gl39, cl39, HG39⟩ := Kd.R_form HO206.out (by omega)
                                      (first | cases eo39 | (injection eo39 with ea_ en_ ec_; (first | subst ea_ | (injection ea_ with ea_; subst ea_)); subst ec_; clear en_))
                                      have GB39 := Aside0.mk gb39
                                      have GG39 := Aside0.mk HG39
                                      clear gb39 gl39 HG39
                                      (first | simp only [add_plain] at hx207_0 | skip)
                                      obtain ⟨hx39_0, hf39_0⟩ := Kd.R_celln 0 HO206.out ((ji33) : Int) p39 q39
                                      replace p39 := eq_true p39
                                      replace q39 := eq_true q39
                                      have HP49 := Kd.R_putn HO206.out ((ji33) : Int) (Go.bits .or .u8 (rd y204 (ji33)) (ji38))
                                      rw [← Ny208.out] at HP49
                                      have HQ49 := Aside0.mk HP49
                                      clear HP49
                                      refine start_ (n := 11) (S := fun w' => w'.cell? ⟨go39, ((ji33)).toNat, none⟩ = some (.int .u8 (rd y204 (ji33)))) (ds := [10]) #[false, false, false, false, false, false, false, false, false, false, false] (by kernel_rfl) rfl rfl (hx207_0) (fun hHeld => ?_); refine with_tabW saucierlaw06_WordsBits.tab21 saucierlaw06_WordsBits.bits21 (fun HT_ HW_ => ?_)
                                      generalize w46.drew = w47 at HO_10 HO_38 HO206 HB GG39 HQ49 hf39_0 hx207_0 hx39_0 hHeld ⊢
                                      refine pure_ (i := 0) (N := some 72) (v := ?_) (a' := ?_) #[true, false, false, false, false, false, false, false, false, false, false] rfl rfl (any_of HT_.out (by kernel_rfl)) (fun _ _ _ h => h) (Or.inl ⟨by rfl, ?_⟩) ?_ ?_
                                      rotate_left
                                      · intro w'
                                        go_simp
                                        with_reducible rfl
                                      rotate_left
                                      · simp only [Act.put, List.setIfInBounds_toArray, List.set_cons_zero, List.set_cons_succ, i64_w, i32_w]
                                        rfl
                                      refine pure_ (i := 1) (N := some 73) (v := ?_) (a' := ?_) #[true, true, false, false, false, false, false, false, false, false, false] rfl rfl (any_of HT_.out (by kernel_rfl)) (fun _ _ _ h => h) (Or.inl ⟨by rfl, ?_⟩) ?_ ?_
                                      rotate_left
                                      · intro w'
                                        go_simp
                                        with_reducible rfl
                                      rotate_left
                                      · simp only [Act.put, List.setIfInBounds_toArray, List.set_cons_zero, List.set_cons_succ, i64_w, i32_w]
                                        rfl
                                      refine pure_ (i := 2) (N := some 74) (v := ?_) (a' := ?_) #[true, true, true, false, false, false, false, false, false, false, false] rfl rfl (any_of HT_.out (by kernel_rfl)) (fun _ _ _ h => h) (Or.inl ⟨by rfl, ?_⟩) ?_ ?_
                                      rotate_left
                                      · intro w'
                                        go_simp
                                        with_reducible rfl
                                      rotate_left
                                      · simp only [Act.put, List.setIfInBounds_toArray, List.set_cons_zero, List.set_cons_succ, i64_w, i32_w]
                                        rfl
                                      refine pure_ (i := 3) (N := some 75) (v := ?_) (a' := ?_) #[true, true, true, true, false, false, false, false, false, false, false] rfl rfl (any_of HT_.out (by kernel_rfl)) (fun _ _ _ h => h) (Or.inl ⟨by rfl, ?_⟩) ?_ ?_
                                      rotate_left
                                      · intro w'
                                        go_simp
                                        with_reducible rfl
                                      rotate_left
                                      · simp only [Act.put, List.setIfInBounds_toArray, List.set_cons_zero, List.set_cons_succ, i64_w, i32_w]
                                        rfl
                                      refine pure_ (i := 5) (N := some 77) (v := ?_) (a' := ?_) #[true, true, true, true, false, true, false, false, false, false, false] rfl rfl (any_of HT_.out (by kernel_rfl)) (fun _ _ _ h => h) (Or.inl ⟨by rfl, ?_⟩) ?_ ?_
                                      rotate_left
                                      · intro w'
                                        go_simp
                                        with_reducible rfl
                                      rotate_left
                                      · simp only [Act.put, List.setIfInBounds_toArray, List.set_cons_zero, List.set_cons_succ, i64_w, i32_w]
                                        rfl
                                      refine pure_ (i := 6) (N := some 78) (v := ?_) (a' := ?_) #[true, true, true, true, false, true, true, false, false, false, false] rfl rfl (any_of HT_.out (by kernel_rfl)) (fun _ _ _ h => h) (Or.inl ⟨by rfl, ?_⟩) ?_ ?_
                                      rotate_left
                                      · intro w'
                                        go_simp
                                        with_reducible rfl
                                      rotate_left
                                      · simp only [Act.put, List.setIfInBounds_toArray, List.set_cons_zero, List.set_cons_succ, i64_w, i32_w]
                                        rfl
                                      refine pure_ (i := 7) (N := some 79) (v := ?_) (a' := ?_) #[true, true, true, true, false, true, true, true, false, false, false] rfl rfl (any_of HT_.out (by kernel_rfl)) (fun _ _ _ h => h) (Or.inl ⟨by rfl, ?_⟩) ?_ ?_
                                      rotate_left
                                      · intro w'
                                        go_simp
                                        with_reducible rfl
                                      rotate_left
                                      · simp only [Act.put, List.setIfInBounds_toArray, List.set_cons_zero, List.set_cons_succ, i64_w, i32_w]
                                        rfl
                                      refine take_ (i := 4) (N := some 76) (v := ?_) (a' := ?_) #[true, true, true, true, true, true, true, true, false, false, false] rfl rfl (take_ofW HT_.out HW_.out (by kernel_rfl)) (fun _ _ _ h => h) (Or.inl ⟨by rfl, ?_⟩) hHeld ?_ ?_
                                      rotate_left
                                      · intro w' s0
                                        go_simp
                                        with_reducible rfl
                                      rotate_left
                                      · simp only [Act.put, List.setIfInBounds_toArray, List.set_cons_zero, List.set_cons_succ, i64_w, i32_w]
                                        rfl
                                      refine pure_ (i := 8) (N := some 80) (v := ?_) (a' := ?_) #[true, true, true, true, true, true, true, true, true, false, false] rfl rfl (any_of HT_.out (by kernel_rfl)) (fun _ _ _ h => h) (Or.inl ⟨by rfl, ?_⟩) ?_ ?_
                                      rotate_left
                                      · intro w'
                                        go_simp
                                        with_reducible rfl
                                      rotate_left
                                      · simp only [Act.put, List.setIfInBounds_toArray, List.set_cons_zero, List.set_cons_succ, i64_w, i32_w]
                                        rfl
                                      refine pure_ (i := 9) (N := some 81) (v := ?_) (a' := ?_) #[true, true, true, true, true, true, true, true, true, true, false] rfl rfl (any_of HT_.out (by kernel_rfl)) (fun _ _ _ h => h) (Or.inl ⟨by rfl, ?_⟩) ?_ ?_
                                      rotate_left
                                      · intro w'
                                        go_simp
                                        with_reducible rfl
                                      rotate_left
                                      · simp only [Act.put, List.setIfInBounds_toArray, List.set_cons_zero, List.set_cons_succ, i64_w, i32_w]
                                        rfl
                                      refine last_ (i := 10) (N := none) #[true, true, true, true, true, true, true, true, true, true, true] rfl rfl (one_of HT_.out (by kernel_rfl)) (by decide) (fun K hK => ?_)
                                      refine skip_ (w1 := ?_) (by rfl) rfl ?_ ?_
                                      rotate_left
                                      · go_simp
                                        rfl
                                      refine hK.out _ _ ?_
                                      clear hK K
                                      refine done_ (done_of HT_.out (by kernel_rfl)) ?_
                                      try go_wp2_with (first | ((with_reducible refine gate_callee (f := 26) rfl ?_); refine goesL_ (some 84) rfl rfl Try.func26 (by kernel_rfl) rfl #[.slice (some ⟨go39, 0, none⟩) y208.length co48, .int .i64 ji5] rfl (by (try simp only [List.map_toArray, List.map_cons, List.map_nil]); first | done | (rw [show y208.length = y204.length from (Kd.R_reads' HQ49.out).1.symm] <;> rfl) | (simp only [hji5]; rfl) | rfl | (simp only [List.length_drop, List.length_take]; rfl)) ?_; (with_reducible refine (words_Bits.calls _ _ y208 ji5 t209 _ ?side1 ?side2 A40.out).mono ?_); (case side1 => refine (Kd.R_reads' (e := 5) (base := w.heap.size) (ok := fun k_ => (some k_ ≠ (.slice Ao19 t197.length co19 : Value).ownBlock ∧ some k_ ≠ (.slice Ao19 t197.length co19 : Value).ownBlock)) (n := y204.length) (c := co48) ?_).2.2; exact (by (with_reducible repeat (first | apply Kd.R_alloc | apply Kd.R_drewN | apply Kd.R_drew)); exact HQ49.out)); (case side2 => rw [show y208.length = y204.length from (Kd.R_reads' HQ49.out).1.symm]; exact (Kd.R_reads' HO206.out).2.1); rintro e w50 ⟨v210, rfl, ho0, hb⟩; refine ⟨_, rfl, ?_⟩; have n0_ := Aside0.mk (Kd.R_below (by (with_reducible repeat (first | apply Kd.R_alloc | apply Kd.R_drewN | apply Kd.R_drew)); exact (Kd.R_mono (Kd.R_far (p := ⟨go39, ((ji33) : Int).toNat, none⟩) (Kd.R_mono HO_10.out (fun k_ hk => (⟨hk, fun e_ => hk.2 (by rw [e_]; rfl)⟩ : _ ∧ k_ ≠ go39))) (fun _ hk => hk.2) (.int .u8 (Go.bits .or .u8 (rd y204 (ji33)) (ji38)))) (fun _ h_ => h_.1))) hb); have n1_ := Aside0.mk (Kd.R_below (by (with_reducible repeat (first | apply Kd.R_alloc | apply Kd.R_drewN | apply Kd.R_drew)); exact (Kd.R_mono (Kd.R_far (p := ⟨go39, ((ji33) : Int).toNat, none⟩) (Kd.R_mono HO_38.out (fun k_ hk => (⟨hk, fun e_ => hk.2 (by rw [e_]; rfl)⟩ : _ ∧ k_ ≠ go39))) (fun _ hk => hk.2) (.int .u8 (Go.bits .or .u8 (rd y204 (ji33)) (ji38)))) (fun _ h_ => h_.1))) hb); have n2_ := Aside0.mk (Kd.R_below (by (with_reducible repeat (first | apply Kd.R_alloc | apply Kd.R_drewN | apply Kd.R_drew)); exact HQ49.out) hb); have n3_ := Aside0.mk (Kd.V_lower (Kd.V_mono (ok' := fun k_ => some k_ ≠ (.slice Ao19 t197.length co19 : Value).ownBlock ∧ some k_ ≠ (.slice Ao19 t197.length co19 : Value).ownBlock ∧ some k_ ≠ (.slice (some ⟨go39, 0, none⟩) y204.length co48 : Value).ownBlock) (V_as ho0) (fun k_ hk_ => ⟨(Kd.fresh' (Kd.R_lt (by (with_reducible repeat (first | apply Kd.R_alloc | apply Kd.R_drewN | apply Kd.R_drew)); exact (Kd.R_mono (Kd.R_far (p := ⟨go39, ((ji33) : Int).toNat, none⟩) (Kd.R_mono HO_10.out (fun k_ hk => (⟨hk, fun e_ => hk.2 (by rw [e_]; rfl)⟩ : _ ∧ k_ ≠ go39))) (fun _ hk => hk.2) (.int .u8 (Go.bits .or .u8 (rd y204 (ji33)) (ji38)))) (fun _ h_ => h_.1)))) k_ hk_.2.1), (Kd.fresh' (Kd.R_lt (by (with_reducible repeat (first | apply Kd.R_alloc | apply Kd.R_drewN | apply Kd.R_drew)); exact (Kd.R_mono (Kd.R_far (p := ⟨go39, ((ji33) : Int).toNat, none⟩) (Kd.R_mono HO_38.out (fun k_ hk => (⟨hk, fun e_ => hk.2 (by rw [e_]; rfl)⟩ : _ ∧ k_ ≠ go39))) (fun _ hk => hk.2) (.int .u8 (Go.bits .or .u8 (rd y204 (ji33)) (ji38)))) (fun _ h_ => h_.1)))) k_ hk_.2.1), (Kd.fresh' (Kd.R_lt (by (with_reducible repeat (first | apply Kd.R_alloc | apply Kd.R_drewN | apply Kd.R_drew)); exact HQ49.out)) k_ hk_.2.1)⟩)) (below_size (by repeat (first | (with_reducible first | exact HB.out | apply below_alloc | apply pw_below_drewN | apply below_drew1 | refine below_set ?_ GB39.out) | exact HB.out)))); have n4_ := Aside0.mk (below_step (by repeat (first | (with_reducible first | exact HB.out | apply below_alloc | apply pw_below_drewN | apply below_drew1 | refine below_set ?_ GB39.out) | exact HB.out)) hb); clear HO_10; clear HO_38; clear HO206; clear HB; have HO_10 := n0_; have HO_38 := n1_; have HO206 := n2_; have HO211 := n3_; have HB := n4_; clear n0_ n1_ n2_ n3_ n4_; (try clear hb); (try clear hb2); (try clear hk); (try clear hi); (try clear ho0); obtain ⟨Ao51, co51, eo51⟩ := Kd.V_slice HO211.out; subst eo51) | (go_at_call 26; refine calls_of_args (args' := #[.slice (some ⟨go39, 0, none⟩) y208.length co48, .int .i64 (wrap64 ((wrap64 (ji5 + (Int.tmod (wrap64 (a2)) (wrap64 ((wrap64 (8 * (t197.length : Int))) - ji5))))) + 1))]) (by first | (rw [show y208.length = y204.length from (Kd.R_reads' HO206.out).1.symm] <;> rfl) | rfl) ?_; (with_reducible refine (words_Bits.calls _ _ y208 (wrap64 ((wrap64 (ji5 + (Int.tmod (wrap64 (a2)) (wrap64 ((wrap64 (8 * (t197.length : Int))) - ji5))))) + 1)) t212 _ ?side1 ?side2 A42.out).mono ?_); (case side1 => repeat (first | exact (Kd.R_reads' HO206.out).2.2 | (with_reducible refine Kd.C_alloc ?_ _) | (with_reducible refine Kd.C_drewN ?_ _) | (with_reducible refine Kd.C_drew ?_))); (case side2 => rw [show y208.length = y204.length from (Kd.R_reads' HO206.out).1.symm]; exact (Kd.R_reads' HO206.out).2.1); rintro e w52 ⟨v213, rfl, ho0, hb⟩; have n0_ := Aside0.mk (Kd.R_below (by (with_reducible repeat (first | apply Kd.R_alloc | apply Kd.R_drewN | apply Kd.R_drew)); exact HO_10.out) hb); have n1_ := Aside0.mk (Kd.R_below (by (with_reducible repeat (first | apply Kd.R_alloc | apply Kd.R_drewN | apply Kd.R_drew)); exact HO_38.out) hb); have n2_ := Aside0.mk (Kd.R_below (by (with_reducible repeat (first | apply Kd.R_alloc | apply Kd.R_drewN | apply Kd.R_drew)); exact HO206.out) hb); have n3_ := Aside0.mk (Kd.V_below (by (with_reducible repeat (first | apply Kd.V_alloc | apply Kd.V_drewN | apply Kd.V_drew)); exact HO211.out) hb); have n4_ := Aside0.mk (Kd.V_lower (Kd.V_mono (ok' := fun k_ => some k_ ≠ (.slice Ao19 t197.length co19 : Value).ownBlock ∧ some k_ ≠ (.slice Ao19 t197.length co19 : Value).ownBlock ∧ some k_ ≠ (.slice (some ⟨go39, 0, none⟩) y204.length co48 : Value).ownBlock) (V_as ho0) (fun k_ hk_ => ⟨(Kd.fresh' (Kd.R_lt (by (with_reducible repeat (first | apply Kd.R_alloc | apply Kd.R_drewN | apply Kd.R_drew)); exact HO_10.out)) k_ hk_.2.1), (Kd.fresh' (Kd.R_lt (by (with_reducible repeat (first | apply Kd.R_alloc | apply Kd.R_drewN | apply Kd.R_drew)); exact HO_38.out)) k_ hk_.2.1), (Kd.fresh' (Kd.R_lt (by (with_reducible repeat (first | apply Kd.R_alloc | apply Kd.R_drewN | apply Kd.R_drew)); exact HO206.out)) k_ hk_.2.1)⟩)) (below_size (by repeat (first | (with_reducible first | exact HB.out | apply below_alloc | apply pw_below_drewN | apply below_drew1) | exact HB.out)))); have n5_ := Aside0.mk (below_step (by repeat (first | (with_reducible first | exact HB.out | apply below_alloc | apply pw_below_drewN | apply below_drew1) | exact HB.out)) hb); clear HO_10; clear HO_38; clear HO206; clear HO211; clear HB; have HO_10 := n0_; have HO_38 := n1_; have HO206 := n2_; have HO211 := n3_; have HO214 := n4_; have HB := n5_; clear n0_ n1_ n2_ n3_ n4_ n5_; (try clear hb); (try clear hb2); (try clear hk); (try clear hi); (try clear ho0); obtain ⟨Ao53, co53, eo53⟩ := Kd.V_slice HO214.out; subst eo53))
                                      go_meet
                                      case rel => exact ⟨_, (t197), H', ⟨by have := HK1.out; first | omega | exact Nat.le_refl _⟩, ⟨by (with_reducible repeat (first | apply Kd.R_alloc | apply Kd.R_drewN | apply Kd.R_drew)); exact Kd.R_mono HO_10.out (fun _ hk => trivial)⟩, ⟨by repeat (first | (with_reducible first | exact HB.out | apply below_alloc | apply pw_below_drewN | apply below_drew1) | exact HB.out)⟩⟩
                                    · rw [if_neg c43] at H
                                      have c43b0 : ((t212.length : Int) == (wrap64 ((wrap64 (ji5 + (Int.tmod (wrap64 (a2)) (wrap64 ((wrap64 (8 * (t197.length : Int))) - ji5))))) + 1))) = false := beq_eq_false_iff_ne.mpr c43
                                      have c43b1 : ((t212.length : Int) != (wrap64 ((wrap64 (ji5 + (Int.tmod (wrap64 (a2)) (wrap64 ((wrap64 (8 * (t197.length : Int))) - ji5))))) + 1))) = true := bne_iff_ne.mpr c43
                                      obtain rfl := Option.some.inj H
                                      try go_wp2_with (first | ((with_reducible refine gate_dst (N := 63) rfl ?_); (try (refine gate_guard (by rfl) ?_; dsimp only)); refine Kd.R_lit (Kd.int .u8) _ 5 ?hg (N := 63) ?hd (xs := ([] : List Int)) (inner := []) (ok := fun _ => True) (okp := fun _ => True) ?hr ?hp (fun _ hk => hk) trivial (Below.refl _ _) (Nat.le_refl _) (by simp) ?_; (case hd => rfl); (case hg => rfl); (case hr => first | (go_simp; done) | (go_simp; rfl)); (case hp => exact (Reps.none _ _)); intro v202 w54 ho55 hb hg_ hnew_; clear hg_ hnew_; (first | rw [← Ny201.out] at ho55 | (simp only [Int.reduceToNat] at ho55; rw [← Ny201.out] at ho55)); have n0_ := Aside0.mk (Kd.R_elder' (by (with_reducible repeat (first | apply Kd.R_alloc | apply Kd.R_drewN | apply Kd.R_drew)); exact HO_10.out) (Kd.R_base ho55) hb); have n1_ := Aside0.mk (Kd.R_elder' (by (with_reducible repeat (first | apply Kd.R_alloc | apply Kd.R_drewN | apply Kd.R_drew)); exact HO_38.out) (Kd.R_base ho55) hb); have n2_ := Aside0.mk (Kd.R_lower (Kd.R_new' (Kd.R_new' ho55 (Kd.R_lt (by (with_reducible repeat (first | apply Kd.R_alloc | apply Kd.R_drewN | apply Kd.R_drew)); exact HO_10.out))) (Kd.R_lt (by (with_reducible repeat (first | apply Kd.R_alloc | apply Kd.R_drewN | apply Kd.R_drew)); exact HO_38.out))) (below_size (by repeat (first | (with_reducible first | exact HB.out | apply below_alloc | apply pw_below_drewN | apply below_drew1) | exact HB.out)))); have n3_ := Aside0.mk (below_step (by repeat (first | (with_reducible first | exact HB.out | apply below_alloc | apply pw_below_drewN | apply below_drew1) | exact HB.out)) hb); clear HO_10; clear HO_38; clear HB; have HO_10 := n0_; have HO_38 := n1_; have HO203 := n2_; have HB := n3_; clear n0_ n1_ n2_ n3_; clear hb ho55) | ((with_reducible refine gate_builtin (b := .append) (xs := #[.tmp 63, .tmp 64]) rfl ?_); (try (refine gate_guard (by rfl) ?_; dsimp only)); at_builtin; refine Kd.R_append_rows (Kd.int .u8) (w0 := w) w.heap.size rfl (.tmp 63) (.tmp 64) 22 5 (.int .u8 0) 1 rfl Try.underlying22 info5 rfl (by decide) (by omega) v202 y201 t197 _ _ _ (fun k_ => some k_ ≠ (.slice Ao19 t197.length co19 : Value).ownBlock ∧ some k_ ≠ (.slice Ao19 t197.length co19 : Value).ownBlock) (fun _ => False) rfl rfl ?aO ?aR (fun _ _ h => h) (fun _ h => h.elim) ?aF ?aB ?aS ?aL ?_; (case aR => repeat (first | exact (Kd.R_reads' HO_10.out).2.2 | (with_reducible refine Kd.C_alloc ?_ _) | (with_reducible refine Kd.C_drewN ?_ _) | (with_reducible refine Kd.C_drew ?_))); (case aB => exact (by repeat (first | (with_reducible first | exact HB.out | apply below_alloc | apply pw_below_drewN | apply below_drew1) | exact HB.out))); (case aF => exact (fun k_ hk => ⟨Kd.fresh' (Kd.R_lt (by (with_reducible repeat (first | apply Kd.R_alloc | apply Kd.R_drewN | apply Kd.R_drew)); exact HO_10.out)) k_ hk, Kd.fresh' (Kd.R_lt (by (with_reducible repeat (first | apply Kd.R_alloc | apply Kd.R_drewN | apply Kd.R_drew)); exact HO_38.out)) k_ hk⟩)); (case aO => exact (by (with_reducible repeat (first | apply Kd.R_alloc | apply Kd.R_drewN | apply Kd.R_drew)); exact Kd.R_mono HO203.out (fun _ hk => ⟨hk.1.2, hk.2⟩))); (case aS => exact (below_size (by repeat (first | (with_reducible first | exact HB.out | apply below_alloc | apply pw_below_drewN | apply below_drew1) | exact HB.out)))); (case aL => have := LMc31.out; omega); intro v205 w56 ho hb hg hat; rw [← Ny204.out] at ho; have n0_ := Aside0.mk (Kd.R_after (ok := (fun _ => True)) (by (with_reducible repeat (first | apply Kd.R_alloc | apply Kd.R_drewN | apply Kd.R_drew)); exact HO_10.out) hg hat); have n1_ := Aside0.mk (Kd.R_after (ok := (fun _ => True)) (by (with_reducible repeat (first | apply Kd.R_alloc | apply Kd.R_drewN | apply Kd.R_drew)); exact HO_38.out) hg hat); have n2_ := Aside0.mk (hb); have n3_ := Aside0.mk (ho); clear HO_10; clear HO_38; clear HB; clear HO203; have HO_10 := n0_; have HO_38 := n1_; have HB := n2_; have HO206 := n3_; clear n0_ n1_ n2_ n3_; clear ho hb hg hat))
                                      have n0_ := Aside0.mk (Kd.R_drew HO_10.out)
                                      have n1_ := Aside0.mk (Kd.R_drew HO_38.out)
                                      have n2_ := Aside0.mk (Kd.R_drew HO206.out)
                                      have n3_ := Aside0.mk (below_drew1 HB.out)
                                      clear HO_10
                                      clear HO_38
                                      clear HO206
                                      clear HB
                                      have HO_10 := n0_
                                      have HO_38 := n1_
                                      have HO206 := n2_
                                      have HB := n3_
                                      clear n0_ n1_ n2_ n3_
                                      obtain ⟨Ao58, co58, eo58⟩ := Kd.R_slice HO206.out
                                      (first | subst eo58 | (injection eo58 with f1_ f2_ f3_; have f4_ := f1_.symm; have f5_ := f3_.symm; clear f1_ f2_ f3_; subst f4_; subst f5_))
                                      have p207 : 0 ≤ ((ji33) : Int) := of_decide_eq_true (by first | (with_reducible assumption) | assumption)
                                      have q207 : (ji33) < (y204.length : Int) := of_decide_eq_true (by first | (with_reducible assumption) | assumption)
                                      obtain ⟨ad207, e207, hx207_0⟩ := Kd.at_int (Kd.R_reads' HO206.out).2.2 (ji33) p207 q207
                                      cases e207
                                      replace p207 := eq_true p207
                                      replace q207 := eq_true q207
                                      have p39 : 0 ≤ ((ji33) : Int) := of_decide_eq_true (by first | (with_reducible assumption) | assumption)
                                      have q39 : ((ji33) : Int) < ((y204.length : Int) : Int) := of_decide_eq_true (by first | (with_reducible assumption) | assumption)
                                      obtain ⟨go39, co39, eo39, gb39, gl39, cl39, HG39⟩ := Kd.R_form HO206.out (by omega)
                                      (first | cases eo39 | (injection eo39 with ea_ en_ ec_; (first | subst ea_ | (injection ea_ with ea_; subst ea_)); subst ec_; clear en_))
                                      have GB39 := Aside0.mk gb39
                                      have GG39 := Aside0.mk HG39
                                      clear gb39 gl39 HG39
                                      (first | simp only [add_plain] at hx207_0 | skip)
                                      obtain ⟨hx39_0, hf39_0⟩ := Kd.R_celln 0 HO206.out ((ji33) : Int) p39 q39
                                      replace p39 := eq_true p39
                                      replace q39 := eq_true q39
                                      have HP59 := Kd.R_putn HO206.out ((ji33) : Int) (Go.bits .or .u8 (rd y204 (ji33)) (ji38))
                                      rw [← Ny208.out] at HP59
                                      have HQ59 := Aside0.mk HP59
                                      clear HP59
                                      refine start_ (n := 11) (S := fun w' => w'.cell? ⟨go39, ((ji33)).toNat, none⟩ = some (.int .u8 (rd y204 (ji33)))) (ds := [10]) #[false, false, false, false, false, false, false, false, false, false, false] (by kernel_rfl) rfl rfl (hx207_0) (fun hHeld => ?_); refine with_tabW saucierlaw06_WordsBits.tab21 saucierlaw06_WordsBits.bits21 (fun HT_ HW_ => ?_)
                                      generalize w56.drew = w57 at HO_10 HO_38 HO206 HB GG39 HQ59 hf39_0 hx207_0 hx39_0 hHeld ⊢
                                      refine pure_ (i := 0) (N := some 72) (v := ?_) (a' := ?_) #[true, false, false, false, false, false, false, false, false, false, false] rfl rfl (any_of HT_.out (by kernel_rfl)) (fun _ _ _ h => h) (Or.inl ⟨by rfl, ?_⟩) ?_ ?_
                                      rotate_left
                                      · intro w'
                                        go_simp
                                        with_reducible rfl
                                      rotate_left
                                      · simp only [Act.put, List.setIfInBounds_toArray, List.set_cons_zero, List.set_cons_succ, i64_w, i32_w]
                                        rfl
                                      refine pure_ (i := 1) (N := some 73) (v := ?_) (a' := ?_) #[true, true, false, false, false, false, false, false, false, false, false] rfl rfl (any_of HT_.out (by kernel_rfl)) (fun _ _ _ h => h) (Or.inl ⟨by rfl, ?_⟩) ?_ ?_
                                      rotate_left
                                      · intro w'
                                        go_simp
                                        with_reducible rfl
                                      rotate_left
                                      · simp only [Act.put, List.setIfInBounds_toArray, List.set_cons_zero, List.set_cons_succ, i64_w, i32_w]
                                        rfl
                                      refine pure_ (i := 2) (N := some 74) (v := ?_) (a' := ?_) #[true, true, true, false, false, false, false, false, false, false, false] rfl rfl (any_of HT_.out (by kernel_rfl)) (fun _ _ _ h => h) (Or.inl ⟨by rfl, ?_⟩) ?_ ?_
                                      rotate_left
                                      · intro w'
                                        go_simp
                                        with_reducible rfl
                                      rotate_left
                                      · simp only [Act.put, List.setIfInBounds_toArray, List.set_cons_zero, List.set_cons_succ, i64_w, i32_w]
                                        rfl
                                      refine pure_ (i := 3) (N := some 75) (v := ?_) (a' := ?_) #[true, true, true, true, false, false, false, false, false, false, false] rfl rfl (any_of HT_.out (by kernel_rfl)) (fun _ _ _ h => h) (Or.inl ⟨by rfl, ?_⟩) ?_ ?_
                                      rotate_left
                                      · intro w'
                                        go_simp
                                        with_reducible rfl
                                      rotate_left
                                      · simp only [Act.put, List.setIfInBounds_toArray, List.set_cons_zero, List.set_cons_succ, i64_w, i32_w]
                                        rfl
                                      refine pure_ (i := 5) (N := some 77) (v := ?_) (a' := ?_) #[true, true, true, true, false, true, false, false, false, false, false] rfl rfl (any_of HT_.out (by kernel_rfl)) (fun _ _ _ h => h) (Or.inl ⟨by rfl, ?_⟩) ?_ ?_
                                      rotate_left
                                      · intro w'
                                        go_simp
                                        with_reducible rfl
                                      rotate_left
                                      · simp only [Act.put, List.setIfInBounds_toArray, List.set_cons_zero, List.set_cons_succ, i64_w, i32_w]
                                        rfl
                                      refine pure_ (i := 6) (N := some 78) (v := ?_) (a' := ?_) #[true, true, true, true, false, true, true, false, false, false, false] rfl rfl (any_of HT_.out (by kernel_rfl)) (fun _ _ _ h => h) (Or.inl ⟨by rfl, ?_⟩) ?_ ?_
                                      rotate_left
                                      · intro w'
                                        go_simp
                                        with_reducible rfl
                                      rotate_left
                                      · simp only [Act.put, List.setIfInBounds_toArray, List.set_cons_zero, List.set_cons_succ, i64_w, i32_w]
                                        rfl
                                      refine pure_ (i := 7) (N := some 79) (v := ?_) (a' := ?_) #[true, true, true, true, false, true, true, true, false, false, false] rfl rfl (any_of HT_.out (by kernel_rfl)) (fun _ _ _ h => h) (Or.inl ⟨by rfl, ?_⟩) ?_ ?_
                                      rotate_left
                                      · intro w'
                                        go_simp
                                        with_reducible rfl
                                      rotate_left
                                      · simp only [Act.put, List.setIfInBounds_toArray, List.set_cons_zero, List.set_cons_succ, i64_w, i32_w]
                                        rfl
                                      refine take_ (i := 4) (N := some 76) (v := ?_) (a' := ?_) #[true, true, true, true, true, true, true, true, false, false, false] rfl rfl (take_ofW HT_.out HW_.out (by kernel_rfl)) (fun _ _ _ h => h) (Or.inl ⟨by rfl, ?_⟩) hHeld ?_ ?_
                                      rotate_left
                                      · intro w' s0
                                        go_simp
                                        with_reducible rfl
                                      rotate_left
                                      · simp only [Act.put, List.setIfInBounds_toArray, List.set_cons_zero, List.set_cons_succ, i64_w, i32_w]
                                        rfl
                                      refine pure_ (i := 8) (N := some 80) (v := ?_) (a' := ?_) #[true, true, true, true, true, true, true, true, true, false, false] rfl rfl (any_of HT_.out (by kernel_rfl)) (fun _ _ _ h => h) (Or.inl ⟨by rfl, ?_⟩) ?_ ?_
                                      rotate_left
                                      · intro w'
                                        go_simp
                                        with_reducible rfl
                                      rotate_left
                                      · simp only [Act.put, List.setIfInBounds_toArray, List.set_cons_zero, List.set_cons_succ, i64_w, i32_w]
                                        rfl
                                      refine pure_ (i := 9) (N := some 81) (v := ?_) (a' := ?_) #[true, true, true, true, true, true, true, true, true, true, false] rfl rfl (any_of HT_.out (by kernel_rfl)) (fun _ _ _ h => h) (Or.inl ⟨by rfl, ?_⟩) ?_ ?_
                                      rotate_left
                                      · intro w'
                                        go_simp
                                        with_reducible rfl
                                      rotate_left
                                      · simp only [Act.put, List.setIfInBounds_toArray, List.set_cons_zero, List.set_cons_succ, i64_w, i32_w]
                                        rfl
                                      refine last_ (i := 10) (N := none) #[true, true, true, true, true, true, true, true, true, true, true] rfl rfl (one_of HT_.out (by kernel_rfl)) (by decide) (fun K hK => ?_)
                                      refine skip_ (w1 := ?_) (by rfl) rfl ?_ ?_
                                      rotate_left
                                      · go_simp
                                        rfl
                                      refine hK.out _ _ ?_
                                      clear hK K
                                      refine done_ (done_of HT_.out (by kernel_rfl)) ?_
                                      try go_wp2_with (first | ((with_reducible refine gate_callee (f := 26) rfl ?_); refine goesL_ (some 84) rfl rfl Try.func26 (by kernel_rfl) rfl #[.slice (some ⟨go39, 0, none⟩) y208.length co58, .int .i64 ji5] rfl (by (try simp only [List.map_toArray, List.map_cons, List.map_nil]); first | done | (rw [show y208.length = y204.length from (Kd.R_reads' HQ59.out).1.symm] <;> rfl) | (simp only [hji5]; rfl) | rfl | (simp only [List.length_drop, List.length_take]; rfl)) ?_; (with_reducible refine (words_Bits.calls _ _ y208 ji5 t209 _ ?side1 ?side2 A40.out).mono ?_); (case side1 => refine (Kd.R_reads' (e := 5) (base := w.heap.size) (ok := fun k_ => (some k_ ≠ (.slice Ao19 t197.length co19 : Value).ownBlock ∧ some k_ ≠ (.slice Ao19 t197.length co19 : Value).ownBlock)) (n := y204.length) (c := co58) ?_).2.2; exact (by (with_reducible repeat (first | apply Kd.R_alloc | apply Kd.R_drewN | apply Kd.R_drew)); exact HQ59.out)); (case side2 => rw [show y208.length = y204.length from (Kd.R_reads' HQ59.out).1.symm]; exact (Kd.R_reads' HO206.out).2.1); rintro e w60 ⟨v210, rfl, ho0, hb⟩; refine ⟨_, rfl, ?_⟩; have n0_ := Aside0.mk (Kd.R_below (by (with_reducible repeat (first | apply Kd.R_alloc | apply Kd.R_drewN | apply Kd.R_drew)); exact (Kd.R_mono (Kd.R_far (p := ⟨go39, ((ji33) : Int).toNat, none⟩) (Kd.R_mono HO_10.out (fun k_ hk => (⟨hk, fun e_ => hk.2 (by rw [e_]; rfl)⟩ : _ ∧ k_ ≠ go39))) (fun _ hk => hk.2) (.int .u8 (Go.bits .or .u8 (rd y204 (ji33)) (ji38)))) (fun _ h_ => h_.1))) hb); have n1_ := Aside0.mk (Kd.R_below (by (with_reducible repeat (first | apply Kd.R_alloc | apply Kd.R_drewN | apply Kd.R_drew)); exact (Kd.R_mono (Kd.R_far (p := ⟨go39, ((ji33) : Int).toNat, none⟩) (Kd.R_mono HO_38.out (fun k_ hk => (⟨hk, fun e_ => hk.2 (by rw [e_]; rfl)⟩ : _ ∧ k_ ≠ go39))) (fun _ hk => hk.2) (.int .u8 (Go.bits .or .u8 (rd y204 (ji33)) (ji38)))) (fun _ h_ => h_.1))) hb); have n2_ := Aside0.mk (Kd.R_below (by (with_reducible repeat (first | apply Kd.R_alloc | apply Kd.R_drewN | apply Kd.R_drew)); exact HQ59.out) hb); have n3_ := Aside0.mk (Kd.V_lower (Kd.V_mono (ok' := fun k_ => some k_ ≠ (.slice Ao19 t197.length co19 : Value).ownBlock ∧ some k_ ≠ (.slice Ao19 t197.length co19 : Value).ownBlock ∧ some k_ ≠ (.slice (some ⟨go39, 0, none⟩) y204.length co58 : Value).ownBlock) (V_as ho0) (fun k_ hk_ => ⟨(Kd.fresh' (Kd.R_lt (by (with_reducible repeat (first | apply Kd.R_alloc | apply Kd.R_drewN | apply Kd.R_drew)); exact (Kd.R_mono (Kd.R_far (p := ⟨go39, ((ji33) : Int).toNat, none⟩) (Kd.R_mono HO_10.out (fun k_ hk => (⟨hk, fun e_ => hk.2 (by rw [e_]; rfl)⟩ : _ ∧ k_ ≠ go39))) (fun _ hk => hk.2) (.int .u8 (Go.bits .or .u8 (rd y204 (ji33)) (ji38)))) (fun _ h_ => h_.1)))) k_ hk_.2.1), (Kd.fresh' (Kd.R_lt (by (with_reducible repeat (first | apply Kd.R_alloc | apply Kd.R_drewN | apply Kd.R_drew)); exact (Kd.R_mono (Kd.R_far (p := ⟨go39, ((ji33) : Int).toNat, none⟩) (Kd.R_mono HO_38.out (fun k_ hk => (⟨hk, fun e_ => hk.2 (by rw [e_]; rfl)⟩ : _ ∧ k_ ≠ go39))) (fun _ hk => hk.2) (.int .u8 (Go.bits .or .u8 (rd y204 (ji33)) (ji38)))) (fun _ h_ => h_.1)))) k_ hk_.2.1), (Kd.fresh' (Kd.R_lt (by (with_reducible repeat (first | apply Kd.R_alloc | apply Kd.R_drewN | apply Kd.R_drew)); exact HQ59.out)) k_ hk_.2.1)⟩)) (below_size (by repeat (first | (with_reducible first | exact HB.out | apply below_alloc | apply pw_below_drewN | apply below_drew1 | refine below_set ?_ GB39.out) | exact HB.out)))); have n4_ := Aside0.mk (below_step (by repeat (first | (with_reducible first | exact HB.out | apply below_alloc | apply pw_below_drewN | apply below_drew1 | refine below_set ?_ GB39.out) | exact HB.out)) hb); clear HO_10; clear HO_38; clear HO206; clear HB; have HO_10 := n0_; have HO_38 := n1_; have HO206 := n2_; have HO211 := n3_; have HB := n4_; clear n0_ n1_ n2_ n3_ n4_; (try clear hb); (try clear hb2); (try clear hk); (try clear hi); (try clear ho0); obtain ⟨Ao61, co61, eo61⟩ := Kd.V_slice HO211.out; subst eo61) | (go_at_call 26; refine calls_of_args (args' := #[.slice (some ⟨go39, 0, none⟩) y208.length co58, .int .i64 (wrap64 ((wrap64 (ji5 + (Int.tmod (wrap64 (a2)) (wrap64 ((wrap64 (8 * (t197.length : Int))) - ji5))))) + 1))]) (by first | (rw [show y208.length = y204.length from (Kd.R_reads' HO206.out).1.symm] <;> rfl) | rfl) ?_; (with_reducible refine (words_Bits.calls _ _ y208 (wrap64 ((wrap64 (ji5 + (Int.tmod (wrap64 (a2)) (wrap64 ((wrap64 (8 * (t197.length : Int))) - ji5))))) + 1)) t212 _ ?side1 ?side2 A42.out).mono ?_); (case side1 => repeat (first | exact (Kd.R_reads' HO206.out).2.2 | (with_reducible refine Kd.C_alloc ?_ _) | (with_reducible refine Kd.C_drewN ?_ _) | (with_reducible refine Kd.C_drew ?_))); (case side2 => rw [show y208.length = y204.length from (Kd.R_reads' HO206.out).1.symm]; exact (Kd.R_reads' HO206.out).2.1); rintro e w62 ⟨v213, rfl, ho0, hb⟩; have n0_ := Aside0.mk (Kd.R_below (by (with_reducible repeat (first | apply Kd.R_alloc | apply Kd.R_drewN | apply Kd.R_drew)); exact HO_10.out) hb); have n1_ := Aside0.mk (Kd.R_below (by (with_reducible repeat (first | apply Kd.R_alloc | apply Kd.R_drewN | apply Kd.R_drew)); exact HO_38.out) hb); have n2_ := Aside0.mk (Kd.R_below (by (with_reducible repeat (first | apply Kd.R_alloc | apply Kd.R_drewN | apply Kd.R_drew)); exact HO206.out) hb); have n3_ := Aside0.mk (Kd.V_below (by (with_reducible repeat (first | apply Kd.V_alloc | apply Kd.V_drewN | apply Kd.V_drew)); exact HO211.out) hb); have n4_ := Aside0.mk (Kd.V_lower (Kd.V_mono (ok' := fun k_ => some k_ ≠ (.slice Ao19 t197.length co19 : Value).ownBlock ∧ some k_ ≠ (.slice Ao19 t197.length co19 : Value).ownBlock ∧ some k_ ≠ (.slice (some ⟨go39, 0, none⟩) y204.length co58 : Value).ownBlock) (V_as ho0) (fun k_ hk_ => ⟨(Kd.fresh' (Kd.R_lt (by (with_reducible repeat (first | apply Kd.R_alloc | apply Kd.R_drewN | apply Kd.R_drew)); exact HO_10.out)) k_ hk_.2.1), (Kd.fresh' (Kd.R_lt (by (with_reducible repeat (first | apply Kd.R_alloc | apply Kd.R_drewN | apply Kd.R_drew)); exact HO_38.out)) k_ hk_.2.1), (Kd.fresh' (Kd.R_lt (by (with_reducible repeat (first | apply Kd.R_alloc | apply Kd.R_drewN | apply Kd.R_drew)); exact HO206.out)) k_ hk_.2.1)⟩)) (below_size (by repeat (first | (with_reducible first | exact HB.out | apply below_alloc | apply pw_below_drewN | apply below_drew1) | exact HB.out)))); have n5_ := Aside0.mk (below_step (by repeat (first | (with_reducible first | exact HB.out | apply below_alloc | apply pw_below_drewN | apply below_drew1) | exact HB.out)) hb); clear HO_10; clear HO_38; clear HO206; clear HO211; clear HB; have HO_10 := n0_; have HO_38 := n1_; have HO206 := n2_; have HO211 := n3_; have HO214 := n4_; have HB := n5_; clear n0_ n1_ n2_ n3_ n4_ n5_; (try clear hb); (try clear hb2); (try clear hk); (try clear hi); (try clear ho0); obtain ⟨Ao63, co63, eo63⟩ := Kd.V_slice HO214.out; subst eo63))
                                      go_ret
                                      exact ⟨by first | rfl | (simp [errW_none, errW_some] <;> rfl) | (simp only [← hji5, ← hji8, ← hji33, ← hji36, ← hji38]; first | rfl | (simp [errW_none, errW_some] <;> rfl)) | (simp [*, errW_none, errW_some] <;> rfl), by repeat (first | (with_reducible first | exact HB.out | apply below_alloc | apply pw_below_drewN | apply below_drew1) | exact HB.out)⟩
                                  · rw [if_neg c41] at H
                                    have c41b0 : ((t209.length : Int) == 0) = false := beq_eq_false_iff_ne.mpr c41
                                    have c41b1 : ((t209.length : Int) != 0) = true := bne_iff_ne.mpr c41
                                    have c41b2 : ¬ (t209 = []) := fun h_ => c41 (by rw [h_]; rfl)
                                    obtain rfl := Option.some.inj H
                                    try go_wp2_with (first | ((with_reducible refine gate_dst (N := 63) rfl ?_); (try (refine gate_guard (by rfl) ?_; dsimp only)); refine Kd.R_lit (Kd.int .u8) _ 5 ?hg (N := 63) ?hd (xs := ([] : List Int)) (inner := []) (ok := fun _ => True) (okp := fun _ => True) ?hr ?hp (fun _ hk => hk) trivial (Below.refl _ _) (Nat.le_refl _) (by simp) ?_; (case hd => rfl); (case hg => rfl); (case hr => first | (go_simp; done) | (go_simp; rfl)); (case hp => exact (Reps.none _ _)); intro v202 w64 ho65 hb hg_ hnew_; clear hg_ hnew_; (first | rw [← Ny201.out] at ho65 | (simp only [Int.reduceToNat] at ho65; rw [← Ny201.out] at ho65)); have n0_ := Aside0.mk (Kd.R_elder' (by (with_reducible repeat (first | apply Kd.R_alloc | apply Kd.R_drewN | apply Kd.R_drew)); exact HO_10.out) (Kd.R_base ho65) hb); have n1_ := Aside0.mk (Kd.R_elder' (by (with_reducible repeat (first | apply Kd.R_alloc | apply Kd.R_drewN | apply Kd.R_drew)); exact HO_38.out) (Kd.R_base ho65) hb); have n2_ := Aside0.mk (Kd.R_lower (Kd.R_new' (Kd.R_new' ho65 (Kd.R_lt (by (with_reducible repeat (first | apply Kd.R_alloc | apply Kd.R_drewN | apply Kd.R_drew)); exact HO_10.out))) (Kd.R_lt (by (with_reducible repeat (first | apply Kd.R_alloc | apply Kd.R_drewN | apply Kd.R_drew)); exact HO_38.out))) (below_size (by repeat (first | (with_reducible first | exact HB.out | apply below_alloc | apply pw_below_drewN | apply below_drew1) | exact HB.out)))); have n3_ := Aside0.mk (below_step (by repeat (first | (with_reducible first | exact HB.out | apply below_alloc | apply pw_below_drewN | apply below_drew1) | exact HB.out)) hb); clear HO_10; clear HO_38; clear HB; have HO_10 := n0_; have HO_38 := n1_; have HO203 := n2_; have HB := n3_; clear n0_ n1_ n2_ n3_; clear hb ho65) | ((with_reducible refine gate_builtin (b := .append) (xs := #[.tmp 63, .tmp 64]) rfl ?_); (try (refine gate_guard (by rfl) ?_; dsimp only)); at_builtin; refine Kd.R_append_rows (Kd.int .u8) (w0 := w) w.heap.size rfl (.tmp 63) (.tmp 64) 22 5 (.int .u8 0) 1 rfl Try.underlying22 info5 rfl (by decide) (by omega) v202 y201 t197 _ _ _ (fun k_ => some k_ ≠ (.slice Ao19 t197.length co19 : Value).ownBlock ∧ some k_ ≠ (.slice Ao19 t197.length co19 : Value).ownBlock) (fun _ => False) rfl rfl ?aO ?aR (fun _ _ h => h) (fun _ h => h.elim) ?aF ?aB ?aS ?aL ?_; (case aR => repeat (first | exact (Kd.R_reads' HO_10.out).2.2 | (with_reducible refine Kd.C_alloc ?_ _) | (with_reducible refine Kd.C_drewN ?_ _) | (with_reducible refine Kd.C_drew ?_))); (case aB => exact (by repeat (first | (with_reducible first | exact HB.out | apply below_alloc | apply pw_below_drewN | apply below_drew1) | exact HB.out))); (case aF => exact (fun k_ hk => ⟨Kd.fresh' (Kd.R_lt (by (with_reducible repeat (first | apply Kd.R_alloc | apply Kd.R_drewN | apply Kd.R_drew)); exact HO_10.out)) k_ hk, Kd.fresh' (Kd.R_lt (by (with_reducible repeat (first | apply Kd.R_alloc | apply Kd.R_drewN | apply Kd.R_drew)); exact HO_38.out)) k_ hk⟩)); (case aO => exact (by (with_reducible repeat (first | apply Kd.R_alloc | apply Kd.R_drewN | apply Kd.R_drew)); exact Kd.R_mono HO203.out (fun _ hk => ⟨hk.1.2, hk.2⟩))); (case aS => exact (below_size (by repeat (first | (with_reducible first | exact HB.out | apply below_alloc | apply pw_below_drewN | apply below_drew1) | exact HB.out)))); (case aL => have := LMc31.out; omega); intro v205 w66 ho hb hg hat; rw [← Ny204.out] at ho; have n0_ := Aside0.mk (Kd.R_after (ok := (fun _ => True)) (by (with_reducible repeat (first | apply Kd.R_alloc | apply Kd.R_drewN | apply Kd.R_drew)); exact HO_10.out) hg hat); have n1_ := Aside0.mk (Kd.R_after (ok := (fun _ => True)) (by (with_reducible repeat (first | apply Kd.R_alloc | apply Kd.R_drewN | apply Kd.R_drew)); exact HO_38.out) hg hat); have n2_ := Aside0.mk (hb); have n3_ := Aside0.mk (ho); clear HO_10; clear HO_38; clear HB; clear HO203; have HO_10 := n0_; have HO_38 := n1_; have HB := n2_; have HO206 := n3_; clear n0_ n1_ n2_ n3_; clear ho hb hg hat))
                                    have n0_ := Aside0.mk (Kd.R_drew HO_10.out)
                                    have n1_ := Aside0.mk (Kd.R_drew HO_38.out)
                                    have n2_ := Aside0.mk (Kd.R_drew HO206.out)
                                    have n3_ := Aside0.mk (below_drew1 HB.out)
                                    clear HO_10
                                    clear HO_38
                                    clear HO206
                                    clear HB
                                    have HO_10 := n0_
                                    have HO_38 := n1_
                                    have HO206 := n2_
                                    have HB := n3_
                                    clear n0_ n1_ n2_ n3_
                                    obtain ⟨Ao68, co68, eo68⟩ := Kd.R_slice HO206.out
                                    (first | subst eo68 | (injection eo68 with f1_ f2_ f3_; have f4_ := f1_.symm; have f5_ := f3_.symm; clear f1_ f2_ f3_; subst f4_; subst f5_))
                                    have p207 : 0 ≤ ((ji33) : Int) := of_decide_eq_true (by first | (with_reducible assumption) | assumption)
                                    have q207 : (ji33) < (y204.length : Int) := of_decide_eq_true (by first | (with_reducible assumption) | assumption)
                                    obtain ⟨ad207, e207, hx207_0⟩ := Kd.at_int (Kd.R_reads' HO206.out).2.2 (ji33) p207 q207
                                    cases e207
                                    replace p207 := eq_true p207
                                    replace q207 := eq_true q207
                                    have p39 : 0 ≤ ((ji33) : Int) := of_decide_eq_true (by first | (with_reducible assumption) | assumption)
                                    have q39 : ((ji33) : Int) < ((y204.length : Int) : Int) := of_decide_eq_true (by first | (with_reducible assumption) | assumption)
                                    obtain ⟨go39, co39, eo39, gb39, gl39, cl39, HG39⟩ := Kd.R_form HO206.out (by omega)
                                    (first | cases eo39 | (injection eo39 with ea_ en_ ec_; (first | subst ea_ | (injection ea_ with ea_; subst ea_)); subst ec_; clear en_))
                                    have GB39 := Aside0.mk gb39
                                    have GG39 := Aside0.mk HG39
                                    clear gb39 gl39 HG39
                                    (first | simp only [add_plain] at hx207_0 | skip)
                                    obtain ⟨hx39_0, hf39_0⟩ := Kd.R_celln 0 HO206.out ((ji33) : Int) p39 q39
                                    replace p39 := eq_true p39
                                    replace q39 := eq_true q39
                                    have HP69 := Kd.R_putn HO206.out ((ji33) : Int) (Go.bits .or .u8 (rd y204 (ji33)) (ji38))
                                    rw [← Ny208.out] at HP69
                                    have HQ69 := Aside0.mk HP69
                                    clear HP69
                                    refine start_ (n := 11) (S := fun w' => w'.cell? ⟨go39, ((ji33)).toNat, none⟩ = some (.int .u8 (rd y204 (ji33)))) (ds := [10]) #[false, false, false, false, false, false, false, false, false, false, false] (by kernel_rfl) rfl rfl (hx207_0) (fun hHeld => ?_); refine with_tabW saucierlaw06_WordsBits.tab21 saucierlaw06_WordsBits.bits21 (fun HT_ HW_ => ?_)
                                    generalize w66.drew = w67 at HO_10 HO_38 HO206 HB GG39 HQ69 hf39_0 hx207_0 hx39_0 hHeld ⊢
                                    refine pure_ (i := 0) (N := some 72) (v := ?_) (a' := ?_) #[true, false, false, false, false, false, false, false, false, false, false] rfl rfl (any_of HT_.out (by kernel_rfl)) (fun _ _ _ h => h) (Or.inl ⟨by rfl, ?_⟩) ?_ ?_
                                    rotate_left
                                    · intro w'
                                      go_simp
                                      with_reducible rfl
                                    rotate_left
                                    · simp only [Act.put, List.setIfInBounds_toArray, List.set_cons_zero, List.set_cons_succ, i64_w, i32_w]
                                      rfl
                                    refine pure_ (i := 1) (N := some 73) (v := ?_) (a' := ?_) #[true, true, false, false, false, false, false, false, false, false, false] rfl rfl (any_of HT_.out (by kernel_rfl)) (fun _ _ _ h => h) (Or.inl ⟨by rfl, ?_⟩) ?_ ?_
                                    rotate_left
                                    · intro w'
                                      go_simp
                                      with_reducible rfl
                                    rotate_left
                                    · simp only [Act.put, List.setIfInBounds_toArray, List.set_cons_zero, List.set_cons_succ, i64_w, i32_w]
                                      rfl
                                    refine pure_ (i := 2) (N := some 74) (v := ?_) (a' := ?_) #[true, true, true, false, false, false, false, false, false, false, false] rfl rfl (any_of HT_.out (by kernel_rfl)) (fun _ _ _ h => h) (Or.inl ⟨by rfl, ?_⟩) ?_ ?_
                                    rotate_left
                                    · intro w'
                                      go_simp
                                      with_reducible rfl
                                    rotate_left
                                    · simp only [Act.put, List.setIfInBounds_toArray, List.set_cons_zero, List.set_cons_succ, i64_w, i32_w]
                                      rfl
                                    refine pure_ (i := 3) (N := some 75) (v := ?_) (a' := ?_) #[true, true, true, true, false, false, false, false, false, false, false] rfl rfl (any_of HT_.out (by kernel_rfl)) (fun _ _ _ h => h) (Or.inl ⟨by rfl, ?_⟩) ?_ ?_
                                    rotate_left
                                    · intro w'
                                      go_simp
                                      with_reducible rfl
                                    rotate_left
                                    · simp only [Act.put, List.setIfInBounds_toArray, List.set_cons_zero, List.set_cons_succ, i64_w, i32_w]
                                      rfl
                                    refine pure_ (i := 5) (N := some 77) (v := ?_) (a' := ?_) #[true, true, true, true, false, true, false, false, false, false, false] rfl rfl (any_of HT_.out (by kernel_rfl)) (fun _ _ _ h => h) (Or.inl ⟨by rfl, ?_⟩) ?_ ?_
                                    rotate_left
                                    · intro w'
                                      go_simp
                                      with_reducible rfl
                                    rotate_left
                                    · simp only [Act.put, List.setIfInBounds_toArray, List.set_cons_zero, List.set_cons_succ, i64_w, i32_w]
                                      rfl
                                    refine pure_ (i := 6) (N := some 78) (v := ?_) (a' := ?_) #[true, true, true, true, false, true, true, false, false, false, false] rfl rfl (any_of HT_.out (by kernel_rfl)) (fun _ _ _ h => h) (Or.inl ⟨by rfl, ?_⟩) ?_ ?_
                                    rotate_left
                                    · intro w'
                                      go_simp
                                      with_reducible rfl
                                    rotate_left
                                    · simp only [Act.put, List.setIfInBounds_toArray, List.set_cons_zero, List.set_cons_succ, i64_w, i32_w]
                                      rfl
                                    refine pure_ (i := 7) (N := some 79) (v := ?_) (a' := ?_) #[true, true, true, true, false, true, true, true, false, false, false] rfl rfl (any_of HT_.out (by kernel_rfl)) (fun _ _ _ h => h) (Or.inl ⟨by rfl, ?_⟩) ?_ ?_
                                    rotate_left
                                    · intro w'
                                      go_simp
                                      with_reducible rfl
                                    rotate_left
                                    · simp only [Act.put, List.setIfInBounds_toArray, List.set_cons_zero, List.set_cons_succ, i64_w, i32_w]
                                      rfl
                                    refine take_ (i := 4) (N := some 76) (v := ?_) (a' := ?_) #[true, true, true, true, true, true, true, true, false, false, false] rfl rfl (take_ofW HT_.out HW_.out (by kernel_rfl)) (fun _ _ _ h => h) (Or.inl ⟨by rfl, ?_⟩) hHeld ?_ ?_
                                    rotate_left
                                    · intro w' s0
                                      go_simp
                                      with_reducible rfl
                                    rotate_left
                                    · simp only [Act.put, List.setIfInBounds_toArray, List.set_cons_zero, List.set_cons_succ, i64_w, i32_w]
                                      rfl
                                    refine pure_ (i := 8) (N := some 80) (v := ?_) (a' := ?_) #[true, true, true, true, true, true, true, true, true, false, false] rfl rfl (any_of HT_.out (by kernel_rfl)) (fun _ _ _ h => h) (Or.inl ⟨by rfl, ?_⟩) ?_ ?_
                                    rotate_left
                                    · intro w'
                                      go_simp
                                      with_reducible rfl
                                    rotate_left
                                    · simp only [Act.put, List.setIfInBounds_toArray, List.set_cons_zero, List.set_cons_succ, i64_w, i32_w]
                                      rfl
                                    refine pure_ (i := 9) (N := some 81) (v := ?_) (a' := ?_) #[true, true, true, true, true, true, true, true, true, true, false] rfl rfl (any_of HT_.out (by kernel_rfl)) (fun _ _ _ h => h) (Or.inl ⟨by rfl, ?_⟩) ?_ ?_
                                    rotate_left
                                    · intro w'
                                      go_simp
                                      with_reducible rfl
                                    rotate_left
                                    · simp only [Act.put, List.setIfInBounds_toArray, List.set_cons_zero, List.set_cons_succ, i64_w, i32_w]
                                      rfl
                                    refine last_ (i := 10) (N := none) #[true, true, true, true, true, true, true, true, true, true, true] rfl rfl (one_of HT_.out (by kernel_rfl)) (by decide) (fun K hK => ?_)
                                    refine skip_ (w1 := ?_) (by rfl) rfl ?_ ?_
                                    rotate_left
                                    · go_simp
                                      rfl
                                    refine hK.out _ _ ?_
                                    clear hK K
                                    refine done_ (done_of HT_.out (by kernel_rfl)) ?_
                                    try go_wp2_with (first | ((with_reducible refine gate_callee (f := 26) rfl ?_); refine goesL_ (some 84) rfl rfl Try.func26 (by kernel_rfl) rfl #[.slice (some ⟨go39, 0, none⟩) y208.length co68, .int .i64 ji5] rfl (by (try simp only [List.map_toArray, List.map_cons, List.map_nil]); first | done | (rw [show y208.length = y204.length from (Kd.R_reads' HQ69.out).1.symm] <;> rfl) | (simp only [hji5]; rfl) | rfl | (simp only [List.length_drop, List.length_take]; rfl)) ?_; (with_reducible refine (words_Bits.calls _ _ y208 ji5 t209 _ ?side1 ?side2 A40.out).mono ?_); (case side1 => refine (Kd.R_reads' (e := 5) (base := w.heap.size) (ok := fun k_ => (some k_ ≠ (.slice Ao19 t197.length co19 : Value).ownBlock ∧ some k_ ≠ (.slice Ao19 t197.length co19 : Value).ownBlock)) (n := y204.length) (c := co68) ?_).2.2; exact (by (with_reducible repeat (first | apply Kd.R_alloc | apply Kd.R_drewN | apply Kd.R_drew)); exact HQ69.out)); (case side2 => rw [show y208.length = y204.length from (Kd.R_reads' HQ69.out).1.symm]; exact (Kd.R_reads' HO206.out).2.1); rintro e w70 ⟨v210, rfl, ho0, hb⟩; refine ⟨_, rfl, ?_⟩; have n0_ := Aside0.mk (Kd.R_below (by (with_reducible repeat (first | apply Kd.R_alloc | apply Kd.R_drewN | apply Kd.R_drew)); exact (Kd.R_mono (Kd.R_far (p := ⟨go39, ((ji33) : Int).toNat, none⟩) (Kd.R_mono HO_10.out (fun k_ hk => (⟨hk, fun e_ => hk.2 (by rw [e_]; rfl)⟩ : _ ∧ k_ ≠ go39))) (fun _ hk => hk.2) (.int .u8 (Go.bits .or .u8 (rd y204 (ji33)) (ji38)))) (fun _ h_ => h_.1))) hb); have n1_ := Aside0.mk (Kd.R_below (by (with_reducible repeat (first | apply Kd.R_alloc | apply Kd.R_drewN | apply Kd.R_drew)); exact (Kd.R_mono (Kd.R_far (p := ⟨go39, ((ji33) : Int).toNat, none⟩) (Kd.R_mono HO_38.out (fun k_ hk => (⟨hk, fun e_ => hk.2 (by rw [e_]; rfl)⟩ : _ ∧ k_ ≠ go39))) (fun _ hk => hk.2) (.int .u8 (Go.bits .or .u8 (rd y204 (ji33)) (ji38)))) (fun _ h_ => h_.1))) hb); have n2_ := Aside0.mk (Kd.R_below (by (with_reducible repeat (first | apply Kd.R_alloc | apply Kd.R_drewN | apply Kd.R_drew)); exact HQ69.out) hb); have n3_ := Aside0.mk (Kd.V_lower (Kd.V_mono (ok' := fun k_ => some k_ ≠ (.slice Ao19 t197.length co19 : Value).ownBlock ∧ some k_ ≠ (.slice Ao19 t197.length co19 : Value).ownBlock ∧ some k_ ≠ (.slice (some ⟨go39, 0, none⟩) y204.length co68 : Value).ownBlock) (V_as ho0) (fun k_ hk_ => ⟨(Kd.fresh' (Kd.R_lt (by (with_reducible repeat (first | apply Kd.R_alloc | apply Kd.R_drewN | apply Kd.R_drew)); exact (Kd.R_mono (Kd.R_far (p := ⟨go39, ((ji33) : Int).toNat, none⟩) (Kd.R_mono HO_10.out (fun k_ hk => (⟨hk, fun e_ => hk.2 (by rw [e_]; rfl)⟩ : _ ∧ k_ ≠ go39))) (fun _ hk => hk.2) (.int .u8 (Go.bits .or .u8 (rd y204 (ji33)) (ji38)))) (fun _ h_ => h_.1)))) k_ hk_.2.1), (Kd.fresh' (Kd.R_lt (by (with_reducible repeat (first | apply Kd.R_alloc | apply Kd.R_drewN | apply Kd.R_drew)); exact (Kd.R_mono (Kd.R_far (p := ⟨go39, ((ji33) : Int).toNat, none⟩) (Kd.R_mono HO_38.out (fun k_ hk => (⟨hk, fun e_ => hk.2 (by rw [e_]; rfl)⟩ : _ ∧ k_ ≠ go39))) (fun _ hk => hk.2) (.int .u8 (Go.bits .or .u8 (rd y204 (ji33)) (ji38)))) (fun _ h_ => h_.1)))) k_ hk_.2.1), (Kd.fresh' (Kd.R_lt (by (with_reducible repeat (first | apply Kd.R_alloc | apply Kd.R_drewN | apply Kd.R_drew)); exact HQ69.out)) k_ hk_.2.1)⟩)) (below_size (by repeat (first | (with_reducible first | exact HB.out | apply below_alloc | apply pw_below_drewN | apply below_drew1 | refine below_set ?_ GB39.out) | exact HB.out)))); have n4_ := Aside0.mk (below_step (by repeat (first | (with_reducible first | exact HB.out | apply below_alloc | apply pw_below_drewN | apply below_drew1 | refine below_set ?_ GB39.out) | exact HB.out)) hb); clear HO_10; clear HO_38; clear HO206; clear HB; have HO_10 := n0_; have HO_38 := n1_; have HO206 := n2_; have HO211 := n3_; have HB := n4_; clear n0_ n1_ n2_ n3_ n4_; (try clear hb); (try clear hb2); (try clear hk); (try clear hi); (try clear ho0); obtain ⟨Ao71, co71, eo71⟩ := Kd.V_slice HO211.out; subst eo71))
                                    go_ret
                                    exact ⟨by first | rfl | (simp [errW_none, errW_some] <;> rfl) | (simp only [← hji5, ← hji8, ← hji33, ← hji36, ← hji38]; first | rfl | (simp [errW_none, errW_some] <;> rfl)) | (simp [*, errW_none, errW_some] <;> rfl), by repeat (first | (with_reducible first | exact HB.out | apply below_alloc | apply pw_below_drewN | apply below_drew1) | exact HB.out)⟩
                                · rw [if_neg c37] at H
                                  exact absurd H (by simp)
                              · rw [if_neg c35] at H
                                exact absurd H (by simp)
                            · rw [if_neg c34] at H
                              exact absurd H (by simp)
                        · rw [if_neg c31] at H
                          exact absurd H (by simp)
                      · rw [if_neg c30] at H
                        have c30b0 : decide (0 < (wrap64 ((wrap64 (8 * (t197.length : Int))) - ji5))) = false := decide_eq_false c30
                        clear c30
                        (first | rw [c30b0] | (simp only [i64_w, i32_w]; rw [c30b0]) | skip)
                        have H' := Aside0.mk H
                        clear H
                        go_wp2
                        go_meet
                        case rel => exact ⟨_, (t197), H', ⟨by have := HK1.out; first | omega | exact Nat.le_refl _⟩, ⟨by (with_reducible repeat (first | apply Kd.R_alloc | apply Kd.R_drewN | apply Kd.R_drew)); exact HO_10.out⟩, ⟨by repeat (first | (with_reducible first | exact HB.out | apply below_alloc | apply pw_below_drewN | apply below_drew1) | exact HB.out)⟩⟩
                    case rest =>
                      clear HC29
                      try clear c1
                      try clear p1
                      try clear q1
                      try clear hx1
                      try clear c2
                      try clear p2
                      try clear q2
                      try clear hx2
                      try clear c3
                      try clear p3
                      try clear q3
                      try clear hx3
                      try clear hf3
                      try clear c4
                      try clear c4b0
                      try clear c4b1
                      try clear c6
                      try clear c6b0
                      try clear c6b1
                      try clear p6
                      try clear c7
                      try clear c7b0
                      try clear c7b1
                      try clear c9
                      try clear c9b0
                      try clear c10
                      try clear c10b0
                      try clear p11
                      try clear q11
                      try clear hx11
                      try clear hf11
                      try clear c13
                      try clear c13b0
                      try clear c13b1
                      try clear c20
                      try clear c20b0
                      try clear p20
                      try clear q20
                      try clear hx20
                      try clear c21
                      try clear c21b0
                      try clear c22
                      try clear c22b0
                      try clear c24
                      try clear c24b0
                      try clear c24b1
                      try clear c26
                      try clear c26b0
                      try clear c26b1
                      try clear c28
                      try clear c28b0
                      try clear c28b1
                      try clear c30
                      try clear c30b0
                      try clear c31
                      try clear c32
                      try clear c32b0
                      try clear c32b1
                      try clear c34
                      try clear c34b0
                      try clear c35
                      try clear c35b0
                      try clear c37
                      try clear c37b0
                      try clear c37b1
                      try clear p39
                      try clear q39
                      try clear hx39
                      try clear hf39
                      try clear c41
                      try clear c41b0
                      try clear c41b1
                      try clear c41b2
                      try clear c43
                      try clear c43b0
                      try clear c43b1
                      try clear p64
                      try clear hx11_0
                      try clear hx200_0
                      try clear hx207_0
                      try clear hx39_0
                      try clear p1
                      try clear p11
                      try clear p2
                      try clear p20
                      try clear p200
                      try clear p207
                      try clear p39
                      try clear p6
                      try clear q1
                      try clear q11
                      try clear q2
                      try clear q20
                      try clear q200
                      try clear q207
                      try clear q39
                      obtain ⟨kq, x10_28, HA, HJ28, HO_10, HB⟩ := hcut
                      have hl10_28 := (Kd.R_reads' HO_10.out).1
                      rw [hl10_28] at HO_10
                      (try simp only [hl10_28])
                      cases kq with
                      | zero => exact absurd HA.out (by simp [saucierlaw06_WordsBits.j2])
                      | succ kj28 =>
                        have H := HA.out
                        clear HA
                        simp only [saucierlaw06_WordsBits.j2] at H
                        by_cases c72 : x10_28.length < 140737488355328
                        · rw [if_pos c72] at H
                          have LMc72 := Aside0.mk c72
                          clear c72
                          obtain ⟨y215, hy215⟩ : ∃ y_ : List Int, y_ = (x10_28 ++ [0]) := ⟨_, rfl⟩
                          replace H : ((words_Bits.f y215 ji5).bind fun t218 => (if (t218.length : Int) = 0 then ((words_Bits.f x10_28 (-1)).bind fun t221 => (if (t221.length : Int) = 0 then ((saucierlaw06_awake.f).bind fun t224 => (some t224)) else (some false))) else (some false))) = some r := by first | (rw [hy215]; with_reducible exact H) | (have H2_ := (Option.bind_some _ _).symm.trans H; rw [hy215]; with_reducible exact H2_) | (have H2_ := (Option.bind_some _ _).symm.trans H; with_reducible exact H2_) | with_reducible exact H | (rw [hy215]; exact H) | exact H
                          have Ny215 := Aside0.mk hy215
                          clear hy215
                          replace H := Option.bind_eq_some_iff.mp H
                          obtain ⟨t218, A730, H⟩ := H
                          replace H : (if (t218.length : Int) = 0 then ((words_Bits.f x10_28 (-1)).bind fun t221 => (if (t221.length : Int) = 0 then ((saucierlaw06_awake.f).bind fun t224 => (some t224)) else (some false))) else (some false)) = some r := H
                          have A73 := Aside0.mk A730
                          clear A730
                          by_cases c74 : (t218.length : Int) = 0
                          · rw [if_pos c74] at H
                            have c74b0 : ((t218.length : Int) == 0) = true := beq_iff_eq.mpr c74
                            have c74b1 : ((t218.length : Int) != 0) = false := bne_eq_false_iff_eq.mpr c74
                            clear c74
                            replace H := Option.bind_eq_some_iff.mp H
                            obtain ⟨t221, A750, H⟩ := H
                            replace H : (if (t221.length : Int) = 0 then ((saucierlaw06_awake.f).bind fun t224 => (some t224)) else (some false)) = some r := H
                            have A75 := Aside0.mk A750
                            clear A750
                            by_cases c76 : (t221.length : Int) = 0
                            · rw [if_pos c76] at H
                              have c76b0 : ((t221.length : Int) == 0) = true := beq_iff_eq.mpr c76
                              have c76b1 : ((t221.length : Int) != 0) = false := bne_eq_false_iff_eq.mpr c76
                              clear c76
                              replace H := Option.bind_eq_some_iff.mp H
                              obtain ⟨t224, A770, H⟩ := H
                              replace H : (some t224) = some r := H
                              have A77 := Aside0.mk A770
                              clear A770
                              obtain rfl := Option.some.inj H
                              go_wp2_with (first | ((with_reducible refine gate_builtin (b := .append) (xs := #[.tmp 97, .tmp 98]) rfl ?_); (try (refine gate_guard (by rfl) ?_; dsimp only)); at_builtin; refine R_append_keep (Kd.int .u8) (w0 := w) w.heap.size rfl (.tmp 97) (.tmp 98) 22 5 (.int .u8 0) 1 rfl Try.underlying22 info5 rfl (by decide) (by omega) (.slice Ao19 x10_28.length co19) x10_28 0 [.int .u8 0] (fun _ => True) (fun _ => False) rfl rfl ?aP (fun _ hk => hk.elim) ?aF ?aO ?aB ?aS ?aL ?_; (case aP => exact rfl); (case aB => exact (by repeat (first | (with_reducible first | exact HB.out | apply below_alloc | apply pw_below_drewN | apply below_drew1) | exact HB.out))); (case aF => exact (fun _ _ => trivial)); (case aO => exact (by (with_reducible repeat (first | apply Kd.R_alloc | apply Kd.R_drewN | apply Kd.R_drew)); exact HO_10.out)); (case aS => exact (below_size (by repeat (first | (with_reducible first | exact HB.out | apply below_alloc | apply pw_below_drewN | apply below_drew1) | exact HB.out)))); (case aL => have := LMc72.out; omega); intro v216 w78 ho hkeep hb hg hat; have HK10 := Aside0.mk (hkeep _ _ _ rfl); clear hkeep; have HKc := Aside0.mk (Kd.R_reads' HO_10.out).2.1; rw [← Ny215.out] at ho; have n0_ := Aside0.mk (hb); have n1_ := Aside0.mk (ho); clear HB; clear HO_10; have HB := n0_; have HO217 := n1_; clear n0_ n1_; clear ho hb hg hat; obtain ⟨Ao79, co79, eo79⟩ := Kd.R_slice HO217.out; subst eo79) | ((with_reducible refine gate_callee (f := 26) rfl ?_); refine goesL_ (some 101) rfl rfl Try.func26 (by kernel_rfl) rfl #[.slice Ao79 y215.length co79, .int .i64 ji5] rfl (by (try simp only [List.map_toArray, List.map_cons, List.map_nil]); first | done | (simp only [hji5]; rfl) | rfl | (simp only [List.length_drop, List.length_take]; rfl)) ?_; (with_reducible refine (words_Bits.calls _ _ y215 ji5 t218 _ ?side1 ?side2 A73.out).mono ?_); (case side1 => repeat (first | exact (Kd.R_reads' HO217.out).2.2 | (with_reducible refine Kd.C_alloc ?_ _) | (with_reducible refine Kd.C_drewN ?_ _) | (with_reducible refine Kd.C_drew ?_))); (case side2 => exact (Kd.R_reads' HO217.out).2.1); rintro e w80 ⟨v219, rfl, ho0, hb⟩; refine ⟨_, rfl, ?_⟩; have HK10' := Aside0.mk (Kd.C_below (by repeat (first | exact HK10.out | (with_reducible refine Kd.C_alloc ?_ _) | (with_reducible refine Kd.C_drewN ?_ _) | (with_reducible refine Kd.C_drew ?_))) hb); clear HK10; have HK10 := HK10'; clear HK10'; have n0_ := Aside0.mk (Kd.R_below (by (with_reducible repeat (first | apply Kd.R_alloc | apply Kd.R_drewN | apply Kd.R_drew)); exact HO217.out) hb); have n1_ := Aside0.mk (Kd.V_lower (Kd.V_mono (ok' := fun k_ => some k_ ≠ (.slice Ao79 y215.length co79 : Value).ownBlock) (V_as ho0) (fun k_ hk_ => (Kd.fresh' (Kd.R_lt (by (with_reducible repeat (first | apply Kd.R_alloc | apply Kd.R_drewN | apply Kd.R_drew)); exact HO217.out)) k_ hk_.2.1))) (below_size (by repeat (first | (with_reducible first | exact HB.out | apply below_alloc | apply pw_below_drewN | apply below_drew1) | exact HB.out)))); have n2_ := Aside0.mk (below_step (by repeat (first | (with_reducible first | exact HB.out | apply below_alloc | apply pw_below_drewN | apply below_drew1) | exact HB.out)) hb); clear HO217; clear HB; have HO217 := n0_; have HO220 := n1_; have HB := n2_; clear n0_ n1_ n2_; (try clear hb); (try clear hb2); (try clear hk); (try clear hi); (try clear ho0); obtain ⟨Ao81, co81, eo81⟩ := Kd.V_slice HO220.out; subst eo81) | (go_at_call 26; (with_reducible refine (words_Bits.calls _ _ x10_28 (-1) t221 _ ?side1 ?side2 A75.out).mono ?_); (case side1 => repeat (first | exact HK10.out | (with_reducible refine Kd.C_alloc ?_ _) | (with_reducible refine Kd.C_drewN ?_ _) | (with_reducible refine Kd.C_drew ?_))); (case side2 => exact HKc.out); rintro e w82 ⟨v222, rfl, ho0, hb⟩; have n0_ := Aside0.mk (Kd.R_below (by (with_reducible repeat (first | apply Kd.R_alloc | apply Kd.R_drewN | apply Kd.R_drew)); exact HO217.out) hb); have n1_ := Aside0.mk (Kd.V_below (by (with_reducible repeat (first | apply Kd.V_alloc | apply Kd.V_drewN | apply Kd.V_drew)); exact HO220.out) hb); have n2_ := Aside0.mk (Kd.V_lower (Kd.V_mono (ok' := fun k_ => some k_ ≠ (.slice Ao79 y215.length co79 : Value).ownBlock) (V_as ho0) (fun k_ hk_ => (Kd.fresh' (Kd.R_lt (by (with_reducible repeat (first | apply Kd.R_alloc | apply Kd.R_drewN | apply Kd.R_drew)); exact HO217.out)) k_ hk_.2.1))) (below_size (by repeat (first | (with_reducible first | exact HB.out | apply below_alloc | apply pw_below_drewN | apply below_drew1) | exact HB.out)))); have n3_ := Aside0.mk (below_step (by repeat (first | (with_reducible first | exact HB.out | apply below_alloc | apply pw_below_drewN | apply below_drew1) | exact HB.out)) hb); clear HO217; clear HO220; clear HB; have HO217 := n0_; have HO220 := n1_; have HO223 := n2_; have HB := n3_; clear n0_ n1_ n2_ n3_; (try clear hb); (try clear hb2); (try clear hk); (try clear hi); (try clear ho0); obtain ⟨Ao83, co83, eo83⟩ := Kd.V_slice HO223.out; subst eo83) | (go_at_call 22; (with_reducible refine (saucierlaw06_awake.calls  t224 _ A77.out).mono ?_); rintro e w84 ⟨rfl, hb⟩; have n0_ := Aside0.mk (Kd.R_below (by (with_reducible repeat (first | apply Kd.R_alloc | apply Kd.R_drewN | apply Kd.R_drew)); exact HO217.out) hb); have n1_ := Aside0.mk (Kd.V_below (by (with_reducible repeat (first | apply Kd.V_alloc | apply Kd.V_drewN | apply Kd.V_drew)); exact HO220.out) hb); have n2_ := Aside0.mk (Kd.V_below (by (with_reducible repeat (first | apply Kd.V_alloc | apply Kd.V_drewN | apply Kd.V_drew)); exact HO223.out) hb); have n3_ := Aside0.mk (below_step (by repeat (first | (with_reducible first | exact HB.out | apply below_alloc | apply pw_below_drewN | apply below_drew1) | exact HB.out)) hb); clear HO217; clear HO220; clear HO223; clear HB; have HO217 := n0_; have HO220 := n1_; have HO223 := n2_; have HB := n3_; clear n0_ n1_ n2_ n3_; (try clear hb); (try clear hb2); (try clear hk); (try clear hi)))
                              go_ret
                              exact ⟨by first | rfl | (simp [errW_none, errW_some] <;> rfl) | (simp only [← hji5, ← hji8]; first | rfl | (simp [errW_none, errW_some] <;> rfl)) | (simp [*, errW_none, errW_some] <;> rfl), by repeat (first | (with_reducible first | exact HB.out | apply below_alloc | apply pw_below_drewN | apply below_drew1) | exact HB.out)⟩
                            · rw [if_neg c76] at H
                              have c76b0 : ((t221.length : Int) == 0) = false := beq_eq_false_iff_ne.mpr c76
                              have c76b1 : ((t221.length : Int) != 0) = true := bne_iff_ne.mpr c76
                              have c76b2 : ¬ (t221 = []) := fun h_ => c76 (by rw [h_]; rfl)
                              obtain rfl := Option.some.inj H
                              go_wp2_with (first | ((with_reducible refine gate_builtin (b := .append) (xs := #[.tmp 97, .tmp 98]) rfl ?_); (try (refine gate_guard (by rfl) ?_; dsimp only)); at_builtin; refine R_append_keep (Kd.int .u8) (w0 := w) w.heap.size rfl (.tmp 97) (.tmp 98) 22 5 (.int .u8 0) 1 rfl Try.underlying22 info5 rfl (by decide) (by omega) (.slice Ao19 x10_28.length co19) x10_28 0 [.int .u8 0] (fun _ => True) (fun _ => False) rfl rfl ?aP (fun _ hk => hk.elim) ?aF ?aO ?aB ?aS ?aL ?_; (case aP => exact rfl); (case aB => exact (by repeat (first | (with_reducible first | exact HB.out | apply below_alloc | apply pw_below_drewN | apply below_drew1) | exact HB.out))); (case aF => exact (fun _ _ => trivial)); (case aO => exact (by (with_reducible repeat (first | apply Kd.R_alloc | apply Kd.R_drewN | apply Kd.R_drew)); exact HO_10.out)); (case aS => exact (below_size (by repeat (first | (with_reducible first | exact HB.out | apply below_alloc | apply pw_below_drewN | apply below_drew1) | exact HB.out)))); (case aL => have := LMc72.out; omega); intro v216 w85 ho hkeep hb hg hat; have HK10 := Aside0.mk (hkeep _ _ _ rfl); clear hkeep; have HKc := Aside0.mk (Kd.R_reads' HO_10.out).2.1; rw [← Ny215.out] at ho; have n0_ := Aside0.mk (hb); have n1_ := Aside0.mk (ho); clear HB; clear HO_10; have HB := n0_; have HO217 := n1_; clear n0_ n1_; clear ho hb hg hat; obtain ⟨Ao86, co86, eo86⟩ := Kd.R_slice HO217.out; subst eo86) | ((with_reducible refine gate_callee (f := 26) rfl ?_); refine goesL_ (some 101) rfl rfl Try.func26 (by kernel_rfl) rfl #[.slice Ao86 y215.length co86, .int .i64 ji5] rfl (by (try simp only [List.map_toArray, List.map_cons, List.map_nil]); first | done | (simp only [hji5]; rfl) | rfl | (simp only [List.length_drop, List.length_take]; rfl)) ?_; (with_reducible refine (words_Bits.calls _ _ y215 ji5 t218 _ ?side1 ?side2 A73.out).mono ?_); (case side1 => repeat (first | exact (Kd.R_reads' HO217.out).2.2 | (with_reducible refine Kd.C_alloc ?_ _) | (with_reducible refine Kd.C_drewN ?_ _) | (with_reducible refine Kd.C_drew ?_))); (case side2 => exact (Kd.R_reads' HO217.out).2.1); rintro e w87 ⟨v219, rfl, ho0, hb⟩; refine ⟨_, rfl, ?_⟩; have HK10' := Aside0.mk (Kd.C_below (by repeat (first | exact HK10.out | (with_reducible refine Kd.C_alloc ?_ _) | (with_reducible refine Kd.C_drewN ?_ _) | (with_reducible refine Kd.C_drew ?_))) hb); clear HK10; have HK10 := HK10'; clear HK10'; have n0_ := Aside0.mk (Kd.R_below (by (with_reducible repeat (first | apply Kd.R_alloc | apply Kd.R_drewN | apply Kd.R_drew)); exact HO217.out) hb); have n1_ := Aside0.mk (Kd.V_lower (Kd.V_mono (ok' := fun k_ => some k_ ≠ (.slice Ao86 y215.length co86 : Value).ownBlock) (V_as ho0) (fun k_ hk_ => (Kd.fresh' (Kd.R_lt (by (with_reducible repeat (first | apply Kd.R_alloc | apply Kd.R_drewN | apply Kd.R_drew)); exact HO217.out)) k_ hk_.2.1))) (below_size (by repeat (first | (with_reducible first | exact HB.out | apply below_alloc | apply pw_below_drewN | apply below_drew1) | exact HB.out)))); have n2_ := Aside0.mk (below_step (by repeat (first | (with_reducible first | exact HB.out | apply below_alloc | apply pw_below_drewN | apply below_drew1) | exact HB.out)) hb); clear HO217; clear HB; have HO217 := n0_; have HO220 := n1_; have HB := n2_; clear n0_ n1_ n2_; (try clear hb); (try clear hb2); (try clear hk); (try clear hi); (try clear ho0); obtain ⟨Ao88, co88, eo88⟩ := Kd.V_slice HO220.out; subst eo88) | (go_at_call 26; (with_reducible refine (words_Bits.calls _ _ x10_28 (-1) t221 _ ?side1 ?side2 A75.out).mono ?_); (case side1 => repeat (first | exact HK10.out | (with_reducible refine Kd.C_alloc ?_ _) | (with_reducible refine Kd.C_drewN ?_ _) | (with_reducible refine Kd.C_drew ?_))); (case side2 => exact HKc.out); rintro e w89 ⟨v222, rfl, ho0, hb⟩; have n0_ := Aside0.mk (Kd.R_below (by (with_reducible repeat (first | apply Kd.R_alloc | apply Kd.R_drewN | apply Kd.R_drew)); exact HO217.out) hb); have n1_ := Aside0.mk (Kd.V_below (by (with_reducible repeat (first | apply Kd.V_alloc | apply Kd.V_drewN | apply Kd.V_drew)); exact HO220.out) hb); have n2_ := Aside0.mk (Kd.V_lower (Kd.V_mono (ok' := fun k_ => some k_ ≠ (.slice Ao86 y215.length co86 : Value).ownBlock) (V_as ho0) (fun k_ hk_ => (Kd.fresh' (Kd.R_lt (by (with_reducible repeat (first | apply Kd.R_alloc | apply Kd.R_drewN | apply Kd.R_drew)); exact HO217.out)) k_ hk_.2.1))) (below_size (by repeat (first | (with_reducible first | exact HB.out | apply below_alloc | apply pw_below_drewN | apply below_drew1) | exact HB.out)))); have n3_ := Aside0.mk (below_step (by repeat (first | (with_reducible first | exact HB.out | apply below_alloc | apply pw_below_drewN | apply below_drew1) | exact HB.out)) hb); clear HO217; clear HO220; clear HB; have HO217 := n0_; have HO220 := n1_; have HO223 := n2_; have HB := n3_; clear n0_ n1_ n2_ n3_; (try clear hb); (try clear hb2); (try clear hk); (try clear hi); (try clear ho0); obtain ⟨Ao90, co90, eo90⟩ := Kd.V_slice HO223.out; subst eo90))
                              go_ret
                              exact ⟨by first | rfl | (simp [errW_none, errW_some] <;> rfl) | (simp only [← hji5, ← hji8]; first | rfl | (simp [errW_none, errW_some] <;> rfl)) | (simp [*, errW_none, errW_some] <;> rfl), by repeat (first | (with_reducible first | exact HB.out | apply below_alloc | apply pw_below_drewN | apply below_drew1) | exact HB.out)⟩
                          · rw [if_neg c74] at H
                            have c74b0 : ((t218.length : Int) == 0) = false := beq_eq_false_iff_ne.mpr c74
                            have c74b1 : ((t218.length : Int) != 0) = true := bne_iff_ne.mpr c74
                            have c74b2 : ¬ (t218 = []) := fun h_ => c74 (by rw [h_]; rfl)
                            obtain rfl := Option.some.inj H
                            go_wp2_with (first | ((with_reducible refine gate_builtin (b := .append) (xs := #[.tmp 97, .tmp 98]) rfl ?_); (try (refine gate_guard (by rfl) ?_; dsimp only)); at_builtin; refine R_append_keep (Kd.int .u8) (w0 := w) w.heap.size rfl (.tmp 97) (.tmp 98) 22 5 (.int .u8 0) 1 rfl Try.underlying22 info5 rfl (by decide) (by omega) (.slice Ao19 x10_28.length co19) x10_28 0 [.int .u8 0] (fun _ => True) (fun _ => False) rfl rfl ?aP (fun _ hk => hk.elim) ?aF ?aO ?aB ?aS ?aL ?_; (case aP => exact rfl); (case aB => exact (by repeat (first | (with_reducible first | exact HB.out | apply below_alloc | apply pw_below_drewN | apply below_drew1) | exact HB.out))); (case aF => exact (fun _ _ => trivial)); (case aO => exact (by (with_reducible repeat (first | apply Kd.R_alloc | apply Kd.R_drewN | apply Kd.R_drew)); exact HO_10.out)); (case aS => exact (below_size (by repeat (first | (with_reducible first | exact HB.out | apply below_alloc | apply pw_below_drewN | apply below_drew1) | exact HB.out)))); (case aL => have := LMc72.out; omega); intro v216 w91 ho hkeep hb hg hat; have HK10 := Aside0.mk (hkeep _ _ _ rfl); clear hkeep; have HKc := Aside0.mk (Kd.R_reads' HO_10.out).2.1; rw [← Ny215.out] at ho; have n0_ := Aside0.mk (hb); have n1_ := Aside0.mk (ho); clear HB; clear HO_10; have HB := n0_; have HO217 := n1_; clear n0_ n1_; clear ho hb hg hat; obtain ⟨Ao92, co92, eo92⟩ := Kd.R_slice HO217.out; subst eo92) | ((with_reducible refine gate_callee (f := 26) rfl ?_); refine goesL_ (some 101) rfl rfl Try.func26 (by kernel_rfl) rfl #[.slice Ao92 y215.length co92, .int .i64 ji5] rfl (by (try simp only [List.map_toArray, List.map_cons, List.map_nil]); first | done | (simp only [hji5]; rfl) | rfl | (simp only [List.length_drop, List.length_take]; rfl)) ?_; (with_reducible refine (words_Bits.calls _ _ y215 ji5 t218 _ ?side1 ?side2 A73.out).mono ?_); (case side1 => repeat (first | exact (Kd.R_reads' HO217.out).2.2 | (with_reducible refine Kd.C_alloc ?_ _) | (with_reducible refine Kd.C_drewN ?_ _) | (with_reducible refine Kd.C_drew ?_))); (case side2 => exact (Kd.R_reads' HO217.out).2.1); rintro e w93 ⟨v219, rfl, ho0, hb⟩; refine ⟨_, rfl, ?_⟩; have HK10' := Aside0.mk (Kd.C_below (by repeat (first | exact HK10.out | (with_reducible refine Kd.C_alloc ?_ _) | (with_reducible refine Kd.C_drewN ?_ _) | (with_reducible refine Kd.C_drew ?_))) hb); clear HK10; have HK10 := HK10'; clear HK10'; have n0_ := Aside0.mk (Kd.R_below (by (with_reducible repeat (first | apply Kd.R_alloc | apply Kd.R_drewN | apply Kd.R_drew)); exact HO217.out) hb); have n1_ := Aside0.mk (Kd.V_lower (Kd.V_mono (ok' := fun k_ => some k_ ≠ (.slice Ao92 y215.length co92 : Value).ownBlock) (V_as ho0) (fun k_ hk_ => (Kd.fresh' (Kd.R_lt (by (with_reducible repeat (first | apply Kd.R_alloc | apply Kd.R_drewN | apply Kd.R_drew)); exact HO217.out)) k_ hk_.2.1))) (below_size (by repeat (first | (with_reducible first | exact HB.out | apply below_alloc | apply pw_below_drewN | apply below_drew1) | exact HB.out)))); have n2_ := Aside0.mk (below_step (by repeat (first | (with_reducible first | exact HB.out | apply below_alloc | apply pw_below_drewN | apply below_drew1) | exact HB.out)) hb); clear HO217; clear HB; have HO217 := n0_; have HO220 := n1_; have HB := n2_; clear n0_ n1_ n2_; (try clear hb); (try clear hb2); (try clear hk); (try clear hi); (try clear ho0); obtain ⟨Ao94, co94, eo94⟩ := Kd.V_slice HO220.out; subst eo94))
                            go_ret
                            exact ⟨by first | rfl | (simp [errW_none, errW_some] <;> rfl) | (simp only [← hji5, ← hji8]; first | rfl | (simp [errW_none, errW_some] <;> rfl)) | (simp [*, errW_none, errW_some] <;> rfl), by repeat (first | (with_reducible first | exact HB.out | apply below_alloc | apply pw_below_drewN | apply below_drew1) | exact HB.out)⟩
                        · rw [if_neg c72] at H
                          exact absurd H (by simp)
            · rw [if_neg c13] at H
              have c13b0 : ((t197.length : Int) == (wrap64 (Int.tdiv (wrap64 ((ji5) + 7)) 8))) = false := beq_eq_false_iff_ne.mpr c13
              have c13b1 : ((t197.length : Int) != (wrap64 (Int.tdiv (wrap64 ((ji5) + 7)) 8))) = true := bne_iff_ne.mpr c13
              obtain rfl := Option.some.inj H
              go_enter Try.func10, Try.ntmps10
              go_wp2_with (first | ((with_reducible refine gate_dst (N := 26) rfl ?_); (try (refine gate_guard (by rfl) ?_; dsimp only)); refine Kd.R_make Kd.bool _ 4 rfl (N := 26) rfl 39 _ _ rfl ji5 rfl rfl Try.underlying39 (.bool false) 1 info4 rfl (by decide) (by omega) false (ok := fun _ => True) (okp := fun _ => True) rfl (fun _ hk => hk) trivial (of_decide_eq_true (by first | (with_reducible assumption) | assumption)) (Nat.le_trans (Nat.mul_le_mul_right _ (of_decide_eq_true (by first | (with_reducible assumption) | assumption) : ji5.toNat ≤ 281474976710656)) (by omega)) (Below.refl _ _) (Nat.le_refl _) ?_; intro v194 w95 ho96 hb hg_ hnew_; clear hg_ hnew_; (first | rw [← Ny193.out] at ho96 | (simp only [Int.reduceToNat] at ho96; rw [← Ny193.out] at ho96)); have n0_ := Aside0.mk (Kd.R_lower ho96 (below_size (by repeat (first | (with_reducible first | exact HB.out | apply below_alloc | apply pw_below_drewN | apply below_drew1) | exact HB.out)))); have n1_ := Aside0.mk (below_step (by repeat (first | (with_reducible first | exact HB.out | apply below_alloc | apply pw_below_drewN | apply below_drew1) | exact HB.out)) hb); clear HB; have HO195 := n0_; have HB := n1_; clear n0_ n1_; clear hb ho96; have p11 : 0 ≤ ((ji8) : Int) := of_decide_eq_true (by first | (with_reducible assumption) | assumption); have q11 : ((ji8) : Int) < ((y193.length : Int) : Int) := of_decide_eq_true (by first | (with_reducible assumption) | assumption); obtain ⟨go11, co11, eo11, gb11, gl11, cl11, HG11⟩ := Kd.R_form HO195.out (by omega); (first | cases eo11 | (injection eo11 with ea_ en_ ec_; (first | subst ea_ | (injection ea_ with ea_; subst ea_)); subst ec_; clear en_)); have GB11 := Aside0.mk gb11; have GG11 := Aside0.mk HG11; clear gb11 gl11 HG11; obtain ⟨hx11_0, hf11_0⟩ := Kd.R_celln false HO195.out ((ji8) : Int) p11 q11; replace p11 := eq_true p11; replace q11 := eq_true q11; obtain ⟨hy97_, hz97_⟩ := Kd.R_celln false HO195.out ((ji8) : Int) (of_decide_eq_true (by first | (with_reducible assumption) | assumption)) (of_decide_eq_true (by first | (with_reducible assumption) | assumption)); have HP97 := Kd.R_putg HO195.out ((ji8) : Int) true) | ((with_reducible refine gate_store (t := 4) (p := 29) rfl ?_); refine store_event (t := 4) (p := 29) (v := ?vo_w98) (w1 := (w95.setCell ⟨go11, ((ji8) : Int).toNat, none⟩ (.bool true))) ?hg ?ho ?hn ?hr ?_; (case ho => rfl); (case hg => rfl); (case hn => rfl); (case hr => first | (go_simp; done) | (go_simp; rfl)); intro w98 hw; have hg : w95.grownBy w98 (some go11) := (by rw [hw]; exact HP97.2); have hp_ : Kd.R Kd.bool 4 w98 w.heap.size (fun _ => True) (.slice (some ⟨go11, 0, none⟩) y193.length co11) y196 := (by rw [hw, Ny196.out]; exact HP97.1); clear HP97; have n0_ := Aside0.mk (hp_); have n1_ := Aside0.mk ((by rw [hw]; exact below_set (HB.out) GB11.out : Below w.heap.size w w98)); clear HO195; clear HB; have HO195 := n0_; have HB := n1_; clear n0_ n1_; clear hg hw hp_) | ((with_reducible refine gate_callee (f := 29) rfl ?_); refine goesL_ (some 31) rfl rfl Try.func29 (by kernel_rfl) rfl #[.slice (some ⟨go11, 0, none⟩) y196.length co11] rfl (by (try simp only [List.map_toArray, List.map_cons, List.map_nil]); first | done | (rw [show y196.length = y193.length from (Kd.R_reads' HO195.out).1.symm] <;> rfl) | rfl | (simp only [List.length_drop, List.length_take]; rfl)) ?_; (with_reducible refine (words_PackBits.calls _ _ y196 t197 _ ?side1 ?side2 A12.out).mono ?_); (case side1 => repeat (first | exact (Kd.R_reads' HO195.out).2.2 | (with_reducible refine Kd.C_alloc ?_ _) | (with_reducible refine Kd.C_drewN ?_ _) | (with_reducible refine Kd.C_drew ?_))); (case side2 => rw [show y196.length = y193.length from (Kd.R_reads' HO195.out).1.symm]; exact (Kd.R_reads' HO195.out).2.1); rintro e w99 ⟨v198, rfl, ho0, hb⟩; refine ⟨_, rfl, ?_⟩; have n0_ := Aside0.mk (Kd.R_below (by (with_reducible repeat (first | apply Kd.R_alloc | apply Kd.R_drewN | apply Kd.R_drew)); exact HO195.out) hb); have n1_ := Aside0.mk (Kd.R_lower ho0 (below_size (by repeat (first | (with_reducible first | exact HB.out | apply below_alloc | apply pw_below_drewN | apply below_drew1) | exact HB.out)))); have n2_ := Aside0.mk (below_step (by repeat (first | (with_reducible first | exact HB.out | apply below_alloc | apply pw_below_drewN | apply below_drew1) | exact HB.out)) hb); clear HO195; clear HB; have HO195 := n0_; have HO199 := n1_; have HB := n2_; clear n0_ n1_ n2_; (try clear hb); (try clear hb2); (try clear hk); (try clear hi); (try clear ho0); obtain ⟨Ao100, co100, eo100⟩ := Kd.R_slice HO199.out; subst eo100))
              go_ret
              exact ⟨by first | rfl | (simp [errW_none, errW_some] <;> rfl) | (simp only [← hji5, ← hji8]; first | rfl | (simp [errW_none, errW_some] <;> rfl)) | (simp [*, errW_none, errW_some] <;> rfl), by repeat (first | (with_reducible first | exact HB.out | apply below_alloc | apply pw_below_drewN | apply below_drew1) | exact HB.out)⟩
          · rw [if_neg c10] at H
            exact absurd H (by simp)
        · rw [if_neg c9] at H
          exact absurd H (by simp)
      · rw [if_neg c7] at H
        exact absurd H (by simp)
    · rw [if_neg c6] at H
      exact absurd H (by simp)

/-- THE ONE PURE STATEMENT of saucierlaw06_WordsBits: yours. -/
def saucierlaw06_WordsBits.Pure : Prop := ∀ (a0 : Int) (a1 : Int) (a2 : Int), (Lit.int .u8 a0).wf = true → (Lit.int .u8 a1).wf = true → (Lit.int .u8 a2).wf = true → ∃ k, saucierlaw06_WordsBits.f k a0 a1 a2 = some true
theorem saucierlaw06_WordsBits.walk (P : saucierlaw06_WordsBits.Pure) (a0 : Int) (a1 : Int) (a2 : Int) (w : World) (w0 : (Lit.int .u8 a0).wf = true) (w1 : (Lit.int .u8 a1).wf = true) (w2 : (Lit.int .u8 a2).wf = true) :
    Calls Try.prog 10 #[.int .u8 a0, .int .u8 a1, .int .u8 a2] w fun e w' => e = .returned (.bool true) ∧ Below w.heap.size w w' := by
  obtain ⟨k, h⟩ := P a0 a1 a2 w0 w1 w2
  refine (saucierlaw06_WordsBits.calls k a0 a1 a2 true w h).mono ?_
  rintro e w' ⟨rfl, hd⟩
  exact ⟨rfl, hd⟩

end Go.Proofs.Ytjlckmekajlbmaa.R
