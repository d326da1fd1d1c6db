/- A law of package words as a plain Lean function, and that its call returns true where that one does, under the premises that stand in each theorem. Written by a program of this session: a changed copy of the kit's print. -/
import Derived.Test.YtjlckmekajlbmaaR0
namespace Go.Proofs.Ytjlckmekajlbmaa.R
open Go.RowKit Go.Proofs.YtjlckmekajlbmaaW.PrintWords Go.Proofs.YtjlckmekajlbmaaW.PrintLast Go.Proofs.YtjlckmekajlbmaaW.PrintMore Go.Proofs.Ytjlckmekajlbmaa.H
attribute [local go_sem] max2_int min2_int max_two min_two max_three min_three max_four min_four   -- for this text's walks alone
set_option linter.unusedVariables false
set_option linter.unusedSimpArgs false

/-! ### saucierlaw06_WordsTell: function 8 -/
mutual
def saucierlaw06_WordsTell.j0 : Nat → List Int → Int → List Bool → List Int → Int → Bool → Option (Bool)
  | 0, _, _, _, _, _, _ => none
  | k + 1, x0, x1, x2, x3, x4, x33 => if x33 = true then ((saucierlaw06_awake.f).bind fun t101 => (some t101)) else ((words_Regs.f x0).bind fun bt102 => ((saucierref06_Regs.f x0).bind fun bt106 => ((words_Bits.f x0 x1).bind fun t110 => ((saucierref06_Bits.f x0 x1).bind fun t113 => ((saucierlaw06_Bools.f t110 t113).bind fun t116 => (if t116 = true then ((words_PackBits.f x2).bind fun t117 => ((saucierref06_PackBits.f x2).bind fun t120 => ((saucierlaw06_Same.f t117 t120).bind fun t123 => (if t123 = true then ((words_PackRegs.f x3).bind fun t124 => ((saucierref06_PackRegs.f x3).bind fun t127 => ((saucierlaw06_Same.f t124 t127).bind fun t130 => (if t130 = true then (if (bt102.2 != bt106.2) = true then (saucierlaw06_WordsTell.j1 k x3 x4 true) else ((saucierlaw06_Regs.f bt102.1 bt106.1).bind fun t131 => (saucierlaw06_WordsTell.j1 k x3 x4 (!t131)))) else (saucierlaw06_WordsTell.j1 k x3 x4 true))))) else (saucierlaw06_WordsTell.j1 k x3 x4 true))))) else (saucierlaw06_WordsTell.j1 k x3 x4 true)))))))
def saucierlaw06_WordsTell.j1 : Nat → List Int → Int → Bool → Option (Bool)
  | 0, _, _, _ => none
  | k + 1, x3, x4, x79 => if x79 = true then (some false) else (saucierlaw06_WordsTell.l0 k x3 x4 1)
def saucierlaw06_WordsTell.l0 : Nat → List Int → Int → Int → Option (Bool)
  | 0, _, _, _ => none
  | k + 1, x3, x4, x15 => if x15 < (x3.length : Int) then (if 0 ≤ (wrap64 (x15 - 1)) then (if (wrap64 (x15 - 1)) < (x3.length : Int) then (if 0 ≤ x15 then ((words_Wide.f (rd x3 (wrap64 (x15 - 1))) (rd x3 x15)).bind fun t134 => ((words_Parts.f t134).bind fun bt135 => ((saucierref06_Wide.f (rd x3 (wrap64 (x15 - 1))) (rd x3 x15)).bind fun t139 => (if t134 = t139 then (if bt135.1 = (rd x3 (wrap64 (x15 - 1))) then (if bt135.2 = (rd x3 x15) then ((words_Signed.f (rd x3 x15)).bind fun t143 => ((saucierref06_Signed.f (rd x3 x15)).bind fun t145 => (saucierlaw06_WordsTell.j3 k x3 x4 x15 (t143 != t145)))) else (saucierlaw06_WordsTell.j3 k x3 x4 x15 true)) else (saucierlaw06_WordsTell.j3 k x3 x4 x15 true)) else (saucierlaw06_WordsTell.j3 k x3 x4 x15 true))))) else (none)) else (none)) else (none)) else ((words_Word.f x4).bind fun bt146 => (if x4 ≥ (-32768) then (if (bt146.2 == (decide (x4 ≤ 32767))) = true then (if bt146.2 = true then ((saucierref06_Signed.f bt146.1).bind fun t148 => (if t148 = x4 then ((saucierlaw06_awake.f).bind fun t149 => (some t149)) else (some false))) else (if bt146.1 = 0 then ((saucierlaw06_awake.f).bind fun t150 => (some t150)) else (some false))) else (some false)) else (if (bt146.2 == false) = true then (if bt146.2 = true then ((saucierref06_Signed.f bt146.1).bind fun t151 => (if t151 = x4 then ((saucierlaw06_awake.f).bind fun t152 => (some t152)) else (some false))) else (if bt146.1 = 0 then ((saucierlaw06_awake.f).bind fun t153 => (some t153)) else (some false))) else (some false))))
def saucierlaw06_WordsTell.j3 : Nat → List Int → Int → Int → Bool → Option (Bool)
  | 0, _, _, _, _ => none
  | k + 1, x3, x4, x15, x142 => if x142 = true then (some false) else (saucierlaw06_WordsTell.l0 k x3 x4 (wrap64 (x15 + 1)))
end
def saucierlaw06_WordsTell.f (k : Nat) (l0 : List Int) (a1 : Int) (l2 : List Bool) (l3 : List Int) (a4 : Int) : Option (Bool) := if (l0.length : Int) > 300 then (saucierlaw06_WordsTell.j0 k l0 a1 l2 l3 a4 true) else (if (l2.length : Int) > 500 then (saucierlaw06_WordsTell.j0 k l0 a1 l2 l3 a4 true) else (saucierlaw06_WordsTell.j0 k l0 a1 l2 l3 a4 (decide ((l3.length : Int) > 200))))
theorem saucierlaw06_WordsTell.mono_l : ∀ k, (∀ y0 y1 y2 y3 y4 y5, LeO (saucierlaw06_WordsTell.j0 k y0 y1 y2 y3 y4 y5) (saucierlaw06_WordsTell.j0 (k + 1) y0 y1 y2 y3 y4 y5)) ∧ (∀ y0 y1 y2, LeO (saucierlaw06_WordsTell.j1 k y0 y1 y2) (saucierlaw06_WordsTell.j1 (k + 1) y0 y1 y2)) ∧ (∀ y0 y1 y2, LeO (saucierlaw06_WordsTell.l0 k y0 y1 y2) (saucierlaw06_WordsTell.l0 (k + 1) y0 y1 y2)) ∧ (∀ y0 y1 y2 y3, LeO (saucierlaw06_WordsTell.j3 k y0 y1 y2 y3) (saucierlaw06_WordsTell.j3 (k + 1) y0 y1 y2 y3))
  | 0 => ⟨fun _ _ _ _ _ _ r h => by simp [saucierlaw06_WordsTell.j0] at h, fun _ _ _ r h => by simp [saucierlaw06_WordsTell.j1] at h, fun _ _ _ r h => by simp [saucierlaw06_WordsTell.l0] at h, fun _ _ _ _ r h => by simp [saucierlaw06_WordsTell.j3] at h⟩
  | k + 1 => by
    obtain ⟨ih0, ih1, ih2, ih3⟩ := saucierlaw06_WordsTell.mono_l k
    refine ⟨?_, ?_, ?_, ?_⟩
    · intro y0 y1 y2 y3 y4 y5
      unfold saucierlaw06_WordsTell.j0
      repeat' first
      | (with_reducible exact ih0 _ _ _ _ _ _)
      | (with_reducible exact ih1 _ _ _)
      | (with_reducible exact ih2 _ _ _)
      | (with_reducible exact ih3 _ _ _ _)
      | (with_reducible exact LeO.refl _)
      | (with_reducible exact LeO.none _)
      | (with_reducible refine LeO.ite ?_ ?_)
      | (with_reducible refine LeO.bind ?_ (fun _ => ?_))
      | exact ih0 _ _ _ _ _ _
      | exact ih1 _ _ _
      | exact ih2 _ _ _
      | exact ih3 _ _ _ _
      | exact LeO.none _
      | refine LeO.ite ?_ ?_
      | refine LeO.bind ?_ (fun _ => ?_)
    · intro y0 y1 y2
      unfold saucierlaw06_WordsTell.j1
      repeat' first
      | (with_reducible exact ih0 _ _ _ _ _ _)
      | (with_reducible exact ih1 _ _ _)
      | (with_reducible exact ih2 _ _ _)
      | (with_reducible exact ih3 _ _ _ _)
      | (with_reducible exact LeO.refl _)
      | (with_reducible exact LeO.none _)
      | (with_reducible refine LeO.ite ?_ ?_)
      | (with_reducible refine LeO.bind ?_ (fun _ => ?_))
      | exact ih0 _ _ _ _ _ _
      | exact ih1 _ _ _
      | exact ih2 _ _ _
      | exact ih3 _ _ _ _
      | exact LeO.none _
      | refine LeO.ite ?_ ?_
      | refine LeO.bind ?_ (fun _ => ?_)
    · intro y0 y1 y2
      unfold saucierlaw06_WordsTell.l0
      repeat' first
      | (with_reducible exact ih0 _ _ _ _ _ _)
      | (with_reducible exact ih1 _ _ _)
      | (with_reducible exact ih2 _ _ _)
      | (with_reducible exact ih3 _ _ _ _)
      | (with_reducible exact LeO.refl _)
      | (with_reducible exact LeO.none _)
      | (with_reducible refine LeO.ite ?_ ?_)
      | (with_reducible refine LeO.bind ?_ (fun _ => ?_))
      | exact ih0 _ _ _ _ _ _
      | exact ih1 _ _ _
      | exact ih2 _ _ _
      | exact ih3 _ _ _ _
      | exact LeO.none _
      | refine LeO.ite ?_ ?_
      | refine LeO.bind ?_ (fun _ => ?_)
    · intro y0 y1 y2 y3
      unfold saucierlaw06_WordsTell.j3
      repeat' first
      | (with_reducible exact ih0 _ _ _ _ _ _)
      | (with_reducible exact ih1 _ _ _)
      | (with_reducible exact ih2 _ _ _)
      | (with_reducible exact ih3 _ _ _ _)
      | (with_reducible exact LeO.refl _)
      | (with_reducible exact LeO.none _)
      | (with_reducible refine LeO.ite ?_ ?_)
      | (with_reducible refine LeO.bind ?_ (fun _ => ?_))
      | exact ih0 _ _ _ _ _ _
      | exact ih1 _ _ _
      | exact ih2 _ _ _
      | exact ih3 _ _ _ _
      | exact LeO.none _
      | refine LeO.ite ?_ ?_
      | refine LeO.bind ?_ (fun _ => ?_)
theorem saucierlaw06_WordsTell.mono : ∀ a0 a1 a2 a3 a4 k, LeO (saucierlaw06_WordsTell.f k a0 a1 a2 a3 a4) (saucierlaw06_WordsTell.f (k + 1) a0 a1 a2 a3 a4) := by
  intro a0 a1 a2 a3 a4 k
  obtain ⟨ih0, ih1, ih2, ih3⟩ := saucierlaw06_WordsTell.mono_l k
  unfold saucierlaw06_WordsTell.f
  repeat' first
      | (with_reducible exact ih0 _ _ _ _ _ _)
      | (with_reducible exact ih1 _ _ _)
      | (with_reducible exact ih2 _ _ _)
      | (with_reducible exact ih3 _ _ _ _)
      | (with_reducible exact LeO.refl _)
      | (with_reducible exact LeO.none _)
      | (with_reducible refine LeO.ite ?_ ?_)
      | (with_reducible refine LeO.bind ?_ (fun _ => ?_))
      | exact ih0 _ _ _ _ _ _
      | exact ih1 _ _ _
      | exact ih2 _ _ _
      | exact ih3 _ _ _ _
      | exact LeO.none _
      | refine LeO.ite ?_ ?_
      | refine LeO.bind ?_ (fun _ => ?_)
def saucierlaw06_WordsTell.T10 : Bool × List (List Nat × List Nat) := (true, [([], []), ([], []), ([1], [1]), ([0, 2], [0, 2]), ([3], [3]), ([], []), ([], []), ([5, 6], [5, 6]), ([7], [7]), ([4, 8], [4, 8]), ([9, 9, 0, 1, 2, 3, 4, 5, 6, 7, 8, 9], [9])])
def saucierlaw06_WordsTell.B10 : List Nat := [0, 0, 2, 7, 15, 0, 0, 96, 224, 511, 1023]
theorem saucierlaw06_WordsTell.tab10 : rtab .any (opsOf Try.f8 10) = saucierlaw06_WordsTell.T10 := by kernel_rfl
theorem saucierlaw06_WordsTell.bits10 : waitsOk saucierlaw06_WordsTell.T10.2 saucierlaw06_WordsTell.B10 = true := by kernel_rfl
def saucierlaw06_WordsTell.T12 : Bool × List (List Nat × List Nat) := (true, [([], []), ([], []), ([], []), ([2], [2]), ([1, 3], [1, 3]), ([4], [4]), ([], []), ([], []), ([6, 7], [6, 7]), ([8], [8]), ([5, 9], [5, 9]), ([0, 10], [0, 10]), ([11, 10], [11]), ([12], [12]), ([12], [12]), ([12], [12]), ([15, 12], [12, 15]), ([14, 16, 12], [12, 14, 16]), ([17, 12], [12, 17]), ([13, 18, 12], [12, 13, 18]), ([12, 19], [12, 19]), ([20, 12], [20]), ([21], [21]), ([21], [21]), ([21], [21]), ([23, 24, 21], [21, 23, 24]), ([25, 21], [21, 25]), ([22, 26, 21], [21, 22, 26]), ([21, 27], [21, 27]), ([28, 21], [28]), ([29], [29]), ([29], [29]), ([30, 31, 29], [29, 30, 31]), ([32, 29], [29, 32]), ([33, 29, 29], [29, 33]), ([29], [29]), ([29], [29]), ([35, 36, 29], [29, 35, 36]), ([37, 29], [29, 37]), ([38, 34, 29], [29, 38]), ([34, 39, 29], [29, 34, 39]), ([29, 40], [29, 40])])
def saucierlaw06_WordsTell.B12 : List Nat := [0, 0, 0, 4, 14, 30, 0, 0, 192, 448, 1022, 2047, 4095, 8191, 8191, 8191, 40959, 122879, 253951, 524287, 1048575, 2097151, 4194303, 4194303, 4194303, 29360127, 62914559, 134217727, 268435455, 536870911, 1073741823, 1073741823, 4294967295, 8589934591, 17179869183, 1073741823, 1073741823, 104152956927, 241591910399, 549755813887, 1099511627775, 2199023255551]
theorem saucierlaw06_WordsTell.tab12 : rtab .any (opsOf Try.f8 12) = saucierlaw06_WordsTell.T12 := by kernel_rfl
theorem saucierlaw06_WordsTell.bits12 : waitsOk saucierlaw06_WordsTell.T12.2 saucierlaw06_WordsTell.B12 = true := by kernel_rfl
end Go.Proofs.Ytjlckmekajlbmaa.R
