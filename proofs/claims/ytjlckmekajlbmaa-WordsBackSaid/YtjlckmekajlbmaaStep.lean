/-
  What the steps of package sum do: a step's row of 32 numbers applied to a sum, the step done twice, the step of one nought, and Zeros: each as a plain Lean function, and that the Go function returns it.
-/
import Derived.Test.YtjlckmekajlbmaaG1
namespace Go.Proofs.Ytjlckmekajlbmaa.G
open Go.RowKit Go.Proofs.YtjlckmekajlbmaaW.PrintWords Go.Proofs.YtjlckmekajlbmaaW.PrintLast Go.Proofs.YtjlckmekajlbmaaW.PrintMore
set_option linter.unusedVariables false
set_option linter.unusedSimpArgs false
/-- An array of numbers of 32 bits, as it lies in memory. -/
def row32 (l : List Int) : Array Value := (l.map (Value.int .u32)).toArray
theorem row32_size (l : List Int) : (row32 l).size = l.length := by simp [row32]
theorem row32_at (l : List Int) (i : Nat) (h : i < l.length) : (row32 l)[i]? = some (.int .u32 (rd l i)) := by
  simp [row32, rd, h]
def ofTo (l : List Int) (s : Int) : Nat → Int
  | 0 => 0
  | k + 1 => Go.bits .xor .u32 (ofTo l s k) (Go.bits .and .u32 (rd l (k : Int)) ((-(Go.bits .and .u32 (s / 2 ^ k) 1)) % 4294967296))

theorem size24 (w : World) : (sizeOf 24).run Try.prog w = .ok 1 w := by kernel_rfl
theorem agg24 (w : World) : (isAgg 24).run Try.prog w = .ok false w := by kernel_rfl
theorem info59 : (Try.prog.info? 59).map (·.size) = some 32 := by kernel_rfl
theorem run_index32 (l : List Int) (hl : l.length = 32) (k : Nat) (hk : k < 32) (w : World) : (Instr.index 59 (.agg (row32 l)) (.int .i64 (k : Int))).run Try.prog w = .ok (.int .u32 (rd l (k : Int))) w := by
  have hk2 : (k : Int) < 32 := by omega
  have hr := row32_at l k (by omega)
  simp [Instr.index, asIntOf, run_underlying Try.underlying59, part, size24, agg24, hk2, hr, Sem.run_bind, hk]
theorem wrap_s (k : Nat) (h : k < 32) : wrap64 ((k : Int) + 1) = ((k + 1 : Nat) : Int) := by unfold wrap64; omega

set_option maxHeartbeats 4000000 in
set_option maxRecDepth 100000 in
theorem sum_step_of.calls0 (l : List Int) (s : Int) (w : World) (hl : l.length = 32) :
    Calls Try.prog 44 #[.agg (row32 l), .int .u32 s] w fun e w' => e = .returned (.int .u32 (ofTo l s 32)) ∧ Below w.heap.size w w' := by
  have hL := Aside0.mk hl
  clear hl
  have hz : (Try.prog.info? 59).map (·.size) = some (row32 l).size := by rw [info59, row32_size, hL.out]
  have HZ := Aside0.mk hz
  clear hz
  go_enter Try.func44, Try.ntmps44
  go_wp2_with (with_reducible refine wpList_load_row rfl 59 (.tmp 2) rfl w.heap.size rfl 59 (row32 l) (0, 0) _ (heap_alloc_new w _) Try.underlying59 rfl HZ.out ?_)
  go_loopw [5, 9] (fun v5 v9 w' => ∃ k : Nat, k ≤ 32 ∧ v9 = .int .i64 (k : Int) ∧ v5 = .int .u32 (ofTo l s k) ∧ Aside0 (Below w.heap.size w w')) (fun _ v9 _ => 32 - (intOf v9).toNat)
  case atStart => exact ⟨0, by omega, rfl, rfl, ⟨below_alloc (Below.refl _ _) _⟩⟩
  case round =>
    obtain ⟨k, hk, rfl, rfl, HB⟩ := hrel
    by_cases hlt : k < 32
    · have hidx := run_index32 l hL.out k hlt
      go_wp2
      go_roundw
      case rel => exact ⟨k + 1, by omega, by go_num, rfl, HB⟩
      case measure => simp [intOf]; omega
    · go_wp2
      go_ret
      obtain rfl : k = 32 := by omega
      exact ⟨rfl, HB.out⟩

/-! ### A byte taken in, the world left alone -/
def stepI (x : Int) : Int := Go.bits .xor .u32 (x / 2) (Go.bits .and .u32 3988292384 ((-(Go.bits .and .u32 x 1)) % 4294967296))
def halfTo (x : Int) : Nat → Int
  | 0 => x
  | k + 1 => stepI (halfTo x k)
def addI (s b : Int) : Int := halfTo (halfTo (Go.bits .xor .u32 s (b % 4294967296)) 4) 4
set_option maxHeartbeats 4000000 in
theorem sum_half.calls0 (s : Int) (w : World) : Calls Try.prog 40 #[.int .u32 s] w fun e w' => e = .returned (.int .u32 (halfTo s 4)) ∧ w = w' := by
  go_enter Try.func40, Try.ntmps40
  go_wp2
  go_loop [0, 3] (fun v0 v3 => ∃ k : Nat, k ≤ 4 ∧ v3 = .int .i64 (k : Int) ∧ v0 = .int .u32 (halfTo s k)) (fun _ v3 => 4 - (intOf v3).toNat)
  case atStart => exact ⟨0, by omega, rfl, rfl⟩
  case round =>
    obtain ⟨k, hk, rfl, rfl⟩ := hrel
    by_cases hlt : k < 4
    · go_wp2
      go_round
      case rel => exact ⟨k + 1, by omega, by go_num, rfl⟩
      case measure => simp [intOf]; omega
    · go_wp2
      go_ret
      obtain rfl : k = 4 := by omega
      exact ⟨rfl, rfl⟩
set_option maxHeartbeats 4000000 in
theorem sum_Add.calls0 (s b : Int) (w : World) : Calls Try.prog 14 #[.int .u32 s, .int .u8 b] w fun e w' => e = .returned (.int .u32 (addI s b)) ∧ w = w' := by
  go_enter Try.func14, Try.ntmps14
  go_wp2_with fail
  refine (sum_half.calls0 _ _).mono ?_
  rintro e w' ⟨rfl, rfl⟩
  go_wp2_with fail
  refine (sum_half.calls0 _ _).mono ?_
  rintro e w' ⟨rfl, rfl⟩
  go_wp2_with fail
  go_ret
  exact ⟨rfl, rfl⟩

/-! ### Memory for a step -/
section
variable {ops : Array Oper} {rest : List Oper} {o : Oper} {a : Act} {Q : Exit → Act → World → Prop} {W : World}
theorem zero59 (w : World) : (zeroValue 59).run Try.prog w = .ok (.agg (row32 (List.replicate 32 0))) w := by kernel_rfl
theorem alloc59 (hgd : o.guard = none) (ho : o.op = .alloc 59)
    (h : ∀ w1 : World, w1.heap[W.heap.size]? = some (.cells (row32 (List.replicate 32 0)) 59 (0, 0)) → w1.heap.size = W.heap.size + 1 → Below W.heap.size W w1 → wpList Try.prog ops Q rest (a.put o.dst (.pointer (some ⟨W.heap.size, 0, none⟩))) w1) :
    wpList Try.prog ops Q (o :: rest) a W := by
  have hz := zero59
  generalize hcs : row32 (List.replicate 32 0) = cs at hz h
  have hrun : (execOp a.eval o).run Try.prog W = .ok (.value (.pointer (some ⟨W.heap.size, 0, none⟩))) (W.alloc (.cells cs 59)) := by
    have hn : cs.size ≠ 0 := by rw [← hcs, row32_size]; simp
    simp [execOp, ho, Instr.alloc, hz, newVar, Sem.run_bind, newRow, Value.cells, hn]
  exact Kd.event_run hgd hrun (h _ (heap_alloc_new W _) (by simp) (below_alloc (Below.refl _ _) _))
end
/-! ### The step of one nought -/
def noughtTo (k : Nat) : List Int := (List.range 32).map fun i => if i < k then addI (2 ^ i % 4294967296) 0 else 0
def noughtL : List Int := noughtTo 32
theorem noughtTo_len (k : Nat) : (noughtTo k).length = 32 := by simp [noughtTo]
theorem noughtTo_zero : noughtTo 0 = List.replicate 32 0 := by decide
theorem row32_set (l : List Int) (k : Nat) (x : Int) : (row32 l).setIfInBounds k (.int .u32 x) = row32 (l.set k x) := by
  simp [row32]
theorem noughtTo_succ (k : Nat) (h : k < 32) : (noughtTo k).set k (addI (2 ^ k % 4294967296) 0) = noughtTo (k + 1) := by
  apply List.ext_getElem
  · simp [noughtTo]
  · intro i h1 h2
    simp only [noughtTo, List.getElem_set, List.getElem_map, List.getElem_range]
    by_cases e : k = i
    · subst e; simp
    · rw [if_neg e]
      by_cases c : i < k
      · rw [if_pos c, if_pos (by omega)]
      · rw [if_neg c, if_neg (by omega)]
theorem size59 (l : List Int) (h : l.length = 32) : (Try.prog.info? 59).map (·.size) = some (row32 l).size := by rw [info59, row32_size, h]
theorem step_setRow {w0 w : World} {g : Nat} (hb : Below w0.heap.size w0 w) (hg : w0.heap.size ≤ g) (cs : Array Value) : Below w0.heap.size w0 (w.setRow g cs) :=
  hb.trans ⟨rfl, rfl, rfl, by simp [World.setRow], fun k hk => setRow_other w g k cs (by omega)⟩
theorem one32 (l : List Int) : (row32 l).all (·.oneCell') = true := by
  simp [row32, Value.oneCell']
theorem store59 {ops : Array Oper} {rest : List Oper} {o : Oper} {a : Act} {Q : Exit → Act → World → Prop} {w : World} (hN : o.dst = none) (hgd : o.guard = none) (x y : Operand) (ho : o.op = .store 59 x y)
    (g : Nat) (l : List Int) (hl : l.length = 32) (hx : a.eval x = .pointer (some ⟨g, 0, none⟩)) (hy : a.eval y = .agg (row32 l)) (old : List Int) (hold : old.length = 32) (hg : w.heap[g]? = some (.cells (row32 old) 59 (0, 0)))
    (h : wpList Try.prog ops Q rest a (w.setRow g (row32 l))) : wpList Try.prog ops Q (o :: rest) a w := by
  refine wpList_store_row hgd 59 x y ho g (row32 l) hx hy 59 _ hg (size59 _ hl) (by rw [row32_size, row32_size, hl, hold]) (one32 _) ?_
  rw [hN]
  exact h
set_option maxHeartbeats 4000000 in
set_option maxRecDepth 100000 in
theorem sum_nought.calls0 (w : World) : Calls Try.prog 42 #[] w fun e w' => e = .returned (.agg (row32 noughtL)) ∧ Below w.heap.size w w' := by
  go_enter Try.func42, Try.ntmps42
  go_wp2_with (first | ((with_reducible refine gate_dst (N := 0) rfl ?_); refine alloc59 rfl rfl ?_; intro w1 hA hA1 hB1; have HA := Aside0.mk hA; have HA1 := Aside0.mk hA1; have HB1 := Aside0.mk hB1; clear hA hA1 hB1) | ((with_reducible refine gate_dst (N := 1) rfl ?_); refine alloc59 rfl rfl ?_; intro w2 hA hA1 hB1; have HC := Aside0.mk hA; have HC1 := Aside0.mk hA1; have HD1 := Aside0.mk hB1; clear hA hA1 hB1))
  have h0 : w2.heap[w.heap.size]? = some (.cells (row32 (List.replicate 32 0)) 59 (0, 0)) := (HD1.out.block _ (by have := HA1.out; omega)).trans HA.out
  have hB : Below w.heap.size w w2 := below_then HB1.out (by have := HA1.out; omega) HD1.out
  have hlt : w.heap.size < w1.heap.size := by have := HA1.out; omega
  obtain ⟨g, hg⟩ : ∃ g, g = w1.heap.size := ⟨_, rfl⟩
  have H0 := Aside0.mk h0
  have HB := Aside0.mk hB
  have hc2 := HC.out
  rw [← hg] at hc2 hlt ⊢
  have H2 := Aside0.mk hc2
  have HL := Aside0.mk hlt
  clear h0 hB hc2 hlt hg HA HA1 HB1 HC HC1 HD1
  go_loopw [3] (fun v3 w' => ∃ k : Nat, k ≤ 32 ∧ v3 = .int .i64 (k : Int) ∧ Aside0 (w'.heap[w.heap.size]? = some (.cells (row32 (List.replicate 32 0)) 59 (0, 0))) ∧ Aside0 (w'.heap[g]? = some (.cells (row32 (noughtTo k)) 59 (0, 0))) ∧ Aside0 (Below w.heap.size w w')) (fun v3 _ => 32 - (intOf v3).toNat)
  case atStart => exact ⟨0, by omega, rfl, H0, by rw [noughtTo_zero]; exact H2, HB⟩
  case round =>
    obtain ⟨k, hk, rfl, HA, HC, HB⟩ := hrel
    by_cases hlt : k < 32
    · have hcell : wr.cell? ⟨g, k, none⟩ = some (.int .u32 (rd (noughtTo k) (k : Int))) := by rw [blk_cell HC.out, row32_at _ _ (by rw [noughtTo_len]; exact hlt)]
      have hfz : wr.frozen? ⟨g, k, none⟩ = false := blk_frozen HC.out k
      go_wp2_with fail
      refine (sum_Add.calls0 _ _ _).mono ?_
      rintro e w' ⟨rfl, rfl⟩
      go_wp2
      go_roundw
      case rel => exact ⟨k + 1, by omega, by go_num, ⟨(blk_far HA.out (by have := HL.out; show w.heap.size ≠ g; omega) _)⟩, ⟨by have h := blk_set HC.out k (.int .u32 (addI (2 ^ k % 4294967296) 0)); rw [row32_set, noughtTo_succ k hlt] at h; exact h⟩, ⟨below_set HB.out (Nat.le_of_lt HL.out)⟩⟩
      case measure => simp [intOf]; omega
    · obtain rfl : k = 32 := by omega
      go_wp2_with (first | ((with_reducible refine gate_dst (N := 12) rfl ?_); refine wpList_load_row rfl 59 (.tmp 1) rfl g rfl 59 _ (0, 0) _ HC.out Try.underlying59 rfl (size59 _ (noughtTo_len _)) ?_) | ((with_reducible refine gate_store (t := 59) (p := 0) rfl ?_); refine wpList_store_row rfl 59 (.tmp 0) (.tmp 12) rfl w.heap.size (row32 (noughtTo 32)) rfl rfl 59 _ HA.out (size59 _ (noughtTo_len _)) (by rw [row32_size, row32_size, noughtTo_len]; simp) (one32 _) ?_))
      refine bodyPost_ret (results_cell_row rfl _ _ w.heap.size 59 (row32 noughtL) (0, 0) _ rfl (setRow_heap _ _ _ _ _ _ HA.out) Try.underlying59 rfl (size59 _ (noughtTo_len _))) rfl ⟨rfl, step_setRow HB.out (Nat.le_refl _) _⟩

/-! ### A step done twice -/
def twiceTo (l : List Int) (k : Nat) : List Int := (List.range 32).map fun i => if i < k then ofTo l (rd l (i : Int)) 32 else 0
def twiceL (l : List Int) : List Int := twiceTo l 32
theorem twiceTo_len (l : List Int) (k : Nat) : (twiceTo l k).length = 32 := by simp [twiceTo]
theorem twiceTo_zero (l : List Int) : twiceTo l 0 = List.replicate 32 0 := by
  simp only [twiceTo, Nat.not_lt_zero, if_false]
  decide
theorem twiceTo_succ (l : List Int) (k : Nat) (h : k < 32) : (twiceTo l k).set k (ofTo l (rd l (k : Int)) 32) = twiceTo l (k + 1) := by
  apply List.ext_getElem
  · simp [twiceTo]
  · intro i h1 h2
    simp only [twiceTo, List.getElem_set, List.getElem_map, List.getElem_range]
    by_cases e : k = i
    · subst e; simp
    · rw [if_neg e]
      by_cases c : i < k
      · rw [if_pos c, if_pos (by omega)]
      · rw [if_neg c, if_neg (by omega)]
set_option maxHeartbeats 4000000 in
set_option maxRecDepth 100000 in
theorem sum_step_twice.calls0 (l : List Int) (w : World) (hl : l.length = 32) : Calls Try.prog 43 #[.agg (row32 l)] w fun e w' => e = .returned (.agg (row32 (twiceL l))) ∧ Below w.heap.size w w' := by
  have hL := Aside0.mk hl
  clear hl
  go_enter Try.func43, Try.ntmps43
  go_wp2_with (first | ((with_reducible refine gate_dst (N := 2) rfl ?_); refine alloc59 rfl rfl ?_; intro w1 hA hA1 hB1; have HA := Aside0.mk hA; have HA1 := Aside0.mk hA1; have HB1 := Aside0.mk hB1; clear hA hA1 hB1) | ((with_reducible refine gate_dst (N := 3) rfl ?_); refine alloc59 rfl rfl ?_; intro w2 hA hA1 hB1; have HC := Aside0.mk hA; have HC1 := Aside0.mk hA1; have HD1 := Aside0.mk hB1; clear hA hA1 hB1) | ((with_reducible refine gate_dst (N := 6) rfl ?_); refine wpList_load_row rfl 59 (.tmp 1) rfl w.heap.size rfl 59 (row32 l) (0, 0) _ ((HD1.out.block _ (by have := HA1.out; simp at this; omega)).trans ((HB1.out.block _ (by simp)).trans (heap_alloc_new w _))) Try.underlying59 rfl (size59 _ hL.out) ?_))
  have hi : w2.heap[w.heap.size]? = some (.cells (row32 l) 59 (0, 0)) := (HD1.out.block _ (by have := HA1.out; simp at this; omega)).trans ((HB1.out.block _ (by simp)).trans (heap_alloc_new w _))
  have ha : w2.heap[w.heap.size + 1]? = some (.cells (row32 (List.replicate 32 0)) 59 (0, 0)) := (HD1.out.block _ (by have := HA1.out; simp at this; omega)).trans (by have := HA.out; simpa using this)
  have hB : Below w.heap.size w w2 := below_then (below_then (below_alloc (Below.refl _ w) (.cells (row32 l) 59)) (by simp) HB1.out) (by have := HA1.out; simp at this; omega) HD1.out
  have hlt : w.heap.size + 1 < w1.heap.size := by have := HA1.out; simp at this; omega
  obtain ⟨g, hg⟩ : ∃ g, g = w1.heap.size := ⟨_, rfl⟩
  obtain ⟨g0, hg0⟩ : ∃ g, g = w.heap.size + 1 := ⟨_, rfl⟩
  have hsz : (w.alloc (.cells (row32 l) 59)).heap.size = g0 := by rw [hg0]; simp
  have HI := Aside0.mk hi
  have HB := Aside0.mk hB
  have hc2 := HC.out
  rw [← hg0] at ha hlt
  (try rw [hsz])
  (try rw [← hg0])
  rw [← hg] at hc2 hlt ⊢
  have hge : w.heap.size < g0 := by omega
  have H0 := Aside0.mk ha
  have H2 := Aside0.mk hc2
  have HL := Aside0.mk hlt
  have HG := Aside0.mk hge
  clear hi hB hc2 hlt hg hg0 hsz ha hge HA HA1 HB1 HC HC1 HD1
  go_loopw [7] (fun v7 w' => ∃ k : Nat, k ≤ 32 ∧ v7 = .int .i64 (k : Int) ∧ Aside0 (w'.heap[w.heap.size]? = some (.cells (row32 l) 59 (0, 0))) ∧ Aside0 (w'.heap[g0]? = some (.cells (row32 (List.replicate 32 0)) 59 (0, 0))) ∧ Aside0 (w'.heap[g]? = some (.cells (row32 (twiceTo l k)) 59 (0, 0))) ∧ Aside0 (Below w.heap.size w w')) (fun v7 _ => 32 - (intOf v7).toNat)
  case atStart => exact ⟨0, by omega, rfl, HI, H0, by rw [twiceTo_zero]; exact H2, HB⟩
  case round =>
    obtain ⟨k, hk, rfl, HI2, HA, HC, HB⟩ := hrel
    by_cases hlt : k < 32
    · have hidx := run_index32 l hL.out k hlt
      go_wp2_with (first | ((with_reducible refine gate_dst (N := 12) rfl ?_); refine wpList_load_row rfl 59 (.tmp 1) rfl w.heap.size rfl 59 (row32 l) (0, 0) _ HI2.out Try.underlying59 rfl (size59 _ hL.out) ?_) | ((with_reducible refine gate_callee (f := 44) rfl ?_); refine goesL_ (some 14) rfl rfl Try.func44 (by kernel_rfl) rfl #[.agg (row32 l), .int .u32 (rd l (k : Int))] rfl (by (try simp only [List.map_toArray, List.map_cons, List.map_nil]); first | done | rfl) ?_; (with_reducible refine (sum_step_of.calls0 l (rd l (k : Int)) _ hL.out).mono ?_); rintro e w' ⟨rfl, hb⟩; have HBr := Aside0.mk hb; clear hb; refine ⟨_, rfl, ?_⟩; have hcell : w'.cell? ⟨g, k, none⟩ = some (.int .u32 (rd (twiceTo l k) (k : Int))) := (by rw [blk_cell ((HBr.out.block _ (blk_lt HC.out)).trans HC.out), row32_at _ _ (by rw [twiceTo_len]; exact hlt)]); have hfz : w'.frozen? ⟨g, k, none⟩ = false := blk_frozen ((HBr.out.block _ (blk_lt HC.out)).trans HC.out) k))
      go_roundw
      case rel => exact ⟨k + 1, by omega, by go_num, ⟨blk_far ((HBr.out.block _ (blk_lt HI2.out)).trans HI2.out) (by have := HL.out; have := HG.out; show w.heap.size ≠ g; omega) _⟩, ⟨blk_far ((HBr.out.block _ (blk_lt HA.out)).trans HA.out) (by have := HL.out; show g0 ≠ g; omega) _⟩, ⟨by have h := blk_set ((HBr.out.block _ (blk_lt HC.out)).trans HC.out) k (.int .u32 (ofTo l (rd l (k : Int)) 32)); rw [row32_set, twiceTo_succ l k hlt] at h; exact h⟩, ⟨below_set (below_step HB.out HBr.out) (by have := HL.out; have := HG.out; omega)⟩⟩
      case measure => simp [intOf]; omega
    · obtain rfl : k = 32 := by omega
      go_wp2_with (first | ((with_reducible refine gate_dst (N := 17) rfl ?_); refine wpList_load_row rfl 59 (.tmp 3) rfl g rfl 59 _ (0, 0) _ HC.out Try.underlying59 rfl (size59 _ (twiceTo_len _ _)) ?_) | ((with_reducible refine gate_store (t := 59) (p := 2) rfl ?_); refine wpList_store_row rfl 59 (.tmp 2) (.tmp 17) rfl g0 (row32 (twiceTo l 32)) rfl rfl 59 _ HA.out (size59 _ (twiceTo_len _ _)) (by rw [row32_size, row32_size, twiceTo_len]; simp) (one32 _) ?_))
      refine bodyPost_ret (results_cell_row rfl _ _ g0 59 (row32 (twiceL l)) (0, 0) _ rfl (setRow_heap _ _ _ _ _ _ HA.out) Try.underlying59 rfl (size59 _ (twiceTo_len _ _))) rfl ⟨rfl, step_setRow HB.out (Nat.le_of_lt HG.out) _⟩

/-! ### Zeros -/
def zerosG : Nat → List Int → Int → Int → Int
  | 0, _, s, _ => s
  | f + 1, l, s, n => if 0 < n then zerosG f (twiceL l) (if Go.bits .and .i64 n 1 = 1 then ofTo l s 32 else s) (n / 2) else s
def zerosI (s n : Int) : Int := zerosG 63 noughtL s n
set_option maxHeartbeats 4000000 in
set_option maxRecDepth 100000 in
theorem sum_Zeros.calls0 (s n : Int) (w : World) (hn : n < 2 ^ 63) : Calls Try.prog 19 #[.int .u32 s, .int .i64 n] w fun e w' => e = .returned (.int .u32 (zerosI s n)) ∧ Below w.heap.size w w' := by
  have hN := Aside0.mk hn
  clear hn
  go_enter Try.func19, Try.ntmps19
  go_wp2_with (first | ((with_reducible refine gate_callee (f := 42) rfl ?_); refine goesL_ (some 6) rfl rfl Try.func42 (by kernel_rfl) rfl #[] rfl (by (try simp only [List.map_toArray, List.map_cons, List.map_nil]); first | done | rfl) ?_; (with_reducible refine (sum_nought.calls0 _).mono ?_); rintro e w1 ⟨rfl, hb⟩; have HB1 := Aside0.mk hb; clear hb; refine ⟨_, rfl, ?_⟩) | ((with_reducible refine gate_dst (N := 5) rfl ?_); refine alloc59 rfl rfl ?_; intro w2 hA hA1 hB1; have HC := Aside0.mk hA; have HC1 := Aside0.mk hA1; have HD1 := Aside0.mk hB1; clear hA hA1 hB1) | ((with_reducible refine gate_store (t := 59) (p := 5) rfl ?_); refine store59 rfl rfl (.tmp 5) (.tmp 6) rfl w1.heap.size noughtL (noughtTo_len _) rfl rfl (List.replicate 32 0) rfl HC.out ?_))
  have h2 : (w2.setRow w1.heap.size (row32 noughtL)).heap[w1.heap.size]? = some (.cells (row32 noughtL) 59 (0, 0)) := setRow_heap _ _ _ _ _ _ HC.out
  have hB : Below w.heap.size w (w2.setRow w1.heap.size (row32 noughtL)) := step_setRow (below_step HB1.out HD1.out) (below_size HB1.out) _
  have H2 := Aside0.mk h2
  have HB := Aside0.mk hB
  have HL := Aside0.mk (below_size HB1.out)
  clear h2 hB HC HC1 HD1
  generalize w2.setRow w1.heap.size (row32 noughtL) = w3 at H2 HB ⊢
  generalize w1.heap.size = g at H2 HL ⊢
  simp only [Act.put, List.setIfInBounds_toArray, List.set_cons_zero, List.set_cons_succ]
  go_loopw [0, 1, 5] (fun v0 v1 v5 w' => ∃ (f : Nat) (l : List Int) (x m : Int) (g : Nat), v0 = .int .u32 x ∧ v1 = .int .i64 m ∧ v5 = .pointer (some ⟨g, 0, none⟩) ∧ Aside0 (l.length = 32) ∧ Aside0 (w.heap.size ≤ g) ∧ Aside0 (w'.heap[g]? = some (.cells (row32 l) 59 (0, 0))) ∧ Aside0 (zerosG f l x m = zerosI s n) ∧ Aside0 (m < 2 ^ f) ∧ Aside0 (Below w.heap.size w w')) (fun _ v1 _ _ => (intOf v1).toNat)
  case atStart => exact ⟨63, noughtL, s, n, g, rfl, rfl, rfl, ⟨noughtTo_len _⟩, HL, H2, ⟨rfl⟩, hN, HB⟩
  case round =>
    obtain ⟨f, l, x, m, g', rfl, rfl, rfl, HL, HG, HC, HZ, HM, HB⟩ := hrel
    by_cases hpos : 0 < m
    · have hp : decide (0 < m) = true := decide_eq_true hpos
      have HP := Aside0.mk hpos
      clear hpos
      cases f with
      | zero => exact absurd HM.out (by have := HP.out; omega)
      | succ f =>
        have hz := HZ.out
        simp only [zerosG] at hz
        rw [if_pos HP.out] at hz
        have HZ := Aside0.mk hz
        clear hz
        by_cases hodd : Go.bits .and .i64 m 1 = 1
        · have ho : (Go.bits .and .i64 m 1 == 1) = true := beq_iff_eq.mpr hodd
          go_wp2_with (first | ((with_reducible refine gate_dst (N := 16) rfl ?_); refine wpList_load_row rfl 59 (.tmp 5) rfl g' rfl 59 _ (0, 0) _ HC.out Try.underlying59 rfl (size59 _ HL.out) ?_) | ((with_reducible refine gate_callee (f := 44) rfl ?_); refine goesL_ (some 18) rfl rfl Try.func44 (by kernel_rfl) rfl #[.agg (row32 l), .int .u32 x] rfl (by (try simp only [List.map_toArray, List.map_cons, List.map_nil]); first | done | rfl) ?_; (with_reducible refine (sum_step_of.calls0 l x _ HL.out).mono ?_); rintro e w4 ⟨rfl, hb⟩; have HBB := Aside0.mk (below_step HB.out hb); have H1 := Aside0.mk ((hb.block _ (blk_lt HC.out)).trans HC.out); clear hb; refine ⟨_, rfl, ?_⟩) | ((with_reducible refine gate_dst (N := 19) rfl ?_); refine wpList_load_row rfl 59 (.tmp 5) rfl g' rfl 59 _ (0, 0) _ H1.out Try.underlying59 rfl (size59 _ HL.out) ?_) | ((with_reducible refine gate_dst (N := 5) rfl ?_); refine alloc59 rfl rfl ?_; intro w5 hA hA1 hB1; have H3 := Aside0.mk hA; have H3s := Aside0.mk hA1; have H3b := Aside0.mk hB1; clear hA hA1 hB1) | ((with_reducible refine gate_store (t := 59) (p := 5) (v := .tmp 19) rfl ?_); refine store59 rfl rfl (.tmp 5) (.tmp 19) rfl w4.heap.size l HL.out rfl rfl (List.replicate 32 0) rfl H3.out ?_; have h4 : (w5.setRow w4.heap.size (row32 l)).heap[w4.heap.size]? = some (.cells (row32 l) 59 (0, 0)) := setRow_heap _ _ _ _ _ _ H3.out; have H4 := Aside0.mk h4; have h4b : Below w.heap.size w (w5.setRow w4.heap.size (row32 l)) := step_setRow (below_step HBB.out H3b.out) (below_size HBB.out) _; have H4b := Aside0.mk h4b; have H4g := Aside0.mk (below_size HBB.out); clear h4 h4b; generalize w5.setRow w4.heap.size (row32 l) = w6 at H4 H4b ⊢; generalize w4.heap.size = g4 at H4 H4g ⊢) | ((with_reducible refine gate_dst (N := 11) rfl ?_); refine wpList_load_row rfl 59 (.tmp 5) rfl g4 rfl 59 _ (0, 0) _ H4.out Try.underlying59 rfl (size59 _ HL.out) ?_) | ((with_reducible refine gate_callee (f := 43) rfl ?_); refine goesL_ (some 12) rfl rfl Try.func43 (by kernel_rfl) rfl #[.agg (row32 l)] rfl (by (try simp only [List.map_toArray, List.map_cons, List.map_nil]); first | done | rfl) ?_; (with_reducible refine (sum_step_twice.calls0 l _ HL.out).mono ?_); rintro e w7 ⟨rfl, hb⟩; have H7 := Aside0.mk hb; clear hb; refine ⟨_, rfl, ?_⟩) | ((with_reducible refine gate_store (t := 59) (p := 5) (v := .tmp 12) rfl ?_); refine store59 rfl rfl (.tmp 5) (.tmp 12) rfl g4 (twiceL l) (twiceTo_len _ _) rfl rfl l HL.out ((H7.out.block _ (blk_lt H4.out)).trans H4.out) ?_))
          (try simp only [Act.put, List.setIfInBounds_toArray, List.set_cons_zero, List.set_cons_succ])
          go_roundw
          case rel => exact ⟨f, twiceL l, _, m / 2, g4, rfl, by first | rfl | go_num, rfl, ⟨twiceTo_len _ _⟩, H4g, ⟨setRow_heap _ _ _ _ _ _ ((H7.out.block _ (blk_lt H4.out)).trans H4.out)⟩, ⟨by rw [← HZ.out, if_pos hodd]⟩, ⟨by have := HM.out; rw [Int.pow_succ] at this; omega⟩, ⟨step_setRow (below_step H4b.out H7.out) H4g.out _⟩⟩
          case measure => have := HP.out; simp [intOf]; omega
        · have ho : (Go.bits .and .i64 m 1 == 1) = false := beq_eq_false_iff_ne.mpr hodd
          obtain ⟨w4, hw4⟩ : ∃ w4, w4 = wr := ⟨_, rfl⟩
          subst hw4
          have HBB := HB
          have H1 := HC
          go_wp2_with (first | ((with_reducible refine gate_dst (N := 19) rfl ?_); refine wpList_load_row rfl 59 (.tmp 5) rfl g' rfl 59 _ (0, 0) _ H1.out Try.underlying59 rfl (size59 _ HL.out) ?_) | ((with_reducible refine gate_dst (N := 5) rfl ?_); refine alloc59 rfl rfl ?_; intro w5 hA hA1 hB1; have H3 := Aside0.mk hA; have H3s := Aside0.mk hA1; have H3b := Aside0.mk hB1; clear hA hA1 hB1) | ((with_reducible refine gate_store (t := 59) (p := 5) (v := .tmp 19) rfl ?_); refine store59 rfl rfl (.tmp 5) (.tmp 19) rfl w4.heap.size l HL.out rfl rfl (List.replicate 32 0) rfl H3.out ?_; have h4 : (w5.setRow w4.heap.size (row32 l)).heap[w4.heap.size]? = some (.cells (row32 l) 59 (0, 0)) := setRow_heap _ _ _ _ _ _ H3.out; have H4 := Aside0.mk h4; have h4b : Below w.heap.size w (w5.setRow w4.heap.size (row32 l)) := step_setRow (below_step HBB.out H3b.out) (below_size HBB.out) _; have H4b := Aside0.mk h4b; have H4g := Aside0.mk (below_size HBB.out); clear h4 h4b; generalize w5.setRow w4.heap.size (row32 l) = w6 at H4 H4b ⊢; generalize w4.heap.size = g4 at H4 H4g ⊢) | ((with_reducible refine gate_dst (N := 11) rfl ?_); refine wpList_load_row rfl 59 (.tmp 5) rfl g4 rfl 59 _ (0, 0) _ H4.out Try.underlying59 rfl (size59 _ HL.out) ?_) | ((with_reducible refine gate_callee (f := 43) rfl ?_); refine goesL_ (some 12) rfl rfl Try.func43 (by kernel_rfl) rfl #[.agg (row32 l)] rfl (by (try simp only [List.map_toArray, List.map_cons, List.map_nil]); first | done | rfl) ?_; (with_reducible refine (sum_step_twice.calls0 l _ HL.out).mono ?_); rintro e w7 ⟨rfl, hb⟩; have H7 := Aside0.mk hb; clear hb; refine ⟨_, rfl, ?_⟩) | ((with_reducible refine gate_store (t := 59) (p := 5) (v := .tmp 12) rfl ?_); refine store59 rfl rfl (.tmp 5) (.tmp 12) rfl g4 (twiceL l) (twiceTo_len _ _) rfl rfl l HL.out ((H7.out.block _ (blk_lt H4.out)).trans H4.out) ?_))
          (try simp only [Act.put, List.setIfInBounds_toArray, List.set_cons_zero, List.set_cons_succ])
          go_roundw
          case rel => exact ⟨f, twiceL l, _, m / 2, g4, rfl, by first | rfl | go_num, rfl, ⟨twiceTo_len _ _⟩, H4g, ⟨setRow_heap _ _ _ _ _ _ ((H7.out.block _ (blk_lt H4.out)).trans H4.out)⟩, ⟨by rw [← HZ.out, if_neg hodd]⟩, ⟨by have := HM.out; rw [Int.pow_succ] at this; omega⟩, ⟨step_setRow (below_step H4b.out H7.out) H4g.out _⟩⟩
          case measure => have := HP.out; simp [intOf]; omega
    · have hp : decide (0 < m) = false := decide_eq_false hpos
      have HP := Aside0.mk hpos
      clear hpos
      have e_ : zerosI s n = x := by
        rw [← HZ.out]
        cases f with
        | zero => rfl
        | succ f =>
          show (if 0 < m then _ else x) = x
          exact if_neg HP.out
      have HE := Aside0.mk e_
      clear e_
      go_wp2
      go_ret
      exact ⟨congrArg (fun z => Ending.returned (.int .u32 z)) HE.out.symm, HB.out⟩
end Go.Proofs.Ytjlckmekajlbmaa.G
