/-
  'append(b, x)' onto a row of the call's own, where b is read again behind it: the print's law, and with it that b reads as before, whether the new element went into b's spare cells or into a new row.
-/
import Derived.Test.YtjlckmekajlbmaaVg
import Derived.ArgAppend
import Derived.Maps.AppendAt
namespace Go.Proofs.Ytjlckmekajlbmaa.H
open Go.RowKit Go.Proofs.YtjlckmekajlbmaaW.PrintWords Go.Proofs.YtjlckmekajlbmaaW.PrintLast Go.Proofs.YtjlckmekajlbmaaW.PrintMore
variable {P : Program} {ops : Array Oper} {rest : List Oper} {o : Oper} {a : Act} {Q : Exit → Act → World → Prop} {α : Type}
theorem R_append_keep (d : Kd α) {w0 W : World} (base : Nat) (hgd : o.guard = none) (s x : Operand) (t e : TypeId) (z : Value) (bytes : Nat)
    (ho : o.op = .call { callee := .builtin .append, args := #[s, x], argTypes := #[t, t] })
    (ht : P.underlying t = some (.slice e)) (hinfo : (P.info? e).map (fun i => (i.zero, i.size, i.bytes)) = some (some z, d.sz, bytes)) (hz : z.cells.size = d.sz) (hs0 : 0 < d.sz) (hb0 : 0 < bytes)
    (v : Value) (xs : List α) (p : α) (cs : List Value) (ok okp : Nat → Prop) (hs : a.eval s = v) (hx : a.eval x = .slice (some ⟨W.heap.size, 0, none⟩) 1 1) (hp : d.M W base okp p cs) (hokp : ∀ k, okp k → ok k ∧ some k ≠ v.ownBlock) (hfresh : ∀ k, W.heap.size ≤ k → ok k)
    (HO : d.R e W base ok v xs) (HB : Below base w0 W) (hbase : base ≤ W.heap.size) (hl : (xs.length + 1) * bytes ≤ 140737488355328)
    (h : ∀ v1 w1, d.R e w1 base ok v1 (xs ++ [p]) → (∀ A n c, v = .slice A n c → d.C w1 A xs.length xs) → Below base w0 w1 → W.grownBy w1 v.ownBlock → (v1.ownBlock = v.ownBlock ∨ ∃ b, v1.ownBlock = some b ∧ W.heap.size ≤ b) → wpList P ops Q rest (a.put o.dst v1) w1) :
    wpList P ops Q (o :: rest) a (W.alloc (.cells cs.toArray e)) := by
  have HO' := HO
  obtain ⟨h0, inner, hown, hr⟩ := HO
  obtain ⟨i0, hi, hzz⟩ := Option.map_eq_some_iff.1 hinfo
  simp only [Prod.mk.injEq] at hzz
  obtain ⟨hz0, hz1, hz2⟩ := hzz
  have hys := d.K_len (d.K_of_M hp)
  have h1 := d.K_one (d.K_of_M hp)
  have hlen : xs.length + 1 ≤ 140737488355328 := Nat.le_trans (Nat.le_mul_of_pos_right _ hb0) hl
  have hnews : ∀ j u, cs[j]? = some u → (W.alloc (.cells cs.toArray e)).cell? ((⟨W.heap.size, 0, none⟩ : Addr).add j) = some u := by
    simpa using World.news_of_block (cs := cs.toArray) (t := e) (fr := (0, 0)) (heap_alloc_new W (.cells cs.toArray e))
  obtain ⟨v1, w1, hrun, hown1, hg1, _, hat1⟩ := run_append_own_at (P := P) (W.alloc (.cells cs.toArray e)) base t o.type e i0 z d.sz bytes ht hi hz0 hz1 hz2 hz hs0 v xs.length inner (hown.alloc _) ⟨W.heap.size, 0, none⟩ 1 1 cs (by rw [hys]; simp)
    hnews h1 (by simp only [maxLen]; omega) hl (by simp; omega)
  have hgr : W.grownBy w1 v.ownBlock := World.grownBy.trans (World.grownBy_alloc W _ _) hg1
  have hat : v1.ownBlock = v.ownBlock ∨ ∃ b, v1.ownBlock = some b ∧ W.heap.size ≤ b := by
    rcases hat1 with hat1 | hat1
    · exact .inl hat1
    · exact .inr ⟨_, hat1, by simp⟩
  have hR := Kd.R_appended h0 hr hp hokp hfresh hown1 hgr hat
  have keep : ∀ A n c, v = .slice A n c → d.C w1 A xs.length xs := by
    intro A n c hv
    subst hv
    obtain ⟨hn, _, hC⟩ := Kd.R_reads' HO'
    rcases hown.2 with ⟨he, h00⟩ | ⟨g, cap, cur, he, hbg, hcell, hnc, hcm, hcs, htake⟩
    · injection he with hA _ _
      subst hA
      rw [List.eq_nil_of_length_eq_zero h00]
      exact Kd.C_nil d w1
    · injection he with hA hn' hc
      subst hA
      subst hc
      by_cases hroom : xs.length + 1 ≤ c
      · have hlt : g < W.heap.size := by
          rcases Nat.lt_or_ge g W.heap.size with hlt | hge
          · exact hlt
          · rw [Array.getElem?_eq_none hge] at hcell; cases hcell
        have hcell' : (W.alloc (.cells cs.toArray e)).heap[g]? = some (.cells cur e (0, 0)) := by rw [heap_alloc_old W _ hlt]; exact hcell
        have hr' := run_append_room (P := P) (W.alloc (.cells cs.toArray e)) t o.type e i0 ht hi g xs.length c cur hcell' ⟨W.heap.size, 0, none⟩ 1 1 cs (by rw [hys, hz1]; simp) hnews h1 hroom (by rw [hz1, hys, hcs]; have := Nat.mul_le_mul_right d.sz hroom; rw [Nat.add_mul, Nat.one_mul] at this; exact this)
        rw [← hn'] at hr'
        rw [hrun] at hr'
        injection hr' with hv1 hw1
        rw [hv1] at hR
        obtain ⟨_, _, hC1⟩ := Kd.R_reads' hR
        have := Kd.C_take (m := xs.length) hC1 (by simp)
        rwa [List.take_left] at this
      · obtain ⟨v2, w2, hrun2, _, hg2⟩ := run_append_arg_grows (P := P) (W.alloc (.cells cs.toArray e)) t o.type e i0 z d.sz bytes ht hi hz0 hz1 hz2 hz hs0 ⟨g, 0, none⟩ xs.length c inner hown.1 ((hown.alloc _).cells (g := g) rfl) ⟨W.heap.size, 0, none⟩ 1 1 cs (by rw [hys]; simp)
          hnews (by omega) (by simp only [maxLen]; omega) hl
        rw [← hn'] at hrun2
        rw [hrun] at hrun2
        injection hrun2 with hv1 hw1
        rw [← hw1] at hg2
        have hgn : W.grownBy w1 none := World.grownBy.trans (World.grownBy_alloc W _ _) hg2
        exact Kd.C_below hC (Below.grown (Below.refl _ _) hgn (Nat.le_refl _) (fun k hk => by cases hk))
  refine wpList_plain hgd fun K hK' => ?_
  unfold Oper.wp
  simp [execOp, ho, resolve, invoke, builtin, hs, hx, hrun, Result.andThen]
  exact hK' _ _ (h v1 w1 hR keep ((HB.alloc hbase _).grown hg1 (by simp; omega) (own_base hown)) hgr hat)
end Go.Proofs.Ytjlckmekajlbmaa.H
