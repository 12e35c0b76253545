/- The document's file: Extents. -/
import Derived.Test.YtjochldpacgcgaaErefw
set_option linter.unusedVariables false
set_option linter.unusedSimpArgs false
namespace Go.Proofs.Ytjochldpacgcgaa.U
open Go.RowKit Go.Proofs Go.Lib Go.Proofs.YtjochldpacgcgaaW.PrintWords

/-- A row of pieces of the call's own; the last one's bytes are a row of the call's own, too. -/
def RX (w : World) (base : Nat) (v : Value) (X : List Ext) : Prop :=
  (X = [] ∧ v = .slice none 0 0) ∨ ∃ X0 x l0 vb, X = X0 ++ [x] ∧ RowAt w v X.length (l0 ++ [.int .i64 (x.1 : Int), vb]) ∧ l0.length = X0.length * 2 ∧ EC w (fun k => k < base ∨ vb.ownBlock = some k) l0.toArray X0 ∧
    w.ownsRow base 5 1 vb x.2.length (nums .u8 x.2) ∧ (∀ k, v.ownBlock = some k → base ≤ k) ∧ ∀ u ∈ l0, u.oneCell' = true
theorem EC.weak {w : World} {N N' : Nat → Prop} {cs : Array Value} {xs : List Ext} (h : EC w N cs xs) (hn : ∀ k, N' k → N k) : EC w N' cs xs := by
  intro j x hj
  obtain ⟨A, c, h1, h2, h3, h4⟩ := h j x hj
  exact ⟨A, c, h1, h2, h3, fun g o e hg => h4 g o e (hn g hg)⟩
theorem own_BR {w : World} {base n c : Nat} {A : Option Addr} {bs : List Int} (h : w.ownsRow base 5 1 (.slice A n c) n (nums .u8 bs)) (hn : n = bs.length) : BR w A c bs := by
  rcases Nat.eq_zero_or_pos n with h0 | h0
  · obtain rfl : bs = [] := List.eq_nil_of_length_eq_zero (by omega)
    exact BR.nil _ _ _
  · obtain ⟨O, cap, e, _, hb⟩ := BR.of_own h h0
    injection e with e1 _ e3
    subst e1 e3
    exact hb
theorem own_base {w : World} {base n c size : Nat} {e : TypeId} {A : Option Addr} {xs : List Value} (h : w.ownsRow base e size (.slice A n c) n xs) (g o : Nat) (hA : A = some ⟨g, o, none⟩) : base ≤ g := by
  subst hA
  exact (h.lt g rfl).1
theorem RX.new_ {w : World} {base : Nat} {v : Value} {X : List Ext} (h : RX w base v X) : NewX w base v X := by
  rcases h with ⟨rfl, rfl⟩ | ⟨X0, x, l0, vb, rfl, h1, h2, h3, h4, h5, h6⟩
  · exact NewX.nil _ _
  · obtain ⟨A, c, rfl, _, _⟩ := own_slice_form h4
    refine ⟨_, h1, ?_, h5, ?_⟩
    · have := (h3.weak (N' := fun k => k < base) (fun k hk => .inl hk)).replace h2 (i := X0.length) (j := X0.length) (Nat.le_refl _) (Nat.le_refl _) x A c (own_BR h4 rfl) (fun g o e hg => by have := own_base h4 g o e; omega)
      rw [List.take_of_length_le (by rw [h2]; exact Nat.le_refl _), List.drop_eq_nil_of_le (by rw [h2]; exact Nat.le_refl _), List.append_nil, List.take_of_length_le (Nat.le_refl _), List.drop_eq_nil_of_le (Nat.le_refl _)] at this
      exact this
    · intro u hu
      rcases List.mem_append.1 hu with hu | hu
      · exact h6 u hu
      · simp only [List.mem_cons, List.not_mem_nil, or_false] at hu
        rcases hu with rfl | rfl <;> rfl
theorem RX.below {w w' : World} {base : Nat} {v : Value} {X : List Ext} (h : RX w base v X) (hb : Below w.heap.size w w') : RX w' base v X := by
  rcases h with h | ⟨X0, x, l0, vb, e, h1, h2, h3, h4, h5, h6⟩
  · exact .inl h
  · exact .inr ⟨X0, x, l0, vb, e, h1.below hb, h2, h3.kept fun g cs fz hh => kept_below hb _ _ hh, own_below h4 hb, h5, h6⟩
/-- A new piece, without bytes. -/
theorem RX.newp {w : World} {base V cV i : Nat} {v : Value} {X : List Ext} {fz : Nat × Nat} (ty : TypeId) (h : RX w base v X) (hV : w.heap[V]? = some (.cells #[.int .i64 (i : Int), .slice none 0 0] 41 fz)) (hn : X.length ≤ 1000000) (hbase : base ≤ w.heap.size) :
    ∃ v' w', (Builtin.append_ #[38, 38] ty #[v, .slice (some ⟨V, 0, none⟩) 1 cV]).run Try.prog w = .ok v' w' ∧ RX w' base v' (X ++ [(i, [])]) ∧ w.grownBy w' v.ownBlock := by
  obtain ⟨l, h1, h2, h3, h4⟩ := h.new_
  obtain ⟨v', w', r1, r2, r3, r4⟩ := run_appendE w ty v X.length l V cV _ _ fz h1 hV rfl rfl hn h4
  refine ⟨v', w', r1, .inr ⟨X, (i, []), l, .slice none 0 0, rfl, by rw [List.length_append]; exact r2, h1.1, (h2.kept (h1.u8_kept r3)).weak (fun k hk => ?_), ⟨rfl, .inl ⟨rfl, rfl⟩⟩, fun k hk => ?_, h4⟩, r3⟩
  · rcases hk with hk | hk
    · exact hk
    · cases hk
  · rcases r4 k hk with h5 | h5
    · exact h3 k h5
    · omega
theorem RX.open_ {w : World} {base : Nat} {v : Value} {X0 : List Ext} {y : Ext} (h : RX w base v (X0 ++ [y])) :
    ∃ L c vb, v = .slice (some ⟨L, 0, none⟩) (X0.length + 1) c ∧ X0.length + 1 ≤ c ∧ base ≤ L ∧ L < w.heap.size ∧ w.cell? ⟨L, X0.length * 2 + 1, none⟩ = some vb ∧ w.frozen? ⟨L, X0.length * 2 + 1, none⟩ = false ∧ w.ownsRow base 5 1 vb y.2.length (nums .u8 y.2) ∧
      ∀ (w2 : World) (v2 : Value) (b : Int), w.grownBy w2 vb.ownBlock → w2.ownsRow base 5 1 v2 (y.2.length + 1) (nums .u8 y.2 ++ [.int .u8 b]) → (v2.ownBlock = vb.ownBlock ∨ ∃ k, v2.ownBlock = some k ∧ w.heap.size ≤ k) → (∀ x ∈ X0, 0 < x.2.length) →
        w2.cell? ⟨L, X0.length * 2 + 1, none⟩ = some vb ∧ w2.frozen? ⟨L, X0.length * 2 + 1, none⟩ = false ∧ RX (w2.setCell ⟨L, X0.length * 2 + 1, none⟩ v2) base v (X0 ++ [(y.1, y.2 ++ [b])]) := by
  rcases h with ⟨h, _⟩ | ⟨X0', x, l0, vb, e, h1, h2, h3, h4, h5, h6⟩
  · simp at h
  · obtain ⟨e1, e2⟩ := List.append_inj' e rfl
    injection e2 with e2
    subst e1 e2
    have hlen : (X0 ++ [y]).length = X0.length + 1 := by rw [List.length_append]; rfl
    rw [hlen] at h1
    rcases h1.2 with ⟨_, h0⟩ | ⟨L, c, sp, rfl, hL, hnc, hc⟩
    · omega
    · have hcell : ((l0 ++ [Value.int .i64 (y.1 : Int), vb]) ++ sp).toArray[X0.length * 2 + 1]? = some vb := by
        rw [List.getElem?_toArray, List.append_assoc, List.getElem?_append_right (by omega), h2, Nat.add_sub_cancel_left]
        rfl
      refine ⟨L, c, vb, rfl, hnc, h5 L rfl, (Array.getElem?_eq_some_iff.1 hL).1, by rw [Lib.cell_of_heap hL]; exact hcell, Lib.frozen_of_heap hL _, h4, fun w2 v2 b hg ho hat hne => ?_⟩
      have hL2 : w2.heap[L]? = some (.cells ((l0 ++ [Value.int .i64 (y.1 : Int), vb]) ++ sp).toArray 41 (0, 0)) := (hg.block L (Array.getElem?_eq_some_iff.1 hL).1 (fun e => own_ne_block h4 hL (by decide) e.symm)).trans hL
      refine ⟨by rw [Lib.cell_of_heap hL2]; exact hcell, Lib.frozen_of_heap hL2 _, .inr ⟨X0, (y.1, y.2 ++ [b]), l0, v2, rfl, ⟨?_, .inr ⟨L, c, sp, by rw [List.length_append]; rfl, ?_, by rw [List.length_append]; exact hnc, ?_⟩⟩, h2, ?_, ?_, h5, h6⟩⟩
      · rw [List.length_append, List.length_append, h2]
        show X0.length * 2 + 2 = (X0.length + 1) * 2
        omega
      · rw [set_cell hL2]
        congr 2
        apply Array.ext'
        rw [Array.toList_setIfInBounds, List.toList_toArray, List.toList_toArray, List.append_assoc, List.append_assoc, List.set_append_right _ _ (by omega), h2, Nat.add_sub_cancel_left]
        rfl
      · have := hc
        simp only [List.length_append, List.length_cons, List.length_nil] at this ⊢
        omega
      · intro j x hj
        obtain ⟨A', c', q1, q2, q3, q4⟩ := h3 j x hj
        obtain ⟨g, o, cs, fz, rfl, hgc, hcc⟩ := q3.2 (hne x (List.mem_of_getElem? hj))
        have hgv := q4 g o rfl
        have hlt := (Array.getElem?_eq_some_iff.1 hgc).1
        have hgL : g ≠ L := ne_block hgc hL (by decide)
        have hg2 : w2.heap[g]? = some (.cells cs 5 fz) := (hg.block g hlt (fun e => hgv (.inr e.symm))).trans hgc
        refine ⟨_, c', q1, q2, ⟨q3.1, fun _ => ⟨g, o, cs, fz, rfl, (set_other _ hgL).trans hg2, hcc⟩⟩, fun g' o' e hk => ?_⟩
        injection e with e
        injection e with e
        subst e
        rcases hk with hk | hk
        · exact hgv (.inl hk)
        · rcases hat with e | ⟨k', e, hk'⟩
          · rw [e] at hk
            exact hgv (.inr hk)
          · rw [e] at hk
            injection hk with hk
            omega
      · rw [List.length_append, nums, List.map_append]
        refine own_stay ho fun k hk => set_other _ (fun e => ?_)
        subst e
        exact own_ne_block ho hL2 (by decide) hk
end Go.Proofs.Ytjochldpacgcgaa.U
