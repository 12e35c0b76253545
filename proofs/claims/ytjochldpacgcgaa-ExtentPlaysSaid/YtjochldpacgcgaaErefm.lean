/- The document's file in memory: its two rows of the call's own. -/
import Derived.Test.YtjochldpacgcgaaEextents
import Derived.Maps.AppendAt
set_option linter.unusedVariables false
set_option linter.unusedSimpArgs false
namespace Go.Proofs.Ytjochldpacgcgaa.U
open Go.RowKit Go.Proofs Go.Lib Go.Proofs.YtjochldpacgcgaaW.PrintWords

def bools (l : List Bool) : List Value := l.map Value.bool
theorem bools_len (l : List Bool) : (bools l).length = l.length := by simp [bools]
theorem infoB : (Try.prog.info? 4).map (fun i => (i.zero, i.size, i.bytes)) = some (some (.bool false), 1, 1) := by kernel_rfl
structure RefAt (w : World) (base R : Nat) (B : List Int) (Z : List Bool) (vB vZ : Value) : Prop where
  head : w.heap[R]? = some (.cells #[vB, vZ] 53 (0, 0))
  rb : w.ownsRow base 5 1 vB B.length (nums .u8 B)
  rz : w.ownsRow base 4 1 vZ Z.length (bools Z)
/-- What a call on it may change. -/
structure FrR (w w' : World) (R : Nat) (vB vZ vB' vZ' : Value) : Prop where
  os : w'.os = w.os
  tape : w'.tape = w.tape
  output : w'.output = w.output
  size : w.heap.size ≤ w'.heap.size
  block : ∀ k : Nat, k < w.heap.size → k ≠ R → vB.ownBlock ≠ some k → vZ.ownBlock ≠ some k → w'.heap[k]? = w.heap[k]?
  nb : ∀ k : Nat, vB'.ownBlock = some k → vB.ownBlock = some k ∨ w.heap.size ≤ k
  nz : ∀ k : Nat, vZ'.ownBlock = some k → vZ.ownBlock = some k ∨ w.heap.size ≤ k
variable {w w1 w2 : World} {base R : Nat} {B : List Int} {Z : List Bool} {vB vZ vB' vZ' vB2 vZ2 : Value}
theorem FrR.refl (w : World) (R : Nat) (vB vZ : Value) : FrR w w R vB vZ vB vZ := ⟨rfl, rfl, rfl, Nat.le_refl _, fun _ _ _ _ _ => rfl, fun _ h => .inl h, fun _ h => .inl h⟩
theorem FrR.below (h : FrR w w1 R vB vZ vB' vZ') (hb : Below w1.heap.size w1 w2) : FrR w w2 R vB vZ vB' vZ' :=
  ⟨hb.os.trans h.os, hb.tape.trans h.tape, hb.output.trans h.output, Nat.le_trans h.size hb.size, fun k hk h1 h2 h3 => (hb.block k (Nat.lt_of_lt_of_le hk h.size)).trans (h.block k hk h1 h2 h3), h.nb, h.nz⟩
theorem FrR.set (h : FrR w w1 R vB vZ vB' vZ') (j : Nat) (v : Value) : FrR w (w1.setCell ⟨R, j, none⟩ v) R vB vZ vB' vZ' :=
  ⟨h.os, h.tape, h.output, by show _ ≤ (w1.heap.modify R _).size; rw [Array.size_modify]; exact h.size, fun k hk h1 h2 h3 => (set_other v h1).trans (h.block k hk h1 h2 h3), h.nb, h.nz⟩
theorem RefAt.drew (h : RefAt w base R B Z vB vZ) : RefAt w.drew base R B Z vB vZ := ⟨h.head, h.rb, h.rz⟩
theorem FrR.drew (h : FrR w w1 R vB vZ vB' vZ') : FrR w w1.drew R vB vZ vB' vZ' := ⟨h.os, h.tape, h.output, h.size, h.block, h.nb, h.nz⟩
theorem FrR.growB (h : FrR w w1 R vB vZ vB' vZ') (hg : w1.grownBy w2 vB'.ownBlock) (hn : vB2.ownBlock = vB'.ownBlock ∨ vB2.ownBlock = none ∨ ∃ k, vB2.ownBlock = some k ∧ w1.heap.size ≤ k) : FrR w w2 R vB vZ vB2 vZ' :=
  ⟨hg.os.trans h.os, hg.tape.trans h.tape, hg.output.trans h.output, Nat.le_trans h.size hg.size, fun k hk h1 h2 h3 => (hg.block k (Nat.lt_of_lt_of_le hk h.size) (fun e => by
    rcases h.nb k e.symm with h4 | h4
    · exact h2 h4
    · omega)).trans (h.block k hk h1 h2 h3), fun k hk => by
      rcases hn with e | e | ⟨k', e, hk'⟩
      · exact h.nb k (e ▸ hk)
      · rw [e] at hk; cases hk
      · rw [e] at hk
        injection hk with hk
        have := h.size
        omega, h.nz⟩
theorem FrR.growZ (h : FrR w w1 R vB vZ vB' vZ') (hg : w1.grownBy w2 vZ'.ownBlock) (hn : vZ2.ownBlock = vZ'.ownBlock ∨ vZ2.ownBlock = none ∨ ∃ k, vZ2.ownBlock = some k ∧ w1.heap.size ≤ k) : FrR w w2 R vB vZ vB' vZ2 :=
  ⟨hg.os.trans h.os, hg.tape.trans h.tape, hg.output.trans h.output, Nat.le_trans h.size hg.size, fun k hk h1 h2 h3 => (hg.block k (Nat.lt_of_lt_of_le hk h.size) (fun e => by
    rcases h.nz k e.symm with h4 | h4
    · exact h3 h4
    · omega)).trans (h.block k hk h1 h2 h3), h.nb, fun k hk => by
      rcases hn with e | e | ⟨k', e, hk'⟩
      · exact h.nz k (e ▸ hk)
      · rw [e] at hk; cases hk
      · rw [e] at hk
        injection hk with hk
        have := h.size
        omega⟩
theorem FrR.trans (h : FrR w w1 R vB vZ vB' vZ') (h2 : FrR w1 w2 R vB' vZ' vB2 vZ2) : FrR w w2 R vB vZ vB2 vZ2 :=
  ⟨h2.os.trans h.os, h2.tape.trans h.tape, h2.output.trans h.output, Nat.le_trans h.size h2.size, fun k hk g1 g2 g3 => (h2.block k (Nat.lt_of_lt_of_le hk h.size) g1 (fun e => by
    rcases h.nb k e with h4 | h4
    · exact g2 h4
    · omega) (fun e => by
    rcases h.nz k e with h4 | h4
    · exact g3 h4
    · omega)).trans (h.block k hk g1 g2 g3), fun k hk => by
      rcases h2.nb k hk with h3 | h3
      · exact h.nb k h3
      · exact .inr (Nat.le_trans h.size h3), fun k hk => by
      rcases h2.nz k hk with h3 | h3
      · exact h.nz k h3
      · exact .inr (Nat.le_trans h.size h3)⟩
theorem own_slice_form {w : World} {base : Nat} {e : TypeId} {size n : Nat} {v : Value} {xs : List Value} (h : w.ownsRow base e size v n xs) : ∃ A c, v = .slice A n c ∧ n ≤ c ∧ (A = none ∧ c = 0 ∨ ∃ g, A = some ⟨g, 0, none⟩) := by
  rcases h.2 with ⟨rfl, rfl⟩ | ⟨g, cap, cur, rfl, _, _, hc, _⟩
  · exact ⟨none, 0, rfl, Nat.le_refl _, .inl ⟨rfl, rfl⟩⟩
  · exact ⟨_, cap, rfl, hc, .inr ⟨g, rfl⟩⟩
theorem own_type {w : World} {base : Nat} {e : TypeId} {size n : Nat} {v : Value} {xs : List Value} (h : w.ownsRow base e size v n xs) (k : Nat) (hk : v.ownBlock = some k) : ∃ cells, w.heap[k]? = some (.cells cells e (0, 0)) := by
  rcases h.2 with ⟨rfl, _⟩ | ⟨g, cap, cur, rfl, hg, hh, r⟩
  · simp [Value.ownBlock] at hk
  · have : g = k := by simpa [Value.ownBlock] using hk
    subst this
    exact ⟨cur, hh⟩
theorem own_ne {w : World} {base base' : Nat} {e e' : TypeId} {size n size' n' : Nat} {v v' : Value} {xs xs' : List Value} (h : w.ownsRow base e size v n xs) (h' : w.ownsRow base' e' size' v' n' xs') (hne : e ≠ e') (k : Nat) (hk : v.ownBlock = some k) : v'.ownBlock ≠ some k := fun hk' => by
  obtain ⟨c1, h1⟩ := own_type h k hk
  obtain ⟨c2, h2⟩ := own_type h' k hk'
  exact ne_block h1 h2 hne rfl
theorem own_ne_block {w : World} {base : Nat} {e t : TypeId} {size n g : Nat} {v : Value} {xs : List Value} {cs : Array Value} {fz : Nat × Nat} (h : w.ownsRow base e size v n xs) (hg : w.heap[g]? = some (.cells cs t fz)) (hne : e ≠ t) : v.ownBlock ≠ some g := fun hk => by
  obtain ⟨c1, h1⟩ := own_type h g hk
  exact ne_block h1 hg hne rfl
theorem own_stay {w w' : World} {base : Nat} {e : TypeId} {size n : Nat} {v : Value} {xs : List Value} (h : w.ownsRow base e size v n xs) (hm : ∀ k, v.ownBlock = some k → w'.heap[k]? = w.heap[k]?) : w'.ownsRow base e size v n xs := by
  obtain ⟨h1, h2⟩ := h
  refine ⟨h1, ?_⟩
  rcases h2 with h2 | ⟨g, cap, cur, rfl, hg, hh, r⟩
  · exact .inl h2
  · exact .inr ⟨g, cap, cur, rfl, hg, (hm g (by simp [Value.ownBlock])).trans hh, r⟩
theorem own_take {w : World} {base : Nat} {e : TypeId} {n c k : Nat} {A : Option Addr} {xs : List Value} (h : w.ownsRow base e 1 (.slice A n c) n xs) (hk : k ≤ n) : w.ownsRow base e 1 (.slice A k c) k (xs.take k) := by
  have hl := h.1
  refine ⟨by rw [List.length_take, hl]; omega, ?_⟩
  rcases h.2 with ⟨h1, rfl⟩ | ⟨g, cap, cur, hv, hg, hh, hc, hm, hs, ht⟩
  · injection h1 with e1 e2 e3
    subst e1 e3
    obtain rfl : k = 0 := by omega
    exact .inl ⟨rfl, by simp⟩
  · injection hv with e1 e2 e3
    subst e1 e3
    exact .inr ⟨g, c, cur, rfl, hg, hh, by omega, hm, hs, by rw [← ht, List.take_take, Nat.mul_one, Nat.mul_one, Nat.min_eq_left hk]⟩
theorem RefAt.below (h : RefAt w base R B Z vB vZ) (hb : Below w.heap.size w w1) : RefAt w1 base R B Z vB vZ := ⟨kept_below hb _ _ h.head, own_below h.rb hb, own_below h.rz hb⟩
theorem RefAt.cells (h : RefAt w base R B Z vB vZ) : w.cell? ⟨R, 0, none⟩ = some vB ∧ w.cell? ⟨R, 1, none⟩ = some vZ ∧ w.frozen? ⟨R, 0, none⟩ = false ∧ w.frozen? ⟨R, 1, none⟩ = false ∧ R < w.heap.size := by
  have h1 := h.head
  exact ⟨by rw [Lib.cell_of_heap h1]; rfl, by rw [Lib.cell_of_heap h1]; rfl, Lib.frozen_of_heap h1 0, Lib.frozen_of_heap h1 1, (Array.getElem?_eq_some_iff.1 h1).1⟩
/-- The first row has been written, or made anew: laid into the block. -/
theorem RefAt.setB (h : RefAt w base R B Z vB vZ) (hg : w.grownBy w1 vB.ownBlock) {B' : List Int} {v' : Value} (ho : w1.ownsRow base 5 1 v' B'.length (nums .u8 B')) : RefAt (w1.setCell ⟨R, 0, none⟩ v') base R B' Z v' vZ := by
  have hR : w1.heap[R]? = some (.cells #[vB, vZ] 53 (0, 0)) := (hg.block R h.cells.2.2.2.2 (fun e => own_ne_block h.rb h.head (by decide) e.symm)).trans h.head
  have hz : w1.ownsRow base 4 1 vZ Z.length (bools Z) := own_stay h.rz (fun k hk => hg.block k (h.rz.lt k hk).2 (fun e => own_ne h.rz h.rb (by decide) k hk e.symm))
  refine ⟨by rw [set_cell hR]; rfl, own_stay ho fun k hk => set_other _ (fun e => ?_), own_stay hz fun k hk => set_other _ (fun e => ?_)⟩
  · subst e
    exact own_ne_block ho hR (by decide) hk
  · subst e
    exact own_ne_block hz hR (by decide) hk
theorem RefAt.setZ (h : RefAt w base R B Z vB vZ) (hg : w.grownBy w1 vZ.ownBlock) {Z' : List Bool} {v' : Value} (ho : w1.ownsRow base 4 1 v' Z'.length (bools Z')) : RefAt (w1.setCell ⟨R, 1, none⟩ v') base R B Z' vB v' := by
  have hR : w1.heap[R]? = some (.cells #[vB, vZ] 53 (0, 0)) := (hg.block R h.cells.2.2.2.2 (fun e => own_ne_block h.rz h.head (by decide) e.symm)).trans h.head
  have hb : w1.ownsRow base 5 1 vB B.length (nums .u8 B) := own_stay h.rb (fun k hk => hg.block k (h.rb.lt k hk).2 (fun e => own_ne h.rb h.rz (by decide) k hk e.symm))
  refine ⟨by rw [set_cell hR]; rfl, own_stay hb fun k hk => set_other _ (fun e => ?_), own_stay ho fun k hk => set_other _ (fun e => ?_)⟩
  · subst e
    exact own_ne_block hb hR (by decide) hk
  · subst e
    exact own_ne_block ho hR (by decide) hk
/-- A cell of the first, the second row is written. -/
theorem RefAt.putB {g n c : Nat} (h : RefAt w base R B Z (.slice (some ⟨g, 0, none⟩) n c) vZ) (hn : n = B.length) (j : Nat) (b : Int) : RefAt (w.setCell ⟨g, j, none⟩ (.int .u8 b)) base R (B.set j b) Z (.slice (some ⟨g, 0, none⟩) n c) vZ := by
  subst hn
  obtain ⟨r1, r2⟩ := h.rb.stored j (.int .u8 b)
  have hne : R ≠ g := fun e => own_ne_block h.rb (e ▸ h.head) (by decide) rfl
  refine ⟨(set_other _ hne).trans h.head, ?_, own_stay h.rz fun k hk => set_other _ (fun e => own_ne h.rz h.rb (by decide) k hk (by rw [e]; rfl))⟩
  rw [List.length_set, nums, List.map_set]
  exact r1
theorem RefAt.putZ {g n c : Nat} (h : RefAt w base R B Z vB (.slice (some ⟨g, 0, none⟩) n c)) (hn : n = Z.length) (j : Nat) (b : Bool) : RefAt (w.setCell ⟨g, j, none⟩ (.bool b)) base R B (Z.set j b) vB (.slice (some ⟨g, 0, none⟩) n c) := by
  subst hn
  obtain ⟨r1, r2⟩ := h.rz.stored j (.bool b)
  have hne : R ≠ g := fun e => own_ne_block h.rz (e ▸ h.head) (by decide) rfl
  refine ⟨(set_other _ hne).trans h.head, own_stay h.rb fun k hk => set_other _ (fun e => own_ne h.rb h.rz (by decide) k hk (by rw [e]; rfl)), ?_⟩
  rw [List.length_set, bools, List.map_set]
  exact r1
theorem FrR.putB {g n c j : Nat} {v : Value} (h : FrR w w1 R vB vZ (.slice (some ⟨g, 0, none⟩) n c) vZ') : FrR w (w1.setCell ⟨g, j, none⟩ v) R vB vZ (.slice (some ⟨g, 0, none⟩) n c) vZ' :=
  h.growB (set_grown w1 g j v) (.inl rfl)
theorem FrR.putZ {g n c j : Nat} {v : Value} (h : FrR w w1 R vB vZ vB' (.slice (some ⟨g, 0, none⟩) n c)) : FrR w (w1.setCell ⟨g, j, none⟩ v) R vB vZ vB' (.slice (some ⟨g, 0, none⟩) n c) :=
  h.growZ (set_grown w1 g j v) (.inl rfl)
/-! ### Plain -/
theorem rcut_take {α : Type} (d : α) (n : Nat) (l : List α) : rcut d n (l.take (min l.length n)) = rcut d n l := by
  unfold rcut
  rw [List.take_take, List.length_take]
  rcases Nat.le_total l.length n with h | h
  · rw [Nat.min_eq_left h, Nat.min_eq_right h, List.take_of_length_le (Nat.le_refl _), List.take_of_length_le h, Nat.min_self]
  · rw [Nat.min_eq_right h, Nat.min_self, Nat.min_eq_left h]
    congr 2
    omega
theorem rcut_snoc {α : Type} (d : α) (n : Nat) (l : List α) (h : l.length < n) : rcut d n (l ++ [d]) = rcut d n l := by
  unfold rcut
  rw [List.length_append, List.length_singleton, List.take_of_length_le (by rw [List.length_append, List.length_singleton]; omega), List.take_of_length_le (by omega), List.append_assoc]
  congr 1
  rw [show n - l.length = n - (l.length + 1) + 1 by omega, List.replicate_succ]
  rfl
theorem rcut_full {α : Type} (d : α) (n : Nat) (l : List α) (h : l.length = n) : rcut d n l = l := by
  unfold rcut
  rw [List.take_of_length_le (by omega), h, Nat.sub_self]
  simp
theorem rput_step {α : Type} (p : Nat) (b l : List α) (i : Nat) (x : α) (hx : b[i]? = some x) (hl : p + i < l.length) : (rput p (b.take i) l).set (p + i) x = rput p (b.take (i + 1)) l := by
  have hi := (List.getElem?_eq_some_iff.1 hx).1
  have h1 : (b.take i).length = i := by rw [List.length_take]; omega
  have h2 : (b.take (i + 1)).length = i + 1 := by rw [List.length_take]; omega
  have e1 : p + (b.take i).length ≤ l.length := by omega
  have e2 : p + (b.take (i + 1)).length ≤ l.length := by omega
  apply List.ext_getElem?
  intro j
  rw [List.getElem?_set, rput_length e1, rput_get e1, rput_get e2, h1, h2, List.getElem?_take, List.getElem?_take]
  by_cases hj : p + i = j
  · subst hj
    rw [if_pos rfl, if_pos hl, if_pos (by omega), if_pos (by omega), Nat.add_sub_cancel_left, hx]
  · rw [if_neg hj]
    by_cases h3 : p ≤ j ∧ j < p + i
    · rw [if_pos h3, if_pos (by omega), if_pos (by omega), if_pos (by omega)]
    · rw [if_neg h3, if_neg (by omega)]
theorem rput_nil {α : Type} (p : Nat) (l : List α) : rput p [] l = l := by
  unfold rput
  simp
end Go.Proofs.Ytjochldpacgcgaa.U
