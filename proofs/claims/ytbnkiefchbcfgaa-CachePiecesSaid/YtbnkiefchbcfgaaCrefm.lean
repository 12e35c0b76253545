/- The document's cache in memory: its two rows of the call's own, the row of what is not settled. -/
import Derived.Test.YtbnkiefchbcfgaaCwrite
import Derived.Maps.AppendAt
set_option linter.unusedVariables false
set_option linter.unusedSimpArgs false
namespace Go.Proofs.Ytbnkiefchbcfgaa.U
open Go.RowKit Go.Proofs Go.Lib Go.Proofs.YtbnkiefchbcfgaaW.PrintWords

def bools (l : List Bool) : List Value := l.map Value.bool
theorem bools_len (l : List Bool) : (bools l).length = l.length := by simp [bools]
theorem infoB : (Try.prog.info? 4).map (fun i => (i.zero, i.size, i.bytes)) = some (some (.bool false), 1, 1) := by kernel_rfl
structure RefC (w : World) (N : Nat → Prop) (base R lvl : Nat) (B : List Int) (Z : List Bool) (os : List Ext) (vB vZ : Value) (rA : Option Addr) (rc : Nat) : Prop where
  head : w.heap[R]? = some (.cells #[.int .u8 (lvl : Int), vB, vZ, .slice rA os.length rc] 72 (0, 0))
  rb : w.ownsRow base 5 1 vB B.length (nums .u8 B)
  rz : w.ownsRow base 4 1 vZ Z.length (bools Z)
  opn : OpenAt w (fun k => vB.ownBlock = some k ∨ N k) rA rc os
  bL : ∀ L o, rA = some ⟨L, o, none⟩ → base ≤ L
/-- What a call on it may change. -/
structure FrR (w w' : World) (R : Nat) (vB vZ : Value) (rA : Option Addr) (vB' vZ' : Value) (rA' : Option Addr) : Prop where
  os : w'.os = w.os
  tape : w'.tape = w.tape
  output : w'.output = w.output
  size : w.heap.size ≤ w'.heap.size
  block : ∀ k : Nat, k < w.heap.size → k ≠ R → vB.ownBlock ≠ some k → vZ.ownBlock ≠ some k → (∀ o, rA ≠ some ⟨k, o, none⟩) → w'.heap[k]? = w.heap[k]?
  nb : ∀ k : Nat, vB'.ownBlock = some k → vB.ownBlock = some k ∨ w.heap.size ≤ k
  nz : ∀ k : Nat, vZ'.ownBlock = some k → vZ.ownBlock = some k ∨ w.heap.size ≤ k
  nl : SameL w rA rA'
variable {w w1 w2 : World} {N : Nat → Prop} {base R lvl : Nat} {B : List Int} {Z : List Bool} {os : List Ext} {vB vZ vB' vZ' vB2 vZ2 : Value} {rA rA' rA2 : Option Addr} {rc : Nat}
theorem FrR.refl (w : World) (R : Nat) (vB vZ : Value) (rA : Option Addr) : FrR w w R vB vZ rA vB vZ rA := ⟨rfl, rfl, rfl, Nat.le_refl _, fun _ _ _ _ _ _ => rfl, fun _ h => .inl h, fun _ h => .inl h, SameL.refl _ _⟩
theorem FrR.below (h : FrR w w1 R vB vZ rA vB' vZ' rA') (hb : Below w1.heap.size w1 w2) : FrR w w2 R vB vZ rA vB' vZ' rA' :=
  ⟨hb.os.trans h.os, hb.tape.trans h.tape, hb.output.trans h.output, Nat.le_trans h.size hb.size, fun k hk h1 h2 h3 h4 => (hb.block k (Nat.lt_of_lt_of_le hk h.size)).trans (h.block k hk h1 h2 h3 h4), h.nb, h.nz, h.nl⟩
theorem FrR.set (h : FrR w w1 R vB vZ rA vB' vZ' rA') (j : Nat) (v : Value) : FrR w (w1.setCell ⟨R, j, none⟩ v) R vB vZ rA vB' vZ' rA' :=
  ⟨h.os, h.tape, h.output, by show _ ≤ (w1.heap.modify R _).size; rw [Array.size_modify]; exact h.size, fun k hk h1 h2 h3 h4 => (set_other v h1).trans (h.block k hk h1 h2 h3 h4), h.nb, h.nz, h.nl⟩
theorem FrR.drew (h : FrR w w1 R vB vZ rA vB' vZ' rA') : FrR w w1.drew R vB vZ rA vB' vZ' rA' := ⟨h.os, h.tape, h.output, h.size, h.block, h.nb, h.nz, h.nl⟩
theorem RefC.drew (h : RefC w N base R lvl B Z os vB vZ rA rc) : RefC w.drew N base R lvl B Z os vB vZ rA rc := ⟨h.head, h.rb, h.rz, h.opn.kept (fun _ _ _ => rfl) (fun _ _ _ h => h), h.bL⟩
theorem FrR.trans (h : FrR w w1 R vB vZ rA vB' vZ' rA') (h2 : FrR w1 w2 R vB' vZ' rA' vB2 vZ2 rA2) : FrR w w2 R vB vZ rA vB2 vZ2 rA2 :=
  ⟨h2.os.trans h.os, h2.tape.trans h.tape, h2.output.trans h.output, Nat.le_trans h.size h2.size, fun k hk g1 g2 g3 g4 => (h2.block k (Nat.lt_of_lt_of_le hk h.size) g1 (fun e => by
    rcases h.nb k e with h4 | h4
    · exact g2 h4
    · omega) (fun e => by
    rcases h.nz k e with h4 | h4
    · exact g3 h4
    · omega) (fun o e => by
    rcases h.nl k o e with ⟨o', h4⟩ | h4
    · exact g4 o' h4
    · omega)).trans (h.block k hk g1 g2 g3 g4), fun k hk => by
      rcases h2.nb k hk with h3 | h3
      · exact h.nb k h3
      · exact .inr (Nat.le_trans h.size h3), fun k hk => by
      rcases h2.nz k hk with h3 | h3
      · exact h.nz k h3
      · exact .inr (Nat.le_trans h.size h3), h.nl.trans h2.nl h.size⟩
theorem own_slice_form {w : World} {base : Nat} {e : TypeId} {size n : Nat} {v : Value} {xs : List Value} (h : w.ownsRow base e size v n xs) : ∃ A c, v = .slice A n c ∧ n ≤ c ∧ (A = none ∧ c = 0 ∨ ∃ g, A = some ⟨g, 0, none⟩) := by
  rcases h.2 with ⟨rfl, rfl⟩ | ⟨g, cap, cur, rfl, _, _, hc, _⟩
  · exact ⟨none, 0, rfl, Nat.le_refl _, .inl ⟨rfl, rfl⟩⟩
  · exact ⟨_, cap, rfl, hc, .inr ⟨g, rfl⟩⟩
theorem own_type {w : World} {base : Nat} {e : TypeId} {size n : Nat} {v : Value} {xs : List Value} (h : w.ownsRow base e size v n xs) (k : Nat) (hk : v.ownBlock = some k) : ∃ cells, w.heap[k]? = some (.cells cells e (0, 0)) := by
  rcases h.2 with ⟨rfl, _⟩ | ⟨g, cap, cur, rfl, hg, hh, r⟩
  · simp [Value.ownBlock] at hk
  · have : g = k := by simpa [Value.ownBlock] using hk
    subst this
    exact ⟨cur, hh⟩
theorem own_ne {w : World} {base base' : Nat} {e e' : TypeId} {size n size' n' : Nat} {v v' : Value} {xs xs' : List Value} (h : w.ownsRow base e size v n xs) (h' : w.ownsRow base' e' size' v' n' xs') (hne : e ≠ e') (k : Nat) (hk : v.ownBlock = some k) : v'.ownBlock ≠ some k := fun hk' => by
  obtain ⟨c1, h1⟩ := own_type h k hk
  obtain ⟨c2, h2⟩ := own_type h' k hk'
  exact ne_block h1 h2 hne rfl
theorem own_ne_block {w : World} {base : Nat} {e t : TypeId} {size n g : Nat} {v : Value} {xs : List Value} {cs : Array Value} {fz : Nat × Nat} (h : w.ownsRow base e size v n xs) (hg : w.heap[g]? = some (.cells cs t fz)) (hne : e ≠ t) : v.ownBlock ≠ some g := fun hk => by
  obtain ⟨c1, h1⟩ := own_type h g hk
  exact ne_block h1 hg hne rfl
theorem own_stay {w w' : World} {base : Nat} {e : TypeId} {size n : Nat} {v : Value} {xs : List Value} (h : w.ownsRow base e size v n xs) (hm : ∀ k, v.ownBlock = some k → w'.heap[k]? = w.heap[k]?) : w'.ownsRow base e size v n xs := by
  obtain ⟨h1, h2⟩ := h
  refine ⟨h1, ?_⟩
  rcases h2 with h2 | ⟨g, cap, cur, rfl, hg, hh, r⟩
  · exact .inl h2
  · exact .inr ⟨g, cap, cur, rfl, hg, (hm g (by simp [Value.ownBlock])).trans hh, r⟩
theorem RefC.below (h : RefC w N base R lvl B Z os vB vZ rA rc) (hb : Below w.heap.size w w1) : RefC w1 N base R lvl B Z os vB vZ rA rc := ⟨kept_below hb _ _ h.head, own_below h.rb hb, own_below h.rz hb, h.opn.below hb, h.bL⟩
theorem RefC.lt (h : RefC w N base R lvl B Z os vB vZ rA rc) : R < w.heap.size := (Array.getElem?_eq_some_iff.1 h.head).1
theorem RefC.c0 (h : RefC w N base R lvl B Z os vB vZ rA rc) : w.cell? ⟨R, 0, none⟩ = some (.int .u8 (lvl : Int)) := by rw [Lib.cell_of_heap h.head]; rfl
theorem RefC.c1 (h : RefC w N base R lvl B Z os vB vZ rA rc) : w.cell? ⟨R, 1, none⟩ = some vB := by rw [Lib.cell_of_heap h.head]; rfl
theorem RefC.c2 (h : RefC w N base R lvl B Z os vB vZ rA rc) : w.cell? ⟨R, 2, none⟩ = some vZ := by rw [Lib.cell_of_heap h.head]; rfl
theorem RefC.c3 (h : RefC w N base R lvl B Z os vB vZ rA rc) : w.cell? ⟨R, 3, none⟩ = some (.slice rA os.length rc) := by rw [Lib.cell_of_heap h.head]; rfl
theorem RefC.fz (h : RefC w N base R lvl B Z os vB vZ rA rc) (j : Nat) : w.frozen? ⟨R, j, none⟩ = false := Lib.frozen_of_heap h.head j
/-- Bytes in rows stand when a block is written in which none of them lies. -/
theorem EC.apart {w w' : World} {cs : Array Value} {xs : List Ext} (h : EC w N cs xs) (h0 : ∀ x ∈ xs, 0 < x.2.length) (hk : ∀ (g : Nat) (cs : Array Value) (fz : Nat × Nat), w.heap[g]? = some (Obj.cells cs 5 fz) → ¬ N g → w'.heap[g]? = some (Obj.cells cs 5 fz)) : EC w' N cs xs := by
  intro j x hj
  obtain ⟨A, c', q1, q2, q3, q4⟩ := h j x hj
  obtain ⟨g, o, ks, fz, rfl, hg, hcc⟩ := q3.2 (h0 x (List.mem_of_getElem? hj))
  exact ⟨_, c', q1, q2, ⟨q3.1, fun _ => ⟨g, o, ks, fz, rfl, hk g ks fz hg (q4 g o rfl), hcc⟩⟩, q4⟩
theorem EC.also {w : World} {N' : Nat → Prop} {cs : Array Value} {xs : List Ext} (h : EC w N cs xs) (h0 : ∀ x ∈ xs, 0 < x.2.length) (hn : ∀ k, N' k → N k ∨ w.heap.size ≤ k) : EC w N' cs xs := by
  intro j x hj
  obtain ⟨A, c', q1, q2, q3, q4⟩ := h j x hj
  obtain ⟨g, o, ks, fz, rfl, hg, hcc⟩ := q3.2 (h0 x (List.mem_of_getElem? hj))
  refine ⟨_, c', q1, q2, q3, fun g' o' e hn' => ?_⟩
  injection e with e
  injection e with e
  subst e
  rcases hn _ hn' with h1 | h1
  · exact q4 g o rfl h1
  · have := (Array.getElem?_eq_some_iff.1 hg).1
    omega
theorem OpenAt.apart {w w' : World} {oA : Option Addr} {oc : Nat} {os : List Ext} (h : OpenAt w N oA oc os) (h0 : ∀ x ∈ os, 0 < x.2.length) (hO : ∀ O o, oA = some ⟨O, o, none⟩ → w'.heap[O]? = w.heap[O]?) (hk : ∀ (g : Nat) (cs : Array Value) (fz : Nat × Nat), w.heap[g]? = some (Obj.cells cs 5 fz) → ¬ N g → w'.heap[g]? = some (Obj.cells cs 5 fz)) : OpenAt w' N oA oc os := by
  rcases h with h2 | ⟨L, k, cs, e, hL, hs, hc, he⟩
  · exact .inl h2
  · exact .inr ⟨L, k, cs, e, (hO L _ e).trans hL, hs, hc, he.apart h0 hk⟩
theorem OpenAt.also {w : World} {N' : Nat → Prop} {oA : Option Addr} {oc : Nat} {os : List Ext} (h : OpenAt w N oA oc os) (h0 : ∀ x ∈ os, 0 < x.2.length) (hn : ∀ k, N' k → N k ∨ w.heap.size ≤ k) : OpenAt w N' oA oc os := by
  rcases h with h2 | ⟨L, k, cs, e, hL, hs, hc, he⟩
  · exact .inl h2
  · exact .inr ⟨L, k, cs, e, hL, hs, hc, he.also h0 hn⟩
theorem KnownAt.apart {w w' : World} {lA : Option Addr} {c : Nat} {xs : List Ext} (h : KnownAt w N lA c xs) (h0 : ∀ x ∈ xs, 0 < x.2.length) (hL : ∀ L o, lA = some ⟨L, o, none⟩ → w'.heap[L]? = w.heap[L]?) (hk : ∀ (g : Nat) (cs : Array Value) (fz : Nat × Nat), w.heap[g]? = some (Obj.cells cs 5 fz) → ¬ N g → w'.heap[g]? = some (Obj.cells cs 5 fz)) : KnownAt w' N lA c xs := by
  rcases h with h2 | ⟨L, cs, e, hh, hs, hc, he⟩
  · exact .inl h2
  · exact .inr ⟨L, cs, e, (hL L _ e).trans hh, hs, hc, he.apart h0 hk⟩
theorem KnownAt.also {w : World} {N' : Nat → Prop} {lA : Option Addr} {c : Nat} {xs : List Ext} (h : KnownAt w N lA c xs) (h0 : ∀ x ∈ xs, 0 < x.2.length) (hn : ∀ k, N' k → N k ∨ w.heap.size ≤ k) : KnownAt w N' lA c xs := by
  rcases h with h2 | ⟨L, cs, e, hh, hs, hc, he⟩
  · exact .inl h2
  · exact .inr ⟨L, cs, e, hh, hs, hc, he.also h0 hn⟩
/-- A cell of the first, the second row is written. -/
theorem RefC.putB {g n c : Nat} (h : RefC w N base R lvl B Z os (.slice (some ⟨g, 0, none⟩) n c) vZ rA rc) (h0 : ∀ x ∈ os, 0 < x.2.length) (hn : n = B.length) (j : Nat) (b : Int) : RefC (w.setCell ⟨g, j, none⟩ (.int .u8 b)) N base R lvl (B.set j b) Z os (.slice (some ⟨g, 0, none⟩) n c) vZ rA rc := by
  subst hn
  obtain ⟨r1, r2⟩ := h.rb.stored j (.int .u8 b)
  have hne : R ≠ g := fun e => own_ne_block h.rb (e ▸ h.head) (by decide) rfl
  refine ⟨(set_other _ hne).trans h.head, ?_, own_stay h.rz fun k hk => set_other _ (fun e => own_ne h.rz h.rb (by decide) k hk (by rw [e]; rfl)), h.opn.apart h0 (fun O o e => ?_) (fun g' cs fz hh hng => ?_), h.bL⟩
  · rw [List.length_set, nums, List.map_set]
    exact r1
  · obtain ⟨_, cs, hO⟩ := h.opn.at_ e
    exact set_other _ (fun e => own_ne_block h.rb hO (by decide) (by rw [e]; rfl))
  · rw [set_other _ (fun e => hng (.inl (by rw [e]; rfl)))]
    exact hh
theorem RefC.putZ {g n c : Nat} (h : RefC w N base R lvl B Z os vB (.slice (some ⟨g, 0, none⟩) n c) rA rc) (hn : n = Z.length) (j : Nat) (b : Bool) : RefC (w.setCell ⟨g, j, none⟩ (.bool b)) N base R lvl B (Z.set j b) os vB (.slice (some ⟨g, 0, none⟩) n c) rA rc := by
  subst hn
  obtain ⟨r1, r2⟩ := h.rz.stored j (.bool b)
  have hne : R ≠ g := fun e => own_ne_block h.rz (e ▸ h.head) (by decide) rfl
  refine ⟨(set_other _ hne).trans h.head, own_stay h.rb fun k hk => set_other _ (fun e => own_ne h.rb h.rz (by decide) k hk (by rw [e]; rfl)), ?_, h.opn.kept (fun O o e => ?_) (fun g' cs fz hh => ?_), h.bL⟩
  · rw [List.length_set, bools, List.map_set]
    exact r1
  · obtain ⟨_, cs, hO⟩ := h.opn.at_ e
    exact set_other _ (fun e => own_ne_block h.rz hO (by decide) (by rw [e]; rfl))
  · rw [set_other _ (fun e => own_ne_block h.rz hh (by decide) (by rw [e]; rfl))]
    exact hh
/-- What lay may change: the two rows. -/
structure FrL (w w' : World) (vB vZ : Value) : Prop where
  os : w'.os = w.os
  tape : w'.tape = w.tape
  output : w'.output = w.output
  size : w.heap.size ≤ w'.heap.size
  block : ∀ k : Nat, k < w.heap.size → vB.ownBlock ≠ some k → vZ.ownBlock ≠ some k → w'.heap[k]? = w.heap[k]?
theorem FrL.refl (w : World) (vB vZ : Value) : FrL w w vB vZ := ⟨rfl, rfl, rfl, Nat.le_refl _, fun _ _ _ _ => rfl⟩
theorem FrL.drew (h : FrL w w1 vB vZ) : FrL w w1.drew vB vZ := ⟨h.os, h.tape, h.output, h.size, h.block⟩
theorem FrL.of_below (h : Below w.heap.size w w1) (vB vZ : Value) : FrL w w1 vB vZ := ⟨h.os, h.tape, h.output, h.size, fun k hk _ _ => h.block k hk⟩
theorem FrL.trans (h : FrL w w1 vB vZ) (h2 : FrL w1 w2 vB vZ) : FrL w w2 vB vZ := ⟨h2.os.trans h.os, h2.tape.trans h.tape, h2.output.trans h.output, Nat.le_trans h.size h2.size, fun k hk h3 h4 => (h2.block k (Nat.lt_of_lt_of_le hk h.size) h3 h4).trans (h.block k hk h3 h4)⟩
theorem FrL.toR (h : FrL w w1 vB vZ) (R : Nat) (rA : Option Addr) : FrR w w1 R vB vZ rA vB vZ rA := ⟨h.os, h.tape, h.output, h.size, fun k hk _ h2 h3 _ => h.block k hk h2 h3, fun _ h => .inl h, fun _ h => .inl h, SameL.refl _ _⟩
theorem FrL.putB {g n c j : Nat} {v : Value} (h : FrL w w1 (.slice (some ⟨g, 0, none⟩) n c) vZ) : FrL w (w1.setCell ⟨g, j, none⟩ v) (.slice (some ⟨g, 0, none⟩) n c) vZ :=
  ⟨h.os, h.tape, h.output, by show _ ≤ (w1.heap.modify g _).size; rw [Array.size_modify]; exact h.size, fun k hk h1 h2 => (set_other v (fun e => h1 (by rw [e]; rfl))).trans (h.block k hk h1 h2)⟩
theorem FrL.putZ {g n c j : Nat} {v : Value} (h : FrL w w1 vB (.slice (some ⟨g, 0, none⟩) n c)) : FrL w (w1.setCell ⟨g, j, none⟩ v) vB (.slice (some ⟨g, 0, none⟩) n c) :=
  ⟨h.os, h.tape, h.output, by show _ ≤ (w1.heap.modify g _).size; rw [Array.size_modify]; exact h.size, fun k hk h1 h2 => (set_other v (fun e => h2 (by rw [e]; rfl))).trans (h.block k hk h1 h2)⟩
theorem OpenAt.piece_ {w : World} {N : Nat → Prop} {oA : Option Addr} {oc : Nat} {os : List Ext} (h : OpenAt w N oA oc os) {i : Nat} {x : Ext} (hi : os[i]? = some x) :
    ∃ O k A c', oA = some ⟨O, k * 2, none⟩ ∧ O < w.heap.size ∧ w.cell? ⟨O, k * 2 + i * 2, none⟩ = some (.int .i64 (x.1 : Int)) ∧ w.cell? ⟨O, k * 2 + (i * 2 + 1), none⟩ = some (.slice A x.2.length c') ∧ BR w A c' x.2 ∧ ∀ g o, A = some ⟨g, o, none⟩ → ¬ N g := by
  rcases h with ⟨_, rfl, _⟩ | ⟨L, k, cs, e, hL, hs, hc, he⟩
  · simp at hi
  · obtain ⟨A, c', h1, h2, h3, h4⟩ := he i x hi
    rw [List.getElem?_toArray, List.getElem?_drop, Array.getElem?_toList] at h1 h2
    exact ⟨L, k, A, c', e, (Array.getElem?_eq_some_iff.1 hL).1, by rw [Lib.cell_of_heap hL]; exact h1, by rw [Lib.cell_of_heap hL]; exact h2, h3, h4⟩
theorem FrR.putB {g n c j : Nat} {v : Value} (h : FrR w w1 R vB vZ rA (.slice (some ⟨g, 0, none⟩) n c) vZ' rA') : FrR w (w1.setCell ⟨g, j, none⟩ v) R vB vZ rA (.slice (some ⟨g, 0, none⟩) n c) vZ' rA' :=
  ⟨h.os, h.tape, h.output, by show _ ≤ (w1.heap.modify g _).size; rw [Array.size_modify]; exact h.size, fun k hk h1 h2 h3 h4 => (set_other v (fun e => by
    rcases h.nb g rfl with h5 | h5
    · exact h2 (e ▸ h5)
    · omega)).trans (h.block k hk h1 h2 h3 h4), h.nb, h.nz, h.nl⟩
theorem FrR.putZ {g n c j : Nat} {v : Value} (h : FrR w w1 R vB vZ rA vB' (.slice (some ⟨g, 0, none⟩) n c) rA') : FrR w (w1.setCell ⟨g, j, none⟩ v) R vB vZ rA vB' (.slice (some ⟨g, 0, none⟩) n c) rA' :=
  ⟨h.os, h.tape, h.output, by show _ ≤ (w1.heap.modify g _).size; rw [Array.size_modify]; exact h.size, fun k hk h1 h2 h3 h4 => (set_other v (fun e => by
    rcases h.nz g rfl with h5 | h5
    · exact h3 (e ▸ h5)
    · omega)).trans (h.block k hk h1 h2 h3 h4), h.nb, h.nz, h.nl⟩
/-! ### Plain -/
theorem rput_step {α : Type} (p : Nat) (b l : List α) (i : Nat) (x : α) (hx : b[i]? = some x) (hl : p + i < l.length) : (rput p (b.take i) l).set (p + i) x = rput p (b.take (i + 1)) l := by
  have hi := (List.getElem?_eq_some_iff.1 hx).1
  have h1 : (b.take i).length = i := by rw [List.length_take]; omega
  have h2 : (b.take (i + 1)).length = i + 1 := by rw [List.length_take]; omega
  have e1 : p + (b.take i).length ≤ l.length := by omega
  have e2 : p + (b.take (i + 1)).length ≤ l.length := by omega
  apply List.ext_getElem?
  intro j
  rw [List.getElem?_set, rput_length e1, rput_get e1, rput_get e2, h1, h2, List.getElem?_take, List.getElem?_take]
  by_cases hj : p + i = j
  · subst hj
    rw [if_pos rfl, if_pos hl, if_pos (by omega), if_pos (by omega), Nat.add_sub_cancel_left, hx]
  · rw [if_neg hj]
    by_cases h3 : p ≤ j ∧ j < p + i
    · rw [if_pos h3, if_pos (by omega), if_pos (by omega), if_pos (by omega)]
    · rw [if_neg h3, if_neg (by omega)]
theorem rput_nil {α : Type} (p : Nat) (l : List α) : rput p [] l = l := by
  unfold rput
  simp
theorem Rel.lay0 {size : Nat} {xs : List Ext} {B : List Int} {Z : List Bool} (h : Rel size xs B Z) (p : Nat) (b : List Int) (hp : p + b.length ≤ size) : Rel size (wr0 p b xs) (rput p b B) (rput p (List.replicate b.length true) Z) := by
  unfold wr0
  split
  · rename_i h0
    obtain rfl : b = [] := List.eq_nil_of_length_eq_zero h0
    rw [List.length_nil, List.replicate_zero, rput_nil, rput_nil]
    exact h
  · exact h.lay p b (by omega) hp
theorem Rel.blank (n : Nat) : Rel n [] (List.replicate n 0) (List.replicate n false) := by
  refine ⟨trivial, fun x hx => (by cases hx), List.length_replicate, List.length_replicate, fun i z h => ?_, fun i h => ?_⟩
  · rw [List.getElem?_replicate] at h
    split at h
    · injection h with h
      subst h
      rfl
    · cases h
  · rw [List.getElem?_replicate] at h ⊢
    split at h
    · rw [if_pos ‹_›]
    · cases h
end Go.Proofs.Ytbnkiefchbcfgaa.U
