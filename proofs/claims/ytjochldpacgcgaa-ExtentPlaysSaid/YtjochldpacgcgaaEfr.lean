/- extent: what a call on a file may change; rows of pieces beside the file. -/
import Derived.Test.YtjochldpacgcgaaEreplace
import Derived.Test.YtjochldpacgcgaaErel
import Derived.Deep.AppendLies
set_option linter.unusedVariables false
set_option linter.unusedSimpArgs false
namespace Go.Proofs.Ytjochldpacgcgaa.U
open Go.RowKit Go.Proofs Go.Lib Go.Proofs.YtjochldpacgcgaaW.PrintWords
variable {N : Nat → Prop}

/-- What a call on a file may change: its own blocks, and new ones. -/
structure Fr (w w' : World) (D : Nat) (lA : Option Addr) : Prop where
  os : w'.os = w.os
  tape : w'.tape = w.tape
  output : w'.output = w.output
  size : w.heap.size ≤ w'.heap.size
  block : ∀ k : Nat, k < w.heap.size → k ≠ D → (∀ L, lA = some ⟨L, 0, none⟩ → k ≠ L) → w'.heap[k]? = w.heap[k]?
/-- The list's block is the one that it was, or new. -/
def SameL (w : World) (lA lA' : Option Addr) : Prop := ∀ L, lA' = some ⟨L, 0, none⟩ → lA = some ⟨L, 0, none⟩ ∨ w.heap.size ≤ L
theorem SameL.refl (w : World) (lA : Option Addr) : SameL w lA lA := fun _ h => .inl h
theorem Fr.of_below {w w' : World} (h : Below w.heap.size w w') (D : Nat) (lA : Option Addr) : Fr w w' D lA := ⟨h.os, h.tape, h.output, h.size, fun k hk _ _ => h.block k hk⟩
theorem Fr.below {w w' : World} {D : Nat} {lA : Option Addr} (h : Fr w w' D lA) {B : Nat} {w0 : World} (h0 : Below B w0 w) (hB : B ≤ w0.heap.size) (hD : B ≤ D) (hL : ∀ L, lA = some ⟨L, 0, none⟩ → B ≤ L) : Below B w0 w' :=
  ⟨h.os.trans h0.os, h.tape.trans h0.tape, h.output.trans h0.output, Nat.le_trans h0.size h.size, fun k hk =>
    (h.block k (Nat.lt_of_lt_of_le hk (Nat.le_trans hB h0.size)) (by omega) (fun L e => by have := hL L e; omega)).trans (h0.block k hk)⟩
theorem Fr.grown {w w1 w2 : World} {D : Nat} {lA : Option Addr} {row : Option Nat} (h : Fr w w1 D lA) (hg : w1.grownBy w2 row) (hr : ∀ k, row = some k → lA = some ⟨k, 0, none⟩ ∨ w.heap.size ≤ k) : Fr w w2 D lA :=
  ⟨hg.os.trans h.os, hg.tape.trans h.tape, hg.output.trans h.output, Nat.le_trans h.size hg.size, fun k hk h1 h2 =>
    (hg.block k (Nat.lt_of_lt_of_le hk h.size) (fun e => by
      rcases hr k e.symm with h3 | h3
      · exact h2 k h3 rfl
      · omega)).trans (h.block k hk h1 h2)⟩
theorem Fr.set {w w1 : World} {D : Nat} {lA : Option Addr} (h : Fr w w1 D lA) (j : Nat) (v : Value) : Fr w (w1.setCell ⟨D, j, none⟩ v) D lA :=
  ⟨h.os, h.tape, h.output, by show w.heap.size ≤ (w1.heap.modify D _).size; rw [Array.size_modify]; exact h.size, fun k hk h1 h2 => (set_other v h1).trans (h.block k hk h1 h2)⟩
theorem Fr.drew {w w1 : World} {D : Nat} {lA : Option Addr} (h : Fr w w1 D lA) : Fr w w1.drew D lA := ⟨h.os, h.tape, h.output, h.size, h.block⟩
theorem DataAt.drew {w : World} {D size : Nat} {xs : List Ext} {lA : Option Addr} {c : Nat} (h : DataAt w N D size xs lA c) : DataAt w.drew N D size xs lA c := h
theorem RowAt.below {w w' : World} {v : Value} {n : Nat} {l : List Value} (h : RowAt w v n l) (hb : Below w.heap.size w w') : RowAt w' v n l := by
  refine ⟨h.1, ?_⟩
  rcases h.2 with h2 | ⟨L, c, sp, e, hL, r⟩
  · exact .inl h2
  · exact .inr ⟨L, c, sp, e, kept_below hb _ _ hL, r⟩
theorem RowAt.slice {w : World} {v : Value} {n : Nat} {l : List Value} (h : RowAt w v n l) : ∃ A c, v = .slice A n c := by
  rcases h.2 with ⟨rfl, rfl⟩ | ⟨L, c, sp, rfl, _⟩
  · exact ⟨none, 0, rfl⟩
  · exact ⟨_, c, rfl⟩
theorem own_slice {lA : Option Addr} {n c k : Nat} (h : (Value.slice lA n c).ownBlock = some k) (hl : lA = none ∨ ∃ L, lA = some ⟨L, 0, none⟩) : lA = some ⟨k, 0, none⟩ := by
  rcases hl with rfl | ⟨L, rfl⟩
  · cases h
  · simp only [Value.ownBlock, Option.some.injEq] at h
    rw [h]
theorem DataAt.head {w : World} {D size : Nat} {xs : List Ext} {lA : Option Addr} {c : Nat} (h : DataAt w N D size xs lA c) : lA = none ∨ ∃ L, lA = some ⟨L, 0, none⟩ := by
  rcases h.2 with ⟨h, _⟩ | ⟨L, _, h, _⟩
  · exact .inl h
  · exact .inr ⟨L, h⟩
theorem DataAt.lA_lt {w : World} {D size : Nat} {xs : List Ext} {lA : Option Addr} {c : Nat} (h : DataAt w N D size xs lA c) (L : Nat) (e : lA = some ⟨L, 0, none⟩) : L < w.heap.size ∧ L ≠ D := by
  rcases h.2 with ⟨h2, _⟩ | ⟨L', cs, h2, hL, _⟩
  · rw [h2] at e; cases e
  · rw [h2] at e
    injection e with e
    injection e with e
    subst e
    refine ⟨(Array.getElem?_eq_some_iff.1 hL).1, fun e => ?_⟩
    rw [e, h.1] at hL
    injection hL with hL
    injection hL with _ hL
    exact absurd hL (by decide)
theorem ok_len : ∀ (xs : List Ext) (k m : Nat), Ok k xs → (∀ x ∈ xs, en x ≤ m) → k ≤ m → xs.length + k ≤ m + 1 := by
  intro xs
  induction xs with
  | nil => intro k m _ _ h; simp; omega
  | cons x t ih =>
    intro k m h hm hk
    have e : en x = x.1 + x.2.length := rfl
    have h1 := h.1
    have h2 := h.2.1
    have h3 := hm x List.mem_cons_self
    rw [List.length_cons]
    rcases Nat.lt_or_ge m (en x + 1) with h4 | h4
    · have ht : t = [] := by
        cases t with
        | nil => rfl
        | cons y u =>
          have h5 := h.2.2.1
          have h6 := h.2.2.2.1
          have h7 := hm y (List.mem_cons_of_mem _ List.mem_cons_self)
          have e7 : en y = y.1 + y.2.length := rfl
          omega
      rw [ht]
      simp
      omega
    · have := ih _ m h.2.2 (fun y hy => hm y (List.mem_cons_of_mem _ hy)) h4
      omega
theorem ok_len' {xs : List Ext} {m : Nat} (h : Ok 0 xs) (hm : ∀ x ∈ xs, en x ≤ m) : xs.length ≤ m + 1 := ok_len xs 0 m h hm (Nat.zero_le _)
/-- Writing, in the program's own steps. -/
theorem wr_from (p : Nat) (b : List Int) : ∀ xs : List Ext, wr p b xs = xs.take (frN p xs) ++ mg (p + b.length) (p, b) (xs.drop (frN p xs)) := by
  intro xs
  induction xs with
  | nil => rfl
  | cons o t ih =>
    rw [wr, frN]
    by_cases h : en o < p
    · rw [if_pos h, if_pos h, List.take_succ_cons, List.drop_succ_cons, List.cons_append, ih]
    · rw [if_neg h, if_neg h]
      rfl
/-! ### Rows -/
theorem own_below {w w' : World} {base : Nat} {e : TypeId} {size n : Nat} {v : Value} {xs : List Value} (h : w.ownsRow base e size v n xs) (hb : Below w.heap.size w w') : w'.ownsRow base e size v n xs :=
  h.kept (row := none) ⟨hb.os, hb.tape, hb.output, hb.size, fun k hk _ => hb.block k hk⟩ (Classical.em _)
theorem own_mono {w : World} {base base' : Nat} {e : TypeId} {size n : Nat} {v : Value} {xs : List Value} (h : w.ownsRow base e size v n xs) (hb : base' ≤ base) : w.ownsRow base' e size v n xs := by
  refine ⟨h.1, ?_⟩
  rcases h.2 with h2 | ⟨g, cap, cur, hv, hg, r⟩
  · exact .inl h2
  · exact .inr ⟨g, cap, cur, hv, Nat.le_trans hb hg, r⟩
/-- The piece that Write makes: its variable X, its bytes of its own. -/
def Mine (w : World) (base X : Nat) (x : Ext) : Prop :=
  ∃ O cap, w.heap[X]? = some (.cells #[.int .i64 (x.1 : Int), .slice (some ⟨O, 0, none⟩) x.2.length cap] 41 (0, 0)) ∧ w.ownsRow base 5 1 (.slice (some ⟨O, 0, none⟩) x.2.length cap) x.2.length (nums .u8 x.2) ∧ base ≤ O ∧ O < w.heap.size
theorem Mine.below {w w' : World} {base X : Nat} {x : Ext} (h : Mine w base X x) (hb : Below w.heap.size w w') : Mine w' base X x := by
  obtain ⟨O, cap, h1, h2, h3, h4⟩ := h
  exact ⟨O, cap, kept_below hb _ _ h1, own_below h2 hb, h3, Nat.lt_of_lt_of_le h4 hb.size⟩
theorem EC.row {w : World} {cs : Array Value} {xs : List Ext} (h : EC w N cs xs) (hc : xs.length * 2 ≤ cs.size) : ∃ l sp : List Value, cs = (l ++ sp).toArray ∧ l.length = xs.length * 2 ∧ EC w N l.toArray xs ∧ ∀ u ∈ l, u.oneCell' = true := by
  refine ⟨cs.toList.take (xs.length * 2), cs.toList.drop (xs.length * 2), by rw [List.take_append_drop], by rw [List.length_take, show cs.toList.length = cs.size from Array.length_toList]; omega, ?_, ?_⟩
  · intro j x hj
    obtain ⟨A, c, h1, h2, h3⟩ := h j x hj
    have hlt := (List.getElem?_eq_some_iff.1 hj).1
    exact ⟨A, c, by rw [List.getElem?_toArray, List.getElem?_take, if_pos (by omega), Array.getElem?_toList]; exact h1, by rw [List.getElem?_toArray, List.getElem?_take, if_pos (by omega), Array.getElem?_toList]; exact h2, h3⟩
  · intro u hu
    obtain ⟨i, hi⟩ := List.mem_iff_getElem?.1 hu
    have hil := (List.getElem?_eq_some_iff.1 hi).1
    rw [List.length_take] at hil
    rw [List.getElem?_take, if_pos (by omega), Array.getElem?_toList] at hi
    have hlt : i / 2 < xs.length := by omega
    obtain ⟨A, c, h1, h2, _⟩ := h (i / 2) xs[i / 2] (List.getElem?_eq_getElem hlt)
    rcases Nat.mod_two_eq_zero_or_one i with h0 | h0
    · rw [show i / 2 * 2 = i by omega, hi] at h1
      injection h1 with h1
      rw [h1]
      rfl
    · rw [show i / 2 * 2 + 1 = i by omega, hi] at h2
      injection h2 with h2
      rw [h2]
      rfl
theorem EC.more {w : World} {l sp : List Value} {xs : List Ext} (h : EC w N l.toArray xs) (hl : l.length = xs.length * 2) : EC w N (l ++ sp).toArray xs := by
  intro j x hj
  obtain ⟨A, c, h1, h2, h3⟩ := h j x hj
  have hlt := (List.getElem?_eq_some_iff.1 hj).1
  rw [List.getElem?_toArray] at h1 h2
  exact ⟨A, c, by rw [List.getElem?_toArray, List.getElem?_append_left (by omega)]; exact h1, by rw [List.getElem?_toArray, List.getElem?_append_left (by omega)]; exact h2, h3⟩
theorem EC.replace {w : World} {l : List Value} {xs : List Ext} (h : EC w N l.toArray xs) (hl : l.length = xs.length * 2) {i j : Nat} (hi : i ≤ j) (hj : j ≤ xs.length) (x : Ext) (A : Option Addr) (c : Nat) (hB : BR w A c x.2) (hA : ∀ g o, A = some ⟨g, o, none⟩ → ¬ N g) :
    EC w N (l.take (i * 2) ++ [Value.int .i64 (x.1 : Int), Value.slice A x.2.length c] ++ l.drop (j * 2)).toArray (xs.take i ++ x :: xs.drop j) := by
  intro k y hk
  have htl : (l.take (i * 2)).length = i * 2 := by rw [List.length_take]; omega
  have hxl : (xs.take i).length = i := by rw [List.length_take]; omega
  have hab : (l.take (i * 2) ++ [Value.int .i64 (x.1 : Int), .slice A x.2.length c]).length = i * 2 + 2 := by rw [List.length_append, htl]; rfl
  rcases Nat.lt_trichotomy k i with h1 | h1 | h1
  · rw [List.getElem?_append_left (by omega), List.getElem?_take, if_pos h1] at hk
    obtain ⟨A', c', q1, q2, q3⟩ := h k y hk
    rw [List.getElem?_toArray] at q1 q2
    refine ⟨A', c', ?_, ?_, q3⟩
    · rw [List.getElem?_toArray, List.append_assoc, List.getElem?_append_left (by omega), List.getElem?_take, if_pos (by omega)]
      exact q1
    · rw [List.getElem?_toArray, List.append_assoc, List.getElem?_append_left (by omega), List.getElem?_take, if_pos (by omega)]
      exact q2
  · subst h1
    rw [List.getElem?_append_right (by omega), hxl, Nat.sub_self, List.getElem?_cons_zero] at hk
    injection hk with hk
    subst hk
    refine ⟨A, c, ?_, ?_, hB, hA⟩
    · rw [List.getElem?_toArray, List.append_assoc, List.getElem?_append_right (by omega), htl, Nat.sub_self]
      rfl
    · rw [List.getElem?_toArray, List.append_assoc, List.getElem?_append_right (by omega), htl, Nat.add_sub_cancel_left]
      rfl
  · rw [List.getElem?_append_right (by omega), hxl, show k - i = (k - i - 1) + 1 by omega, List.getElem?_cons_succ, List.getElem?_drop] at hk
    obtain ⟨A', c', q1, q2, q3⟩ := h _ y hk
    rw [List.getElem?_toArray] at q1 q2
    refine ⟨A', c', ?_, ?_, q3⟩
    · rw [List.getElem?_toArray, List.getElem?_append_right (by omega), hab, List.getElem?_drop, ← q1]
      congr 1
      omega
    · rw [List.getElem?_toArray, List.getElem?_append_right (by omega), hab, List.getElem?_drop, ← q2]
      congr 1
      omega
/-- The file's list as a row. -/
theorem DataAt.row {w : World} {D size : Nat} {xs : List Ext} {lA : Option Addr} {c : Nat} (h : DataAt w N D size xs lA c) : ∃ l : List Value, RowAt w (.slice lA xs.length c) xs.length l ∧ EC w N l.toArray xs ∧ ∀ u ∈ l, u.oneCell' = true := by
  rcases h.2 with ⟨rfl, rfl, rfl⟩ | ⟨L, cs, rfl, hL, hs, hc, he⟩
  · exact ⟨[], ⟨rfl, .inl ⟨rfl, rfl⟩⟩, fun j x hj => by simp at hj, fun u hu => by cases hu⟩
  · obtain ⟨l, sp, rfl, hl, h1, h2⟩ := he.row (by omega)
    refine ⟨l, ⟨hl, .inr ⟨L, c, sp, rfl, hL, hc, ?_⟩⟩, h1, h2⟩
    rw [List.size_toArray, List.length_append] at hs
    exact hs
theorem BR.of_own' {w : World} {base O n cap : Nat} {bs : List Int} (h : w.ownsRow base 5 1 (.slice (some ⟨O, 0, none⟩) n cap) n (nums .u8 bs)) (h0 : 0 < n) : BR w (some ⟨O, 0, none⟩) cap bs := by
  obtain ⟨O', cap', e, _, hb⟩ := BR.of_own h h0
  injection e with e1 _ e3
  injection e1 with e1
  injection e1 with e1
  subst e1 e3
  exact hb
theorem ne_block {w : World} {g k : Nat} {cs ks : Array Value} {t t' : TypeId} {f f' : Nat × Nat} (h : w.heap[g]? = some (.cells cs t f)) (h' : w.heap[k]? = some (.cells ks t' f')) (hne : t ≠ t') : g ≠ k := by
  rintro rfl
  rw [h] at h'
  injection h' with h'
  injection h' with _ e
  exact hne e
/-- What a file's block becomes. -/
theorem data_set {w5 : World} {D size size' n' : Nat} {lA : Option Addr} {k c : Nat} {v' : Value} {l : List Value} {xs : List Ext} (hD : w5.heap[D]? = some (.cells #[.bool true, .int .i64 (size : Int), .slice lA k c] 49 (0, 0))) (hr : RowAt w5 v' n' l) (hn : n' = xs.length) (he : EC w5 N l.toArray xs) :
    ∃ lA' c', v' = .slice lA' xs.length c' ∧ DataAt ((w5.setCell ⟨D, 2, none⟩ v').setCell ⟨D, 1, none⟩ (.int .i64 (size' : Int))) N D size' xs lA' c' := by
  subst hn
  have hk : ∀ (g : Nat) (cs : Array Value) (fz : Nat × Nat), w5.heap[g]? = some (Obj.cells cs 5 fz) → ((w5.setCell ⟨D, 2, none⟩ v').setCell ⟨D, 1, none⟩ (.int .i64 (size' : Int))).heap[g]? = some (Obj.cells cs 5 fz) := fun g cs fz hh => by
    have := ne_block hh hD (by decide)
    rw [set_other _ this, set_other _ this]
    exact hh
  have hDd : ((w5.setCell ⟨D, 2, none⟩ v').setCell ⟨D, 1, none⟩ (.int .i64 (size' : Int))).heap[D]? = some (.cells #[.bool true, .int .i64 (size' : Int), v'] 49 (0, 0)) := by
    rw [set_cell (set_cell hD _)]
    rfl
  rcases hr.2 with ⟨rfl, h0⟩ | ⟨L, c', sp, rfl, hL, hnc, hc⟩
  · obtain rfl : xs = [] := List.eq_nil_of_length_eq_zero h0
    exact ⟨none, 0, rfl, hDd, .inl ⟨rfl, rfl, rfl⟩⟩
  · have hLD := ne_block hL hD (by decide)
    refine ⟨_, c', rfl, hDd, .inr ⟨L, _, rfl, by rw [set_other _ hLD, set_other _ hLD]; exact hL, by rw [List.size_toArray, List.length_append]; exact hc, hnc, ?_⟩⟩
    exact (he.more hr.1).kept hk
theorem set_grown (w : World) (g j : Nat) (v : Value) : w.grownBy (w.setCell ⟨g, j, none⟩ v) (some g) :=
  ⟨rfl, rfl, rfl, by show w.heap.size ≤ (w.heap.modify g _).size; rw [Array.size_modify]; exact Nat.le_refl _, fun k _ hk => set_other v (fun e => hk (by rw [e]))⟩
theorem Mine.set1 {w : World} {base X g cap : Nat} {y : Ext} {v1 : Value} (hX : w.heap[X]? = some (.cells #[.int .i64 (y.1 : Int), v1] 41 (0, 0))) (ho : w.ownsRow base 5 1 (.slice (some ⟨g, 0, none⟩) y.2.length cap) y.2.length (nums .u8 y.2)) (h0 : 0 < y.2.length) :
    Mine (w.setCell ⟨X, 1, none⟩ (.slice (some ⟨g, 0, none⟩) y.2.length cap)) base X y := by
  have hl := ho.lt g rfl
  obtain ⟨g', cap', hv, _, hh⟩ := BR.of_own ho h0
  obtain ⟨g2, o2, cs, fz, e, hg, _⟩ := (BR.of_own' ho h0).2 h0
  injection e with e
  injection e with e1 e2
  subst e1
  have hne := ne_block hg hX (by decide)
  refine ⟨g, cap, ?_, ho.kept (set_grown w X 1 _) (.inr (by simp only [Value.ownBlock]; intro e; injection e with e; exact hne e)), hl.1, Nat.lt_of_lt_of_le hl.2 (set_grown w X 1 (.slice (some ⟨g, 0, none⟩) y.2.length cap)).size⟩
  rw [set_cell hX]
  rfl
theorem Mine.set2 {w : World} {base X g cap : Nat} {y : Ext} {v0 v1 : Value} (hX : w.heap[X]? = some (.cells #[v0, v1] 41 (0, 0))) (ho : w.ownsRow base 5 1 (.slice (some ⟨g, 0, none⟩) y.2.length cap) y.2.length (nums .u8 y.2)) (h0 : 0 < y.2.length) :
    Mine ((w.setCell ⟨X, 0, none⟩ (.int .i64 (y.1 : Int))).setCell ⟨X, 1, none⟩ (.slice (some ⟨g, 0, none⟩) y.2.length cap)) base X y := by
  obtain ⟨g2, o2, cs, fz, e, hg, _⟩ := (BR.of_own' ho h0).2 h0
  injection e with e
  injection e with e1 e2
  subst e1
  have hne := ne_block hg hX (by decide)
  refine Mine.set1 (v1 := v1) (by rw [set_cell hX]; rfl) (ho.kept (set_grown w X 0 _) (.inr (by simp only [Value.ownBlock]; intro e; injection e with e; exact hne e))) h0
/-- Rows of bytes stand when the file's list is written. -/
theorem DataAt.u8_kept {w wv w5 : World} {D size k : Nat} {xs : List Ext} {lA : Option Addr} {c : Nat} (h : DataAt w N D size xs lA c) (hb : Below w.heap.size w wv) (hg : wv.grownBy w5 (Value.slice lA k c).ownBlock) :
    ∀ (g : Nat) (cs : Array Value) (fz : Nat × Nat), w.heap[g]? = some (Obj.cells cs 5 fz) → w5.heap[g]? = some (Obj.cells cs 5 fz) := by
  intro g cs fz hh
  have hlt := (Array.getElem?_eq_some_iff.1 hh).1
  rw [hg.block g (Nat.lt_of_lt_of_le hlt hb.size) (fun e => by
    have h3 := own_slice e.symm h.head
    rcases h.2 with ⟨h2, _⟩ | ⟨L, cs', h2, hL, _⟩
    · rw [h2] at h3
      cases h3
    · rw [h2] at h3
      injection h3 with h3
      injection h3 with h3
      subst h3
      exact ne_block hh hL (by decide) rfl), hb.block g hlt]
  exact hh
/-- The end of Write. -/
theorem write_end {w1 wr wv w5 : World} {D size size' O2 cap2 fr j nn n5 : Nat} {lA A5 : Option Addr} {cl c5 : Nat} {x : Ext} {xs ys : List Ext} {l : List Value} (hd : DataAt w1 N D size xs lA cl) (hb : Below w1.heap.size w1 wr) (hN : ∀ k, N k → k < w1.heap.size)
    (hec : EC wr N l.toArray xs) (hl : l.length = xs.length * 2) (hown : wr.ownsRow w1.heap.size 5 1 (.slice (some ⟨O2, 0, none⟩) x.2.length cap2) x.2.length (nums .u8 x.2)) (hx0 : 0 < x.2.length) (hO : w1.heap.size ≤ O2)
    (hbv : Below wr.heap.size wr wv) (hg : wv.grownBy w5 (Value.slice lA nn cl).ownBlock) (hs : SameOrNew wv (.slice lA nn cl) (.slice A5 n5 c5))
    (hr : RowAt w5 (.slice A5 n5 c5) n5 (l.take (fr * 2) ++ [Value.int .i64 (x.1 : Int), Value.slice (some ⟨O2, 0, none⟩) x.2.length cap2] ++ l.drop (j * 2))) (hn5 : n5 = fr + 1 + (nn - j)) (hnn : xs.length = nn) (hfj : fr ≤ j) (hjn : j ≤ nn) (hys : xs.take fr ++ x :: xs.drop j = ys) :
    DataAt ((w5.setCell ⟨D, 2, none⟩ (.slice A5 n5 c5)).setCell ⟨D, 1, none⟩ (.int .i64 (size' : Int))) N D size' ys A5 c5 ∧ Fr w1 ((w5.setCell ⟨D, 2, none⟩ (.slice A5 n5 c5)).setCell ⟨D, 1, none⟩ (.int .i64 (size' : Int))) D lA ∧ SameL w1 lA A5 := by
  subst hnn hys
  have hdr := hd.below hb
  have hk := hdr.u8_kept hbv hg
  have hDv : wv.heap[D]? = wr.heap[D]? := hbv.block D hdr.cells.2.2.2
  have hD5 : w5.heap[D]? = some (.cells #[.bool true, .int .i64 (size : Int), .slice lA xs.length cl] 49 (0, 0)) := by
    rw [hg.block D (Nat.lt_of_lt_of_le hdr.cells.2.2.2 hbv.size) (fun e => (hd.lA_lt _ (own_slice e.symm hd.head)).2 rfl), hDv]
    exact hdr.1
  have he5 := ((hec.kept hk).replace hl hfj hjn x (some ⟨O2, 0, none⟩) cap2 ((BR.of_own' hown hx0).kept hk) (fun g o e hg => by
    injection e with e
    injection e with e
    have := hN g hg
    omega))
  have hlen : n5 = (xs.take fr ++ x :: xs.drop j).length := by
    rw [List.length_append, List.length_cons, List.length_take, List.length_drop]
    omega
  obtain ⟨lA', c', e, hres⟩ := data_set (size' := size') hD5 hr hlen he5
  injection e with e1 e2 e3
  subst e1 e3
  have hf0 := (Fr.of_below hb D lA)
  have hf1 : Fr w1 wv D lA := ⟨hbv.os.trans hf0.os, hbv.tape.trans hf0.tape, hbv.output.trans hf0.output, Nat.le_trans hf0.size hbv.size, fun k hk h1 h2 => (hbv.block k (Nat.lt_of_lt_of_le hk hf0.size)).trans (hf0.block k hk h1 h2)⟩
  refine ⟨hres, ((hf1.grown hg fun k e => .inl (own_slice e hd.head)).set 2 _).set 1 _, fun L eL => ?_⟩
  rcases hs L (by rw [eL]; rfl) with h1 | h1
  · exact .inl (own_slice h1 hd.head)
  · exact .inr (Nat.le_trans (Nat.le_trans hb.size hbv.size) h1)
end Go.Proofs.Ytjochldpacgcgaa.U
