/- A file and the document's file, side by side in memory. -/
import Derived.Test.YtjochldpacgcgaaEbad
set_option linter.unusedVariables false
set_option linter.unusedSimpArgs false
namespace Go.Proofs.Ytjochldpacgcgaa.U
open Go.RowKit Go.Proofs Go.Lib Go.Proofs.YtjochldpacgcgaaW.PrintWords

theorem BR_row {w : World} {O : Nat} {bs : List Int} {fz : Nat × Nat} (h : w.heap[O]? = some (.cells (nums .u8 bs).toArray 5 fz)) : BR w (some ⟨O, 0, none⟩) bs.length bs := by
  refine ⟨Nat.le_refl _, fun _ => ⟨O, 0, _, fz, rfl, h, fun j b hj => ?_⟩⟩
  rw [Nat.zero_add]
  unfold nums
  rw [List.getElem?_toArray, List.getElem?_map, hj]
  rfl
structure Two (w : World) (base D R size : Nat) (xs : List Ext) (lA : Option Addr) (c : Nat) (B : List Int) (Z : List Bool) (vB vZ : Value) : Prop where
  d : DataAt w (fun k => vB.ownBlock = some k) D size xs lA c
  r : RefAt w base R B Z vB vZ
  rel : Rel size xs B Z
  small : size ≤ 65536
  bD : base ≤ D
  bL : ∀ L, lA = some ⟨L, 0, none⟩ → base ≤ L
  bR : base ≤ R
def Pair (w : World) (base D R : Nat) : Prop := ∃ size xs lA c B Z vB vZ, Two w base D R size xs lA c B Z vB vZ
variable {w w' : World} {base D R size : Nat} {xs : List Ext} {lA : Option Addr} {c : Nat} {B : List Int} {Z : List Bool} {vB vZ : Value}
theorem Two.below (h : Two w base D R size xs lA c B Z vB vZ) (hb : Below w.heap.size w w') : Two w' base D R size xs lA c B Z vB vZ :=
  ⟨h.d.below hb, h.r.below hb, h.rel, h.small, h.bD, h.bL, h.bR⟩
theorem Pair.below (h : Pair w base D R) (hb : Below w.heap.size w w') : Pair w' base D R := by
  obtain ⟨a, b, c, d, e, f, g, i, h⟩ := h
  exact ⟨a, b, c, d, e, f, g, i, h.below hb⟩
/-- The document's file stands when the file is written. -/
theorem RefAt.fr {N : Nat → Prop} (h : RefAt w base R B Z vB vZ) (hd : DataAt w N D size xs lA c) (hf : Fr w w' D lA) : RefAt w' base R B Z vB vZ := by
  have hL : ∀ (t : TypeId) (k : Nat) (cs : Array Value), w.heap[k]? = some (.cells cs t (0, 0)) → t ≠ 49 → t ≠ 41 → w'.heap[k]? = w.heap[k]? := fun t k cs hk h1 h2 => by
    refine hf.block k (Array.getElem?_eq_some_iff.1 hk).1 (ne_block hk hd.1 h1) (fun L e => ?_)
    rcases hd.2 with ⟨h3, _⟩ | ⟨L', cs', h3, hL', _⟩
    · rw [h3] at e; cases e
    · rw [h3] at e
      injection e with e
      injection e with e
      subst e
      exact ne_block hk hL' h2
  refine ⟨(hL _ _ _ h.head (by decide) (by decide)).trans h.head, own_stay h.rb fun k hk => ?_, own_stay h.rz fun k hk => ?_⟩
  · obtain ⟨cs, hc⟩ := own_type h.rb k hk
    exact hL _ _ _ hc (by decide) (by decide)
  · obtain ⟨cs, hc⟩ := own_type h.rz k hk
    exact hL _ _ _ hc (by decide) (by decide)
/-- The file stands when the document's file is written. -/
theorem DataAt.frR {vB' vZ' : Value} (hd : DataAt w (fun k => vB.ownBlock = some k) D size xs lA c) (h : RefAt w base R B Z vB vZ) (hok : Ok 0 xs) (hf : FrR w w' R vB vZ vB' vZ') : DataAt w' (fun k => vB'.ownBlock = some k) D size xs lA c := by
  have hk : ∀ (t : TypeId) (k : Nat) (cs : Array Value) (fz : Nat × Nat), w.heap[k]? = some (.cells cs t fz) → t ≠ 53 → t ≠ 4 → vB.ownBlock ≠ some k → w'.heap[k]? = some (.cells cs t fz) := fun t k cs fz hk h1 h2 h3 => by
    rw [hf.block k (Array.getElem?_eq_some_iff.1 hk).1 (ne_block hk h.head h1) h3 (fun e => own_ne_block h.rz hk (Ne.symm h2) e)]
    exact hk
  have hD := hk _ _ _ _ hd.1 (by decide) (by decide) (fun e => own_ne_block h.rb hd.1 (by decide) e)
  refine ⟨hD, ?_⟩
  rcases hd.2 with h1 | ⟨L, cs, e, hL, hs, hc, he⟩
  · exact .inl h1
  · refine .inr ⟨L, cs, e, hk _ _ _ _ hL (by decide) (by decide) (fun e => own_ne_block h.rb hL (by decide) e), hs, hc, fun j x hj => ?_⟩
    obtain ⟨A, c', q1, q2, q3, q4⟩ := he j x hj
    obtain ⟨g, o, ks, fz, rfl, hg, hcc⟩ := q3.2 (hok.mem x (List.mem_of_getElem? hj)).2
    have hgv := q4 g o rfl
    refine ⟨_, c', q1, q2, ⟨q3.1, fun _ => ⟨g, o, ks, fz, rfl, hk _ _ _ _ hg (by decide) (by decide) hgv, hcc⟩⟩, fun g' o' e hg' => ?_⟩
    injection e with e
    injection e with e
    subst e
    rcases hf.nb _ hg' with h2 | h2
    · exact hgv h2
    · have := (Array.getElem?_eq_some_iff.1 hg).1
      omega
theorem Fr.refl (w : World) (D : Nat) (lA : Option Addr) : Fr w w D lA := ⟨rfl, rfl, rfl, Nat.le_refl _, fun _ _ _ _ => rfl⟩
/-- A file alone. -/
structure One (w : World) (N : Nat → Prop) (D size : Nat) (xs : List Ext) (lA : Option Addr) (c : Nat) : Prop where
  d : DataAt w N D size xs lA c
  ok : Ok 0 xs
  top : ∀ x ∈ xs, en x ≤ size
  small : size ≤ 65536
  new : ∀ k, N k → k < w.heap.size
variable {N : Nat → Prop}
theorem Two.one (h : Two w base D R size xs lA c B Z vB vZ) : One w (fun k => vB.ownBlock = some k) D size xs lA c := ⟨h.d, h.rel.ok, h.rel.top, h.small, fun k hk => (h.r.rb.lt k hk).2⟩
theorem One.below (h : One w N D size xs lA c) (hb : Below w.heap.size w w') : One w' N D size xs lA c := ⟨h.d.below hb, h.ok, h.top, h.small, fun k hk => Nat.lt_of_lt_of_le (h.new k hk) hb.size⟩
/-! ### Answers -/
def WOut (p : Int) (bs : List Int) (code : Int) (size : Nat) (xs : List Ext) (size' : Nat) (xs' : List Ext) : Prop :=
  (WBad p bs.length code ∧ size' = size ∧ xs' = xs) ∨ (0 ≤ p ∧ 0 < bs.length ∧ p + bs.length ≤ 65536 ∧ code = 0 ∧ size' = max size (p.toNat + bs.length) ∧ xs' = wr p.toNat bs xs)
theorem TW (h : One w N D size xs lA c) (p : Int) (A : Option Addr) (bs : List Int) (ca : Nat) (hA : BA w A ca bs) :
    Calls Try.prog 16 #[.pointer (some ⟨D, 0, none⟩), .int .i64 p, .slice A bs.length ca] w fun e w' => ∃ code size' xs' lA' c', e = .returned (.int .i64 code) ∧ One w' N D size' xs' lA' c' ∧ Fr w w' D lA ∧ SameL w lA lA' ∧ WOut p bs code size xs size' xs' := by
  rcases WBad.or p bs.length with ⟨code, hb⟩ | ⟨h1, h2, h3⟩
  · refine (Write_bad D p A bs.length ca code w h.d.cells.1 hb).mono ?_
    rintro e w' ⟨rfl, rfl⟩
    exact ⟨code, size, xs, lA, c, rfl, h, Fr.refl _ _ _, SameL.refl _ _, .inl ⟨hb, rfl, rfl⟩⟩
  · obtain ⟨k, rfl⟩ : ∃ k : Nat, p = (k : Int) := ⟨p.toNat, by omega⟩
    refine (Write_calls D size k A ca bs xs lA c w h.d h.ok h.new h.top h.small hA h2 (by omega)).mono ?_
    rintro e w' ⟨rfl, lA', c', r1, r2, r3⟩
    have hsm := h.small
    exact ⟨0, _, _, lA', c', rfl, ⟨r1, (wr_spec k bs h2 xs 0 h.ok (Nat.zero_le _)).1, wr_end h2 h.ok h.top, by omega, fun j hj => Nat.lt_of_lt_of_le (h.new j hj) r2.size⟩, r2, r3, .inr ⟨h1, h2, h3, rfl, rfl, rfl⟩⟩
def CtOut (n code : Int) (size : Nat) (xs : List Ext) (size' : Nat) (xs' : List Ext) : Prop :=
  (CBad n code ∧ size' = size ∧ xs' = xs) ∨ (0 ≤ n ∧ n ≤ 65536 ∧ code = 0 ∧ size' = n.toNat ∧ xs' = ct n.toNat xs)
theorem TC (h : One w N D size xs lA c) (n : Int) :
    Calls Try.prog 19 #[.pointer (some ⟨D, 0, none⟩), .int .i64 n] w fun e w' => ∃ code size' xs' c', e = .returned (.int .i64 code) ∧ One w' N D size' xs' lA c' ∧ Fr w w' D lA ∧ CtOut n code size xs size' xs' := by
  rcases CBad.or n with ⟨code, hb⟩ | ⟨h1, h2⟩
  · refine (Cut_bad D n code w h.d.cells.1 hb).mono ?_
    rintro e w' ⟨rfl, rfl⟩
    exact ⟨code, size, xs, c, rfl, h, Fr.refl _ _ _, .inl ⟨hb, rfl, rfl⟩⟩
  · obtain ⟨k, rfl⟩ : ∃ k : Nat, n = (k : Int) := ⟨n.toNat, by omega⟩
    refine (Cut_calls D size k xs lA c w h.d h.ok h.top h.small (by omega)).mono ?_
    rintro e w' ⟨rfl, c', r1, r2⟩
    exact ⟨0, _, _, c', rfl, ⟨r1, (ct_spec k xs 0 h.ok).1, (ct_spec k xs 0 h.ok).2.2, by omega, fun j hj => Nat.lt_of_lt_of_le (h.new j hj) r2.size⟩, r2, .inr ⟨h1, h2, rfl, rfl, rfl⟩⟩
def ROut (size : Nat) (p n code : Int) (bs : List Int) (full : Nat → Nat → List Int) : Prop :=
  (RBad size p n code ∧ bs = []) ∨ (0 ≤ p ∧ 0 < n ∧ p < size ∧ code = 0 ∧ ∃ m : Nat, (m : Int) = min n ((size : Int) - p) ∧ bs = full p.toNat m)
theorem bytesAt_length (xs : List Ext) (p n : Nat) : (bytesAt xs p n).length = n := by simp [bytesAt]
theorem TR (h : One w N D size xs lA c) (p n : Int) (hn : n ≤ 9223372036854775807) :
    Calls Try.prog 13 #[.pointer (some ⟨D, 0, none⟩), .int .i64 p, .int .i64 n] w fun e w' => ∃ code A ca bs, e = .returned (.tuple #[.slice A bs.length ca, .int .i64 code]) ∧ BA w' A ca bs ∧ (∀ g o, A = some ⟨g, o, none⟩ → w.heap.size ≤ g) ∧ Below w.heap.size w w' ∧ ROut size p n code bs (bytesAt xs) := by
  rcases RBad.or size p n with ⟨code, hb⟩ | ⟨h1, h2, h3⟩
  · refine (Read_bad D size p n code w h.d.cells.1 h.d.cells.2.1 hb).mono ?_
    rintro e w' ⟨rfl, rfl⟩
    exact ⟨code, none, 0, [], rfl, ⟨Nat.le_refl _, fun h => (by cases h)⟩, fun g o e => (by cases e), Below.refl _ _, .inl ⟨hb, rfl⟩⟩
  · obtain ⟨k, rfl⟩ : ∃ k : Nat, p = (k : Int) := ⟨p.toNat, by omega⟩
    obtain ⟨m, hm⟩ : ∃ m : Nat, (m : Int) = min n ((size : Int) - (k : Int)) := ⟨(min n ((size : Int) - (k : Int))).toNat, by omega⟩
    have hl := ok_len' h.ok h.top
    have hsm := h.small
    refine (Read_calls D size k m n xs lA c w h.d h.ok (by omega) h.top (by omega) (by omega) h2 hn hm).mono ?_
    rintro e w' ⟨O, rfl, hO, hrow, hb⟩
    refine ⟨0, some ⟨O, 0, none⟩, m, bytesAt xs k m, by rw [bytesAt_length], ?_, fun g o e => ?_, hb, .inr ⟨h1, h2, h3, rfl, m, hm, rfl⟩⟩
    · have := BR_row hrow
      rw [bytesAt_length] at this
      exact this.ba
    · injection e with e
      injection e with e
      omega
/-! ### The document's answers -/
def RWOut (p : Int) (bs : List Int) (code : Int) (B : List Int) (Z : List Bool) (B' : List Int) (Z' : List Bool) : Prop :=
  (WBad p bs.length code ∧ B' = B ∧ Z' = Z) ∨ (0 ≤ p ∧ 0 < bs.length ∧ p + bs.length ≤ 65536 ∧ code = 0 ∧ B' = rput p.toNat bs (rgrow 0 (p.toNat + bs.length) B) ∧ Z' = rput p.toNat (List.replicate bs.length true) (rgrow false (p.toNat + bs.length) Z))
theorem TRW (h : RefAt w base R B Z vB vZ) (hz : Z.length = B.length) (hl : B.length ≤ 65536) (hbase : base ≤ w.heap.size) (hbR : base ≤ R) (p : Int) (A : Option Addr) (bs : List Int) (ca : Nat) (hA : BA w A ca bs) (hb : 0 < bs.length → ∀ g o, A = some ⟨g, o, none⟩ → g < base) (hbl : bs.length ≤ 4611686018427387904) :
    Calls Try.prog 33 #[.pointer (some ⟨R, 0, none⟩), .int .i64 p, .slice A bs.length ca] w fun e w' => ∃ code B' Z' vB' vZ', e = .returned (.int .i64 code) ∧ RefAt w' base R B' Z' vB' vZ' ∧ FrR w w' R vB vZ vB' vZ' ∧ RWOut p bs code B Z B' Z' := by
  rcases WBad.or p bs.length with ⟨code, hbad⟩ | ⟨h1, h2, h3⟩
  · refine (Rwrite_bad R p A bs.length ca code w hbl hbad).mono ?_
    rintro e w' ⟨rfl, rfl⟩
    exact ⟨code, B, Z, vB, vZ, rfl, h, FrR.refl _ _ _ _, .inl ⟨hbad, rfl, rfl⟩⟩
  · obtain ⟨k, rfl⟩ : ∃ k : Nat, p = (k : Int) := ⟨p.toNat, by omega⟩
    refine (Rwrite_calls base R k A ca bs B Z vB vZ w h hbase hl hz hA (hb h2) h2 (by omega) hbR).mono ?_
    rintro e w' ⟨rfl, vB', vZ', r1, r2⟩
    exact ⟨0, _, _, vB', vZ', rfl, r1, r2, .inr ⟨h1, h2, h3, rfl, rfl, rfl⟩⟩
def RCOut (n code : Int) (B : List Int) (Z : List Bool) (B' : List Int) (Z' : List Bool) : Prop :=
  (CBad n code ∧ B' = B ∧ Z' = Z) ∨ (0 ≤ n ∧ n ≤ 65536 ∧ code = 0 ∧ B' = rcut 0 n.toNat B ∧ Z' = rcut false n.toNat Z)
theorem TRC (h : RefAt w base R B Z vB vZ) (hz : Z.length = B.length) (hl : B.length ≤ 65536) (hbase : base ≤ w.heap.size) (n : Int) :
    Calls Try.prog 34 #[.pointer (some ⟨R, 0, none⟩), .int .i64 n] w fun e w' => ∃ code B' Z' vB' vZ', e = .returned (.int .i64 code) ∧ RefAt w' base R B' Z' vB' vZ' ∧ FrR w w' R vB vZ vB' vZ' ∧ RCOut n code B Z B' Z' := by
  rcases CBad.or n with ⟨code, hb⟩ | ⟨h1, h2⟩
  · refine (Rcut_bad R n code w hb).mono ?_
    rintro e w' ⟨rfl, rfl⟩
    exact ⟨code, B, Z, vB, vZ, rfl, h, FrR.refl _ _ _ _, .inl ⟨hb, rfl, rfl⟩⟩
  · obtain ⟨k, rfl⟩ : ∃ k : Nat, n = (k : Int) := ⟨n.toNat, by omega⟩
    refine (Rcut_calls base R k B Z vB vZ w h hbase hl hz (by omega)).mono ?_
    rintro e w' ⟨rfl, vB', vZ', r1, r2⟩
    exact ⟨0, _, _, vB', vZ', rfl, r1, r2, .inr ⟨h1, h2, rfl, rfl, rfl⟩⟩
theorem own_BA {n : Nat} {v : Value} {bs : List Int} (h : w.ownsRow base 5 1 v n (nums .u8 bs)) : n = bs.length ∧ ∃ A ca, v = .slice A bs.length ca ∧ BA w A ca bs ∧ ∀ g o, A = some ⟨g, o, none⟩ → base ≤ g := by
  have hn : n = bs.length := by have := h.1; rw [nums_len] at this; omega
  obtain ⟨A, ca, rfl, hc, _⟩ := own_slice_form h
  refine ⟨hn, A, ca, by rw [hn], (own_BR h hn).ba, fun g o e => own_base h g o e⟩
theorem TRR (h : RefAt w base R B Z vB vZ) (hl : B.length ≤ 65536) (p n : Int) (hn : n ≤ 9223372036854775807) :
    Calls Try.prog 14 #[.pointer (some ⟨R, 0, none⟩), .int .i64 p, .int .i64 n] w fun e w' => ∃ code A ca bs, e = .returned (.tuple #[.slice A bs.length ca, .int .i64 code]) ∧ BA w' A ca bs ∧ Below w.heap.size w w' ∧ ROut B.length p n code bs (fun p m => (B.drop p).take m) := by
  rcases RBad.or B.length p n with ⟨code, hb⟩ | ⟨h1, h2, h3⟩
  · obtain ⟨A, ca, rfl, _, _⟩ := own_slice_form h.rb
    refine (Rread_bad R B.length ca p n code A w h.cells.1 hb).mono ?_
    rintro e w' ⟨rfl, rfl⟩
    exact ⟨code, none, 0, [], rfl, ⟨Nat.le_refl _, fun h => (by cases h)⟩, Below.refl _ _, .inl ⟨hb, rfl⟩⟩
  · obtain ⟨k, rfl⟩ : ∃ k : Nat, p = (k : Int) := ⟨p.toNat, by omega⟩
    obtain ⟨m, hm⟩ : ∃ m : Nat, (m : Int) = min n ((B.length : Int) - (k : Int)) := ⟨(min n ((B.length : Int) - (k : Int))).toNat, by omega⟩
    refine (Rread_calls base R k m n B Z vB vZ w h hl (by omega) h2 hn hm).mono ?_
    rintro e w' ⟨v, rfl, ho, hb⟩
    obtain ⟨_, A, ca, rfl, hBA, _⟩ := own_BA ho
    exact ⟨0, A, ca, _, rfl, hBA, hb, .inr ⟨h1, h2, h3, rfl, m, hm, rfl⟩⟩
/-! ### The answers agree -/
theorem WBad.fun_ {p c1 c2 : Int} {n : Nat} (h1 : WBad p n c1) (h2 : WBad p n c2) : c1 = c2 := by unfold WBad at h1 h2; omega
theorem CBad.fun_ {n c1 c2 : Int} (h1 : CBad n c1) (h2 : CBad n c2) : c1 = c2 := by unfold CBad at h1 h2; omega
theorem RBad.fun_ {size : Nat} {p n c1 c2 : Int} (h1 : RBad size p n c1) (h2 : RBad size p n c2) : c1 = c2 := by unfold RBad at h1 h2; omega
theorem WOut.agree {p c1 c2 : Int} {bs : List Int} {size' : Nat} {xs' : List Ext} {B' : List Int} {Z' : List Bool} (h : Rel size xs B Z) (hs : size ≤ 65536) (h1 : WOut p bs c1 size xs size' xs') (h2 : RWOut p bs c2 B Z B' Z') : c1 = c2 ∧ Rel size' xs' B' Z' ∧ size' ≤ 65536 := by
  rcases h1 with ⟨a1, rfl, rfl⟩ | ⟨a1, a2, a3, rfl, rfl, rfl⟩
  · rcases h2 with ⟨b1, rfl, rfl⟩ | ⟨b1, b2, b3, rfl, _⟩
    · exact ⟨a1.fun_ b1, h, hs⟩
    · unfold WBad at a1; omega
  · rcases h2 with ⟨b1, rfl, rfl⟩ | ⟨b1, b2, b3, rfl, rfl, rfl⟩
    · unfold WBad at b1; omega
    · exact ⟨rfl, h.write p.toNat bs a2, by omega⟩
theorem CtOut.agree {n c1 c2 : Int} {size' : Nat} {xs' : List Ext} {B' : List Int} {Z' : List Bool} (h : Rel size xs B Z) (hs : size ≤ 65536) (h1 : CtOut n c1 size xs size' xs') (h2 : RCOut n c2 B Z B' Z') : c1 = c2 ∧ Rel size' xs' B' Z' ∧ size' ≤ 65536 := by
  rcases h1 with ⟨a1, rfl, rfl⟩ | ⟨a1, a2, rfl, rfl, rfl⟩
  · rcases h2 with ⟨b1, rfl, rfl⟩ | ⟨b1, b2, rfl, _⟩
    · exact ⟨a1.fun_ b1, h, hs⟩
    · unfold CBad at a1; omega
  · rcases h2 with ⟨b1, rfl, rfl⟩ | ⟨b1, b2, rfl, rfl, rfl⟩
    · unfold CBad at b1; omega
    · exact ⟨rfl, h.cut n.toNat, by omega⟩
theorem ROut.agree {p n c1 c2 : Int} {b1 b2 : List Int} (h : Rel size xs B Z) (h1 : ROut size p n c1 b1 (bytesAt xs)) (h2 : ROut B.length p n c2 b2 (fun p m => (B.drop p).take m)) : c1 = c2 ∧ b1 = b2 := by
  rw [h.bl] at h2
  rcases h1 with ⟨a1, rfl⟩ | ⟨a1, a2, a3, rfl, m, hm, rfl⟩
  · rcases h2 with ⟨b1, rfl⟩ | ⟨b1, b2, b3, rfl, _⟩
    · exact ⟨a1.fun_ b1, rfl⟩
    · unfold RBad at a1; omega
  · rcases h2 with ⟨b1, rfl⟩ | ⟨b1, b2, b3, rfl, m', hm', rfl⟩
    · unfold RBad at b1; omega
    · obtain rfl : m = m' := by omega
      exact ⟨rfl, h.read _ _ (by omega)⟩
/-- All of it. -/
theorem ROut.full {code : Int} {bs : List Int} (hs : size ≤ 65536) (h : ROut size 0 65536 code bs (bytesAt xs)) : bs = bytesAt xs 0 size := by
  rcases h with ⟨h1, rfl⟩ | ⟨h1, h2, h3, rfl, m, hm, rfl⟩
  · have : size = 0 := by unfold RBad at h1; omega
    subst this
    rfl
  · obtain rfl : m = size := by omega
    rfl
end Go.Proofs.Ytjochldpacgcgaa.U
