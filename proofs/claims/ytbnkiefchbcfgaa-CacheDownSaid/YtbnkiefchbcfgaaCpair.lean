/- A cache and the document's cache, side by side: what each call on one of them leaves. -/
import Derived.Test.YtbnkiefchbcfgaaCsame
set_option linter.unusedVariables false
set_option linter.unusedSimpArgs false
namespace Go.Proofs.Ytbnkiefchbcfgaa.U
open Go.RowKit Go.Proofs Go.Lib Go.Proofs.YtbnkiefchbcfgaaW.PrintWords Go.Proofs.Ytbnkiefchbcfgaa.PR

structure Two (w : World) (N : Nat → Prop) (base C R : Nat) (sc sr : St) (lA : Option Addr) (c : Nat) (oA : Option Addr) (oc : Nat) (B : List Int) (Z : List Bool) (vB vZ : Value) (rA : Option Addr) (rc : Nat) : Prop where
  c : One w (fun k => vB.ownBlock = some k ∨ N k) C sc lA c oA oc
  r : OneR w N base R sr B Z vB vZ rA rc
  nb : ∀ k, N k → vB.ownBlock ≠ some k
  bC : base ≤ C
  bL : ∀ L o, lA = some ⟨L, o, none⟩ → base ≤ L
  bO : ∀ L o, oA = some ⟨L, o, none⟩ → base ≤ L
  bR : base ≤ R
  ap1 : ∀ L o o', rA = some ⟨L, o, none⟩ → lA ≠ some ⟨L, o', none⟩
  ap2 : ∀ L o o', rA = some ⟨L, o, none⟩ → oA ≠ some ⟨L, o', none⟩
def PX (w : World) (N : Nat → Prop) (base C R : Nat) (sc sr : St) : Prop := ∃ lA c oA oc B Z vB vZ rA rc, Two w N base C R sc sr lA c oA oc B Z vB vZ rA rc
section
variable {w w' w0 : World} {N : Nat → Prop} {base C R n : Nat} {sc sr sc' sr' : St} {lA : Option Addr} {c : Nat} {oA : Option Addr} {oc : Nat} {B : List Int} {Z : List Bool} {vB vZ : Value} {rA : Option Addr} {rc : Nat}
theorem Two.below (h : Two w N base C R sc sr lA c oA oc B Z vB vZ rA rc) (hb : Below w.heap.size w w') : Two w' N base C R sc sr lA c oA oc B Z vB vZ rA rc :=
  ⟨h.c.below hb, h.r.below hb, h.nb, h.bC, h.bL, h.bO, h.bR, h.ap1, h.ap2⟩
theorem PX.below (h : PX w N base C R sc sr) (hb : Below w.heap.size w w') : PX w' N base C R sc sr := by
  obtain ⟨lA, c, oA, oc, B, Z, vB, vZ, rA, rc, h⟩ := h
  exact ⟨lA, c, oA, oc, B, Z, vB, vZ, rA, rc, h.below hb⟩
/-- Blocks of other kinds stand. -/
def Kp (w w' : World) : Prop := ∀ (k : Nat) (cs : Array Value) (t : TypeId) (fz : Nat × Nat), w.heap[k]? = some (.cells cs t fz) → t ≠ 57 → t ≠ 32 → t ≠ 72 → t ≠ 5 → t ≠ 4 → w'.heap[k]? = some (.cells cs t fz)
theorem Kp.of_below (h : Below w.heap.size w w') : Kp w w' := fun k cs t fz hh _ _ _ _ _ => kept_below h _ _ hh
theorem FrC.kp (hf : FrC w w' C lA oA) (hd : One w N C sc lA c oA oc) : Kp w w' := fun k cs t fz hh h1 h2 _ _ _ => by
  rw [hf.block k (Array.getElem?_eq_some_iff.1 hh).1 (ne_block hh hd.d.head h1) (fun o e => ?_) (fun o e => ?_)]
  · exact hh
  · obtain ⟨_, _, cs', hL⟩ := hd.d.known.at_ e
    exact ne_block hh hL h2 rfl
  · obtain ⟨_, cs', hL⟩ := hd.d.opn.at_ e
    exact ne_block hh hL h2 rfl
theorem FrR.kp {vB' vZ' : Value} {rA' : Option Addr} (hf : FrR w w' R vB vZ rA vB' vZ' rA') (hr : OneR w N base R sr B Z vB vZ rA rc) : Kp w w' := fun k cs t fz hh _ h2 h3 h4 h5 => by
  rw [hf.block k (Array.getElem?_eq_some_iff.1 hh).1 (ne_block hh hr.r.head h3) (fun e => own_ne_block hr.r.rb hh (Ne.symm h4) e) (fun e => own_ne_block hr.r.rz hh (Ne.symm h5) e) (fun o e => ?_)]
  · exact hh
  · obtain ⟨_, cs', hL⟩ := hr.r.opn.at_ e
    exact ne_block hh hL h2 rfl
/-- The document's cache stands when the cache is written. -/
theorem OneR.frc {NC : Nat → Prop} (h : OneR w N base R sr B Z vB vZ rA rc) (hd : One w NC C sc lA c oA oc) (a1 : ∀ L o o', rA = some ⟨L, o, none⟩ → lA ≠ some ⟨L, o', none⟩) (a2 : ∀ L o o', rA = some ⟨L, o, none⟩ → oA ≠ some ⟨L, o', none⟩) (hf : FrC w w' C lA oA) : OneR w' N base R sr B Z vB vZ rA rc := by
  have hk : ∀ (t : TypeId) (k : Nat) (cs : Array Value) (fz : Nat × Nat), w.heap[k]? = some (.cells cs t fz) → t ≠ 57 → (t ≠ 32 ∨ ∃ o, rA = some ⟨k, o, none⟩) → w'.heap[k]? = some (.cells cs t fz) := fun t k cs fz hh h1 h2 => by
    rw [hf.block k (Array.getElem?_eq_some_iff.1 hh).1 (ne_block hh hd.d.head h1) (fun o e => ?_) (fun o e => ?_)]
    · exact hh
    · rcases h2 with h2 | ⟨o', h2⟩
      · obtain ⟨_, _, cs', hL⟩ := hd.d.known.at_ e
        exact ne_block hh hL h2 rfl
      · exact a1 k o' o h2 e
    · rcases h2 with h2 | ⟨o', h2⟩
      · obtain ⟨_, cs', hL⟩ := hd.d.opn.at_ e
        exact ne_block hh hL h2 rfl
      · exact a2 k o' o h2 e
  refine ⟨⟨hk _ _ _ _ h.r.head (by decide) (.inl (by decide)), own_stay h.r.rb fun k hk' => ?_, own_stay h.r.rz fun k hk' => ?_, h.r.opn.kept (fun O o e => ?_) (fun g cs fz hh => hk _ _ _ _ hh (by decide) (.inl (by decide))), h.r.bL⟩, h.rel, fun k hk => Nat.lt_of_lt_of_le (h.new k hk) hf.size⟩
  · obtain ⟨cs, hc⟩ := own_type h.r.rb k hk'
    rw [hc]
    exact hk _ _ _ _ hc (by decide) (.inl (by decide))
  · obtain ⟨cs, hc⟩ := own_type h.r.rz k hk'
    rw [hc]
    exact hk _ _ _ _ hc (by decide) (.inl (by decide))
  · obtain ⟨_, cs, hO⟩ := h.r.opn.at_ e
    rw [hO]
    exact hk _ _ _ _ hO (by decide) (.inr ⟨o, e⟩)
/-- The cache stands when the document's cache is written. -/
theorem One.frr {vB' vZ' : Value} {rA' : Option Addr} (hd : One w (fun k => vB.ownBlock = some k ∨ N k) C sc lA c oA oc) (g : Good sc n) (h : OneR w N base R sr B Z vB vZ rA rc) (a1 : ∀ L o o', rA = some ⟨L, o, none⟩ → lA ≠ some ⟨L, o', none⟩) (a2 : ∀ L o o', rA = some ⟨L, o, none⟩ → oA ≠ some ⟨L, o', none⟩) (hf : FrR w w' R vB vZ rA vB' vZ' rA') (hv : ∀ k, vB'.ownBlock = some k → k < w'.heap.size) :
    One w' (fun k => vB'.ownBlock = some k ∨ N k) C sc lA c oA oc := by
  have hk : ∀ (t : TypeId) (k : Nat) (cs : Array Value) (fz : Nat × Nat), w.heap[k]? = some (.cells cs t fz) → t ≠ 72 → t ≠ 4 → (t ≠ 5 ∨ vB.ownBlock ≠ some k) → (t ≠ 32 ∨ ∀ o, rA ≠ some ⟨k, o, none⟩) → w'.heap[k]? = some (.cells cs t fz) := fun t k cs fz hh h1 h2 h3 h4 => by
    rw [hf.block k (Array.getElem?_eq_some_iff.1 hh).1 (ne_block hh h.r.head h1) (fun e => ?_) (fun e => own_ne_block h.r.rz hh (Ne.symm h2) e) (fun o e => ?_)]
    · exact hh
    · rcases h3 with h3 | h3
      · exact own_ne_block h.r.rb hh (Ne.symm h3) e
      · exact h3 e
    · rcases h4 with h4 | h4
      · obtain ⟨_, cs', hL⟩ := h.r.opn.at_ e
        exact ne_block hh hL h4 rfl
      · exact h4 o e
  have hx0 : ∀ x ∈ sc.xs, 0 < x.2.length := fun x hx => (g.fit.ok.mem x hx).2
  have ho0 : ∀ x ∈ sc.os, 0 < x.2.length := fun x hx => (g.wi x hx).1
  have hal : ∀ k, (vB'.ownBlock = some k ∨ vB.ownBlock = some k ∨ N k) → (vB.ownBlock = some k ∨ N k) ∨ w.heap.size ≤ k := fun k hk => by
    rcases hk with hk | hk | hk
    · rcases hf.nb k hk with h1 | h1
      · exact .inl (.inl h1)
      · exact .inr h1
    · exact .inl (.inl hk)
    · exact .inl (.inr hk)
  have hwk : ∀ k, (vB'.ownBlock = some k ∨ N k) → (vB'.ownBlock = some k ∨ vB.ownBlock = some k ∨ N k) ∨ w'.heap.size ≤ k := fun k hk => by
    rcases hk with hk | hk
    · exact .inl (.inl hk)
    · exact .inl (.inr (.inr hk))
  have hu : ∀ (g : Nat) (cs : Array Value) (fz : Nat × Nat), w.heap[g]? = some (Obj.cells cs 5 fz) → ¬ (vB'.ownBlock = some g ∨ vB.ownBlock = some g ∨ N g) → w'.heap[g]? = some (Obj.cells cs 5 fz) := fun g cs fz hh hn => hk _ _ _ _ hh (by decide) (by decide) (.inr (fun e => hn (.inr (.inl e)))) (.inl (by decide))
  refine ⟨⟨hk _ _ _ _ hd.d.head (by decide) (by decide) (.inl (by decide)) (.inl (by decide)), (((hd.d.known.also hx0 hal).apart hx0 (fun L o e => ?_) hu).also hx0 hwk), (((hd.d.opn.also ho0 hal).apart ho0 (fun L o e => ?_) hu).also ho0 hwk), hd.d.apart⟩, fun k hk' => ?_⟩
  · obtain ⟨e0, _, cs, hL⟩ := hd.d.known.at_ e
    subst e0
    rw [hL]
    exact hk _ _ _ _ hL (by decide) (by decide) (.inl (by decide)) (.inr (fun o2 e2 => a1 L o2 0 e2 e))
  · obtain ⟨_, cs, hL⟩ := hd.d.opn.at_ e
    rw [hL]
    exact hk _ _ _ _ hL (by decide) (by decide) (.inl (by decide)) (.inr (fun o2 e2 => a2 L o2 o e2 e))
  · rcases hk' with hk' | hk'
    · exact hv k hk'
    · exact Nat.lt_of_lt_of_le (h.new k hk') hf.size
theorem Two.stepC (h : Two w N base C R sc sr lA c oA oc B Z vB vZ rA rc) (hb : base ≤ w.heap.size) (hs : StepC w (fun k => vB.ownBlock = some k ∨ N k) C lA oA sc' w') : ∃ lA' c' oA' oc', Two w' N base C R sc' sr lA' c' oA' oc' B Z vB vZ rA rc ∧ FrC w w' C lA oA := by
  obtain ⟨lA', c', oA', oc', h1, hf, s1, s2⟩ := hs
  refine ⟨lA', c', oA', oc', ⟨h1, h.r.frc h.c h.ap1 h.ap2 hf, h.nb, h.bC, fun L o e => ?_, fun L o e => ?_, h.bR, fun L o o' e e' => ?_, fun L o o' e e' => ?_⟩, hf⟩
  · rcases s1 L o e with ⟨o2, h2⟩ | h2
    · exact h.bL L o2 h2
    · omega
  · rcases s2 L o e with ⟨o2, h2⟩ | h2
    · exact h.bO L o2 h2
    · omega
  · rcases s1 L o' e' with ⟨o2, h2⟩ | h2
    · exact h.ap1 L o o2 e h2
    · have := (h.r.r.opn.at_ e).1
      omega
  · rcases s2 L o' e' with ⟨o2, h2⟩ | h2
    · exact h.ap2 L o o2 e h2
    · have := (h.r.r.opn.at_ e).1
      omega
theorem Two.stepR (h : Two w N base C R sc sr lA c oA oc B Z vB vZ rA rc) (g : Good sc n) (hs : StepR w N base R vB vZ rA sr' w') : ∃ B' Z' vB' vZ' rA' rc', Two w' N base C R sc sr' lA c oA oc B' Z' vB' vZ' rA' rc' ∧ FrR w w' R vB vZ rA vB' vZ' rA' := by
  obtain ⟨B', Z', vB', vZ', rA', rc', h1, hf⟩ := hs
  refine ⟨B', Z', vB', vZ', rA', rc', ⟨h.c.frr g h.r h.ap1 h.ap2 hf (fun k hk => (h1.r.rb.lt k hk).2), h1, fun k hk e => ?_, h.bC, h.bL, h.bO, h.bR, fun L o o' e e' => ?_, fun L o o' e e' => ?_⟩, hf⟩
  · rcases hf.nb k e with h2 | h2
    · exact h.nb k hk h2
    · have := h.r.new k hk
      omega
  · rcases hf.nl L o e with ⟨o2, h2⟩ | h2
    · exact h.ap1 L o2 o' h2 e'
    · have := (h.c.d.known.at_ e').2.1
      omega
  · rcases hf.nl L o e with ⟨o2, h2⟩ | h2
    · exact h.ap2 L o2 o' h2 e'
    · have := (h.c.d.opn.at_ e').1
      omega
theorem Two.belowC (h : Two w N base C R sc sr lA c oA oc B Z vB vZ rA rc) (hf : FrC w w' C lA oA) (hb : base ≤ w.heap.size) : Below base w w' := hf.below (Below.refl base w) hb h.bC h.bL h.bO
theorem Two.belowR {vB' vZ' : Value} {rA' : Option Addr} (h : Two w N base C R sc sr lA c oA oc B Z vB vZ rA rc) (hf : FrR w w' R vB vZ rA vB' vZ' rA') (hb : base ≤ w.heap.size) : Below base w w' :=
  ⟨hf.os, hf.tape, hf.output, hf.size, fun k hk => hf.block k (by omega) (by have := h.bR; omega) (fun e => by have := (h.r.r.rb.lt k e).1; omega) (fun e => by have := (h.r.r.rz.lt k e).1; omega) (fun o e => by have := h.r.r.bL k o e; omega)⟩
/-- Bytes that are handed in: behind the two, or in a block that both leave alone. -/
def Arg (w : World) (N : Nat → Prop) (base : Nat) (A : Option Addr) (ca : Nat) (bs : List Int) : Prop := BA w A ca bs ∧ (0 < bs.length → ∀ g o, A = some ⟨g, o, none⟩ → g < base ∨ (N g ∧ ∃ cs fz, w.heap[g]? = some (.cells cs 5 fz)))
variable {A : Option Addr} {ca : Nat} {bs : List Int}
theorem Arg.below (h : Arg w N base A ca bs) (hb : Below w.heap.size w w') : Arg w' N base A ca bs :=
  ⟨h.1.keep hb, fun h0 g o e => by
    rcases h.2 h0 g o e with h1 | ⟨h1, cs, fz, h2⟩
    · exact .inl h1
    · exact .inr ⟨h1, cs, fz, kept_below hb _ _ h2⟩⟩
theorem Arg.neC (h : Arg w N base A ca bs) (ht : Two w N base C R sc sr lA c oA oc B Z vB vZ rA rc) (h0 : 0 < bs.length) (g o : Nat) (e : A = some ⟨g, o, none⟩) : g ≠ C ∧ (∀ o, lA ≠ some ⟨g, o, none⟩) ∧ ∀ o, oA ≠ some ⟨g, o, none⟩ := by
  rcases h.2 h0 g o e with h1 | ⟨h1, cs, fz, h2⟩
  · exact ⟨by have := ht.bC; omega, fun o e => by have := ht.bL g o e; omega, fun o e => by have := ht.bO g o e; omega⟩
  · refine ⟨ne_block h2 ht.c.d.head (by decide), fun o e => ?_, fun o e => ?_⟩
    · obtain ⟨_, _, cs', hL⟩ := ht.c.d.known.at_ e
      exact ne_block h2 hL (by decide) rfl
    · obtain ⟨_, cs', hL⟩ := ht.c.d.opn.at_ e
      exact ne_block h2 hL (by decide) rfl
theorem Arg.neR (h : Arg w N base A ca bs) (ht : Two w N base C R sc sr lA c oA oc B Z vB vZ rA rc) (h0 : 0 < bs.length) (g o : Nat) (e : A = some ⟨g, o, none⟩) : vB.ownBlock ≠ some g ∧ vZ.ownBlock ≠ some g := by
  rcases h.2 h0 g o e with h1 | ⟨h1, cs, fz, h2⟩
  · exact ⟨fun e => by have := (ht.r.r.rb.lt g e).1; omega, fun e => by have := (ht.r.r.rz.lt g e).1; omega⟩
  · exact ⟨ht.nb g h1, fun e => own_ne_block ht.r.r.rz h2 (by decide) e⟩
theorem Arg.frc (h : Arg w N base A ca bs) (ht : Two w N base C R sc sr lA c oA oc B Z vB vZ rA rc) (hf : FrC w w' C lA oA) : Arg w' N base A ca bs := by
  refine ⟨h.1.frc hf (fun g o e h0 => h.neC ht h0 g o e), fun h0 g o e => ?_⟩
  obtain ⟨n1, n2, n3⟩ := h.neC ht h0 g o e
  rcases h.2 h0 g o e with h1 | ⟨h1, cs, fz, h2⟩
  · exact .inl h1
  · exact .inr ⟨h1, cs, fz, (hf.block g (Array.getElem?_eq_some_iff.1 h2).1 n1 n2 n3).trans h2⟩
theorem Arg.frr {vB' vZ' : Value} {rA' : Option Addr} (h : Arg w N base A ca bs) (ht : Two w N base C R sc sr lA c oA oc B Z vB vZ rA rc) (hf : FrR w w' R vB vZ rA vB' vZ' rA') : Arg w' N base A ca bs := by
  have hk : 0 < bs.length → ∀ g o, A = some ⟨g, o, none⟩ → g < w.heap.size → w'.heap[g]? = w.heap[g]? := fun h0 g o e hg => by
    obtain ⟨n1, n2⟩ := h.neR ht h0 g o e
    refine hf.block g hg ?_ n1 n2 ?_
    · rcases h.2 h0 g o e with h1 | ⟨h1, cs, fz, h2⟩
      · have := ht.bR; omega
      · exact ne_block h2 ht.r.r.head (by decide)
    · intro o e
      rcases h.2 h0 g _ ‹_› with h1 | ⟨h1, cs, fz, h2⟩
      · have := ht.r.r.bL g o e; omega
      · obtain ⟨_, cs', hL⟩ := ht.r.r.opn.at_ e
        exact ne_block h2 hL (by decide) rfl
  refine ⟨⟨h.1.1, fun h0 => ?_⟩, fun h0 g o e => ?_⟩
  · obtain ⟨g, o, e, hg, hc⟩ := h.1.2 h0
    refine ⟨g, o, e, Nat.lt_of_lt_of_le hg hf.size, fun j u hj => ?_⟩
    rw [← hc j u hj, Addr.add_lit]
    exact World.cell?_of_block (a := ⟨g, o + j, none⟩) (hk h0 g o e hg)
  · rcases h.2 h0 g o e with h1 | ⟨h1, cs, fz, h2⟩
    · exact .inl h1
    · exact .inr ⟨h1, cs, fz, (hk h0 g o e (Array.getElem?_eq_some_iff.1 h2).1).trans h2⟩
/-- The rows of bytes that both leave alone stand. -/
def NK (w : World) (N : Nat → Prop) (w' : World) : Prop := ∀ (k : Nat) (cs : Array Value) (fz : Nat × Nat), N k → w.heap[k]? = some (.cells cs 5 fz) → w'.heap[k]? = some (.cells cs 5 fz)
theorem NK.of_below (h : Below w.heap.size w w') : NK w N w' := fun k cs fz _ hh => kept_below h _ _ hh
theorem NK.frc (hd : Two w N base C R sc sr lA c oA oc B Z vB vZ rA rc) (hf : FrC w w' C lA oA) : NK w N w' := fun k cs fz hN hh => by
  rw [hf.block k (Array.getElem?_eq_some_iff.1 hh).1 (ne_block hh hd.c.d.head (by decide)) (fun o e => ?_) (fun o e => ?_)]
  · exact hh
  · obtain ⟨_, _, cs', hL⟩ := hd.c.d.known.at_ e
    exact ne_block hh hL (by decide) rfl
  · obtain ⟨_, cs', hL⟩ := hd.c.d.opn.at_ e
    exact ne_block hh hL (by decide) rfl
theorem NK.frr {vB' vZ' : Value} {rA' : Option Addr} (hd : Two w N base C R sc sr lA c oA oc B Z vB vZ rA rc) (hf : FrR w w' R vB vZ rA vB' vZ' rA') : NK w N w' := fun k cs fz hN hh => by
  rw [hf.block k (Array.getElem?_eq_some_iff.1 hh).1 (ne_block hh hd.r.r.head (by decide)) (hd.nb k hN) (fun e => own_ne_block hd.r.r.rz hh (by decide) e) (fun o e => ?_)]
  · exact hh
  · obtain ⟨_, cs', hL⟩ := hd.r.r.opn.at_ e
    exact ne_block hh hL (by decide) rfl
/-- Behind a call on one of them. -/
def Mv (w : World) (N : Nat → Prop) (base C R : Nat) (sc sr : St) (w' : World) : Prop := PX w' N base C R sc sr ∧ Below base w w' ∧ Kp w w' ∧ (∀ A ca bs, Arg w N base A ca bs → Arg w' N base A ca bs) ∧ NK w N w'
theorem PX.mvC (h : Two w N base C R sc sr lA c oA oc B Z vB vZ rA rc) (hb : base ≤ w.heap.size) (hs : StepC w (fun k => vB.ownBlock = some k ∨ N k) C lA oA sc' w') : Mv w N base C R sc' sr w' ∧ FrC w w' C lA oA := by
  obtain ⟨lA', c', oA', oc', h1, hf⟩ := h.stepC hb hs
  exact ⟨⟨⟨_, _, _, _, _, _, _, _, _, _, h1⟩, h.belowC hf hb, hf.kp h.c, fun _ _ _ ha => ha.frc h hf, NK.frc h hf⟩, hf⟩
theorem PX.mvR (h : Two w N base C R sc sr lA c oA oc B Z vB vZ rA rc) (g : Good sc n) (hb : base ≤ w.heap.size) (hs : StepR w N base R vB vZ rA sr' w') : Mv w N base C R sc sr' w' := by
  obtain ⟨B', Z', vB', vZ', rA', rc', h1, hf⟩ := h.stepR g hs
  exact ⟨⟨_, _, _, _, _, _, _, _, _, _, h1⟩, h.belowR hf hb, hf.kp h.r, fun _ _ _ ha => ha.frr h hf, NK.frr h hf⟩
theorem PX.mv (h : PX w N base C R sc sr) (hb : Below w.heap.size w w') (hB : base ≤ w.heap.size) : Mv w N base C R sc sr w' := ⟨h.below hb, hb.mono hB, Kp.of_below hb, fun _ _ _ ha => ha.below hb, NK.of_below hb⟩
/-! ### Each call -/
theorem PW (h : PX w N base C R sc sr) (g : Good sc n) (hn : n ≤ 1000000) (hb : base ≤ w.heap.size) (p : Int) (ha : Arg w N base A ca bs) :
    Calls Try.prog 14 #[.pointer (some ⟨C, 0, none⟩), .int .i64 p, .slice A bs.length ca] w fun e w' => e = .returned (.bool (stW sc p bs).1) ∧ Mv w N base C R (stW sc p bs).2 sr w' ∧ Arg w' N base A ca bs := by
  obtain ⟨lA, c, oA, oc, B, Z, vB, vZ, rA, rc, h⟩ := h
  refine (TW h.c g hn p A bs ca ha.1 (fun h0 g o e => ⟨(ha.neC h h0 g o e).1, (ha.neC h h0 g o e).2.1⟩)).mono ?_
  rintro e w' ⟨rfl, hs⟩
  obtain ⟨h1, hf⟩ := PX.mvC h hb hs
  exact ⟨rfl, h1, ha.frc h hf⟩
theorem PF (h : PX w N base C R sc sr) (g : Good sc n) (hn : n ≤ 1000000) (hb : base ≤ w.heap.size) (p : Int) (ha : Arg w N base A ca bs) :
    Calls Try.prog 12 #[.pointer (some ⟨C, 0, none⟩), .int .i64 p, .slice A bs.length ca] w fun e w' => e = .returned (.int .i64 (stF sc p bs).1) ∧ Mv w N base C R (stF sc p bs).2 sr w' ∧ Arg w' N base A ca bs := by
  obtain ⟨lA, c, oA, oc, B, Z, vB, vZ, rA, rc, h⟩ := h
  refine (TF h.c g hn p A bs ca ha.1).mono ?_
  rintro e w' ⟨rfl, hs⟩
  obtain ⟨h1, hf⟩ := PX.mvC h hb hs
  exact ⟨rfl, h1, ha.frc h hf⟩
theorem PS (h : PX w N base C R sc sr) (hb : base ≤ w.heap.size) :
    Calls Try.prog 19 #[.pointer (some ⟨C, 0, none⟩)] w fun e w' => e = .returned (.int .i64 (stS sc).1) ∧ Mv w N base C R (stS sc).2 sr w' := by
  obtain ⟨lA, c, oA, oc, B, Z, vB, vZ, rA, rc, h⟩ := h
  refine (TS h.c).mono ?_
  rintro e w' ⟨rfl, hs⟩
  exact ⟨rfl, (PX.mvC h hb hs).1⟩
theorem PD (h : PX w N base C R sc sr) (hb : base ≤ w.heap.size) (l : Nat) :
    Calls Try.prog 26 #[.pointer (some ⟨C, 0, none⟩), .int .u8 (l : Int)] w fun e w' => e = .returned (.int .i64 (stD sc l).1) ∧ Mv w N base C R (stD sc l).2 sr w' := by
  obtain ⟨lA, c, oA, oc, B, Z, vB, vZ, rA, rc, h⟩ := h
  refine (TD h.c l).mono ?_
  rintro e w' ⟨rfl, hs⟩
  exact ⟨rfl, (PX.mvC h hb hs).1⟩
theorem PG (h : PX w N base C R sc sr) (hb : base ≤ w.heap.size) (m : Int) :
    Calls Try.prog 35 #[.pointer (some ⟨C, 0, none⟩), .int .i64 m] w fun e w' => e = .returned (.int .i64 (stG sc m).1) ∧ Mv w N base C R (stG sc m).2 sr w' := by
  obtain ⟨lA, c, oA, oc, B, Z, vB, vZ, rA, rc, h⟩ := h
  refine (TG h.c m).mono ?_
  rintro e w' ⟨rfl, hs⟩
  exact ⟨rfl, (PX.mvC h hb hs).1⟩
theorem PR_ (h : PX w N base C R sc sr) (g : Good sc n) (p m : Int) :
    Calls Try.prog 15 #[.pointer (some ⟨C, 0, none⟩), .int .i64 p, .int .i64 m] w fun e w' => ∃ A ca, e = .returned (.tuple #[.slice A (stB sc p m).length ca, .bool (stOk sc p m)]) ∧ Ans w w' A ca (stB sc p m) := by
  obtain ⟨lA, c, oA, oc, B, Z, vB, vZ, rA, rc, h⟩ := h
  exact TR h.c g p m
theorem PFi (h : PX w N base C R sc sr) (g : Good sc n) :
    Calls Try.prog 18 #[.pointer (some ⟨C, 0, none⟩)] w fun e w' => ∃ A ca, e = .returned (.tuple #[.int .i64 ((stFi sc).1 : Int), .slice A (stFi sc).2.1.length ca, .bool (stFi sc).2.2]) ∧ Ans w w' A ca (stFi sc).2.1 := by
  obtain ⟨lA, c, oA, oc, B, Z, vB, vZ, rA, rc, h⟩ := h
  exact TFi h.c g
theorem PRW (h : PX w N base C R sc sr) (gc : Good sc n) (g : Good sr n) (hn : n ≤ 1000000) (hb : base ≤ w.heap.size) (p : Int) (ha : Arg w N base A ca bs) :
    Calls Try.prog 29 #[.pointer (some ⟨R, 0, none⟩), .int .i64 p, .slice A bs.length ca] w fun e w' => e = .returned (.bool (stW sr p bs).1) ∧ Mv w N base C R sc (stW sr p bs).2 w' ∧ Arg w' N base A ca bs := by
  obtain ⟨lA, c, oA, oc, B, Z, vB, vZ, rA, rc, h⟩ := h
  refine (TRW h.r g hn hb p A bs ca ha.1 (fun h0 g o e => ha.neR h h0 g o e)).mono ?_
  rintro e w' ⟨rfl, hs⟩
  obtain ⟨B', Z', vB', vZ', rA', rc', h1, hf⟩ := h.stepR gc hs
  exact ⟨rfl, PX.mvR h gc hb hs, ha.frr h hf⟩
theorem PRF (h : PX w N base C R sc sr) (gc : Good sc n) (g : Good sr n) (hn : n ≤ 1000000) (hb : base ≤ w.heap.size) (p : Int) (ha : Arg w N base A ca bs) :
    Calls Try.prog 30 #[.pointer (some ⟨R, 0, none⟩), .int .i64 p, .slice A bs.length ca] w fun e w' => e = .returned (.int .i64 (stF sr p bs).1) ∧ Mv w N base C R sc (stF sr p bs).2 w' ∧ Arg w' N base A ca bs := by
  obtain ⟨lA, c, oA, oc, B, Z, vB, vZ, rA, rc, h⟩ := h
  refine (TRF h.r g hn p A bs ca ha.1 (fun h0 g o e => ha.neR h h0 g o e)).mono ?_
  rintro e w' ⟨rfl, hs⟩
  obtain ⟨B', Z', vB', vZ', rA', rc', h1, hf⟩ := h.stepR gc hs
  exact ⟨rfl, PX.mvR h gc hb hs, ha.frr h hf⟩
theorem PRS (h : PX w N base C R sc sr) (gc : Good sc n) (g : Good sr n) (hb : base ≤ w.heap.size) :
    Calls Try.prog 52 #[.pointer (some ⟨R, 0, none⟩)] w fun e w' => e = .returned (.int .i64 (stS sr).1) ∧ Mv w N base C R sc (stS sr).2 w' := by
  obtain ⟨lA, c, oA, oc, B, Z, vB, vZ, rA, rc, h⟩ := h
  refine (TRS h.r g).mono ?_
  rintro e w' ⟨rfl, hs⟩
  exact ⟨rfl, PX.mvR h gc hb hs⟩
theorem PRD (h : PX w N base C R sc sr) (gc : Good sc n) (g : Good sr n) (hb : base ≤ w.heap.size) (l : Nat) :
    Calls Try.prog 53 #[.pointer (some ⟨R, 0, none⟩), .int .u8 (l : Int)] w fun e w' => e = .returned (.int .i64 (stD sr l).1) ∧ Mv w N base C R sc (stD sr l).2 w' := by
  obtain ⟨lA, c, oA, oc, B, Z, vB, vZ, rA, rc, h⟩ := h
  refine (TRD h.r g hb l).mono ?_
  rintro e w' ⟨rfl, hs⟩
  exact ⟨rfl, PX.mvR h gc hb hs⟩
theorem PRG (h : PX w N base C R sc sr) (gc : Good sc n) (hb : base ≤ w.heap.size) (m : Int) :
    Calls Try.prog 54 #[.pointer (some ⟨R, 0, none⟩), .int .i64 m] w fun e w' => e = .returned (.int .i64 (stG sr m).1) ∧ Mv w N base C R sc (stG sr m).2 w' := by
  obtain ⟨lA, c, oA, oc, B, Z, vB, vZ, rA, rc, h⟩ := h
  refine (TRG h.r hb m).mono ?_
  rintro e w' ⟨rfl, hs⟩
  exact ⟨rfl, PX.mvR h gc hb hs⟩
theorem PRR (h : PX w N base C R sc sr) (g : Good sr n) (p m : Int) :
    Calls Try.prog 22 #[.pointer (some ⟨R, 0, none⟩), .int .i64 p, .int .i64 m] w fun e w' => ∃ A ca, e = .returned (.tuple #[.slice A (stB sr p m).length ca, .bool (stOk sr p m)]) ∧ BA w' A ca (stB sr p m) ∧ Below w.heap.size w w' := by
  obtain ⟨lA, c, oA, oc, B, Z, vB, vZ, rA, rc, h⟩ := h
  exact TRR h.r g p m
theorem PRFi (h : PX w N base C R sc sr) :
    Calls Try.prog 33 #[.pointer (some ⟨R, 0, none⟩)] w fun e w' => ∃ A ca, e = .returned (.tuple #[.int .i64 ((stFi sr).1 : Int), .slice A (stFi sr).2.1.length ca, .bool (stFi sr).2.2]) ∧ BA w' A ca (stFi sr).2.1 ∧ Below w.heap.size w w' := by
  obtain ⟨lA, c, oA, oc, B, Z, vB, vZ, rA, rc, h⟩ := h
  exact TRFi h.r
end
end Go.Proofs.Ytbnkiefchbcfgaa.U
