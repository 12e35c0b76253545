/- cache: what the laws without the document's answer lean on. -/
import Derived.Test.YtbnkiefchbcfgaaCworks
set_option linter.unusedVariables false
set_option linter.unusedSimpArgs false
namespace Go.Proofs.Ytbnkiefchbcfgaa.U
open Go.RowKit Go.Proofs Go.Lib Go.Proofs.YtbnkiefchbcfgaaW.PrintWords

theorem BR.far {w w' : World} {A : Option Addr} {c : Nat} {bs : List Int} (h : BR w A c bs) {b : Nat} (hA : ∀ g o, A = some ⟨g, o, none⟩ → b ≤ g) (hk : ∀ (g : Nat) (ob : Obj), b ≤ g → w.heap[g]? = some ob → w'.heap[g]? = some ob) : BR w' A c bs := by
  refine ⟨h.1, fun h0 => ?_⟩
  obtain ⟨g, o, cs, fz, e, hh, hc⟩ := h.2 h0
  exact ⟨g, o, cs, fz, e, hk g _ (hA g o e) hh, hc⟩
/-- A row of pieces that is new stands when nothing from its base on is written. -/
theorem NewX.far {w w' : World} {b : Nat} {v : Value} {xs : List Ext} (h : NewX w b v xs) (hk : ∀ (g : Nat) (ob : Obj), b ≤ g → w.heap[g]? = some ob → w'.heap[g]? = some ob) : NewX w' b v xs := by
  obtain ⟨l, h1, h2, h3, h4⟩ := h
  refine ⟨l, ⟨h1.1, ?_⟩, fun j x hj => ?_, h3, h4⟩
  · rcases h1.2 with h5 | ⟨L, c, sp, rfl, hL, r⟩
    · exact .inl h5
    · exact .inr ⟨L, c, sp, rfl, hk L _ (h3 L rfl) hL, r⟩
  · obtain ⟨A, c, q1, q2, q3, q4⟩ := h2 j x hj
    exact ⟨A, c, q1, q2, q3.far (b := b) (fun g o e => by have := q4 g o e; omega) hk, q4⟩
theorem FrC.far {w w' : World} {C b : Nat} {lA oA : Option Addr} (hf : FrC w w' C lA oA) (hC : C < b) (hL : ∀ L o, lA = some ⟨L, o, none⟩ → L < b) (hO : ∀ L o, oA = some ⟨L, o, none⟩ → L < b) : ∀ (g : Nat) (ob : Obj), b ≤ g → w.heap[g]? = some ob → w'.heap[g]? = some ob := fun g ob hg hh => by
  rw [hf.block g (Array.getElem?_eq_some_iff.1 hh).1 (by omega) (fun o e => by have := hL g o e; omega) (fun o e => by have := hO g o e; omega)]
  exact hh
/-- A cache alone, behind played. -/
structure Al (w0 w : World) (C : Nat) (s : St) (lA : Option Addr) (c : Nat) (oA : Option Addr) (oc : Nat) : Prop where
  d : ∃ N, One w N C s lA c oA oc
  g : Good s 60
  bC : w0.heap.size ≤ C
  bL : ∀ L o, lA = some ⟨L, o, none⟩ → w0.heap.size ≤ L
  bO : ∀ L o, oA = some ⟨L, o, none⟩ → w0.heap.size ≤ L
  b : Below w0.heap.size w0 w
section
variable {w0 w w' : World} {C R : Nat} {s s' : St} {lA : Option Addr} {c : Nat} {oA : Option Addr} {oc : Nat}
theorem Al.of {C R : Nat} (h : PlP w0 C R w) : ∃ s lA c oA oc, Al w0 w C s lA c oA oc := by
  obtain ⟨s, gs, ⟨lA, c, oA, oc, B, Z, vB, vZ, rA, rc, h⟩, hb⟩ := h
  exact ⟨s, lA, c, oA, oc, ⟨_, h.c⟩, gs, h.bC, h.bL, h.bO, hb⟩
theorem Al.below (h : Al w0 w C s lA c oA oc) (hb : Below w.heap.size w w') : Al w0 w' C s lA c oA oc := by
  obtain ⟨N, h1⟩ := h.d
  exact ⟨⟨N, h1.below hb⟩, h.g, h.bC, h.bL, h.bO, h.b.trans (hb.mono h.b.size)⟩
theorem Al.lt (h : Al w0 w C s lA c oA oc) : C < w.heap.size ∧ (∀ L o, lA = some ⟨L, o, none⟩ → L < w.heap.size) ∧ ∀ L o, oA = some ⟨L, o, none⟩ → L < w.heap.size := by
  obtain ⟨N, h1⟩ := h.d
  exact ⟨h1.d.lt, fun L o e => (h1.d.known.at_ e).2.1, fun L o e => (h1.d.opn.at_ e).1⟩
theorem Al.fits (h : Al w0 w C s lA c oA oc) : s.xs.length ≤ 1000000000 ∧ ∀ x ∈ s.xs, x.2.length ≤ 1000000000 := by
  refine ⟨by have := ok_len' h.g.fit.ok h.g.fit.top; have := h.g.small; omega, fun x hx => ?_⟩
  have := h.g.fit.top x hx
  have ex : en x = x.1 + x.2.length := rfl
  have := h.g.small
  omega
theorem LP (h : Al w0 w C s lA c oA oc) :
    Calls Try.prog 23 #[.pointer (some ⟨C, 0, none⟩)] w fun e w' => ∃ v, e = .returned v ∧ NewU w' w.heap.size v s.xs ∧ Below w.heap.size w w' ∧ Al w0 w' C s lA c oA oc := by
  have h' := h
  obtain ⟨N, h1⟩ := h.d
  refine (TP h1 h.g).mono ?_
  rintro e w' ⟨v, rfl, hn, hb⟩
  exact ⟨v, rfl, hn, hb, h'.below hb⟩
theorem LOpen (h : Al w0 w C s lA c oA oc) :
    Calls Try.prog 17 #[.pointer (some ⟨C, 0, none⟩)] w fun e w' => e = .returned (.int .i64 (s.os.length : Int)) ∧ w' = w := by
  obtain ⟨N, h1⟩ := h.d
  exact Open_calls h1.d
theorem LLevel (h : Al w0 w C s lA c oA oc) :
    Calls Try.prog 25 #[.pointer (some ⟨C, 0, none⟩)] w fun e w' => e = .returned (.int .u8 (s.lvl : Int)) ∧ w' = w := by
  obtain ⟨N, h1⟩ := h.d
  exact Level_calls h1.d
theorem LSize (h : Al w0 w C s lA c oA oc) :
    Calls Try.prog 27 #[.pointer (some ⟨C, 0, none⟩)] w fun e w' => e = .returned (.int .i64 (s.size : Int)) ∧ w' = w := by
  obtain ⟨N, h1⟩ := h.d
  exact Size_calls h1.d
theorem LRead (h : Al w0 w C s lA c oA oc) (p m : Int) :
    Calls Try.prog 15 #[.pointer (some ⟨C, 0, none⟩), .int .i64 p, .int .i64 m] w fun e w' => ∃ A ca, e = .returned (.tuple #[.slice A (stB s p m).length ca, .bool (stOk s p m)]) ∧ Ans w w' A ca (stB s p m) ∧ Al w0 w' C s lA c oA oc := by
  have h' := h
  obtain ⟨N, h1⟩ := h.d
  refine (TR h1 h.g p m).mono ?_
  rintro e w' ⟨A, ca, rfl, ha⟩
  exact ⟨A, ca, rfl, ha, h'.below ha.2.2.2⟩
theorem Al.step (h : Al w0 w C s lA c oA oc) (g : Good s' 60) {N : Nat → Prop} (hs : StepC w N C lA oA s' w') : (∃ lA' c' oA' oc', Al w0 w' C s' lA' c' oA' oc') ∧ ∀ b, w.heap.size ≤ b → ∀ (g : Nat) (ob : Obj), b ≤ g → w.heap[g]? = some ob → w'.heap[g]? = some ob := by
  obtain ⟨lA', c', oA', oc', r1, r2, r3, r4⟩ := hs
  have hw := h.b.size
  refine ⟨⟨lA', c', oA', oc', ⟨N, r1⟩, g, h.bC, fun L o e => ?_, fun L o e => ?_, r2.below h.b (Nat.le_refl _) h.bC h.bL h.bO⟩, fun b hb g ob hg hh => by have := (Array.getElem?_eq_some_iff.1 hh).1; omega⟩
  · rcases r3 L o e with ⟨o2, h5⟩ | h5
    · exact h.bL L o2 h5
    · omega
  · rcases r4 L o e with ⟨o2, h5⟩ | h5
    · exact h.bO L o2 h5
    · omega
end
end Go.Proofs.Ytbnkiefchbcfgaa.U
