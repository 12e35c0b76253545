/- A cache and the document's cache, side by side in memory: each act, in plain words. -/
import Derived.Test.YtbnkiefchbcfgaaCrefe
import Derived.Test.YtbnkiefchbcfgaaCst
set_option linter.unusedVariables false
set_option linter.unusedSimpArgs false
namespace Go.Proofs.Ytbnkiefchbcfgaa.U
open Go.RowKit Go.Proofs Go.Lib Go.Proofs.YtbnkiefchbcfgaaW.PrintWords

/-- A cache alone. -/
structure One (w : World) (N : Nat → Prop) (C : Nat) (s : St) (lA : Option Addr) (c : Nat) (oA : Option Addr) (oc : Nat) : Prop where
  d : CacheAt w N C s.lvl s.size s.xs s.os lA c oA oc
  new : ∀ k, N k → k < w.heap.size
/-- The document's cache alone. -/
structure OneR (w : World) (N : Nat → Prop) (base R : Nat) (s : St) (B : List Int) (Z : List Bool) (vB vZ : Value) (rA : Option Addr) (rc : Nat) : Prop where
  r : RefC w N base R s.lvl B Z s.os vB vZ rA rc
  rel : Rel s.size s.xs B Z
  new : ∀ k, N k → k < w.heap.size
def StepC (w : World) (N : Nat → Prop) (C : Nat) (lA oA : Option Addr) (s' : St) (w' : World) : Prop := ∃ lA' c' oA' oc', One w' N C s' lA' c' oA' oc' ∧ FrC w w' C lA oA ∧ SameL w lA lA' ∧ SameL w oA oA'
def StepR (w : World) (N : Nat → Prop) (base R : Nat) (vB vZ : Value) (rA : Option Addr) (s' : St) (w' : World) : Prop := ∃ B' Z' vB' vZ' rA' rc', OneR w' N base R s' B' Z' vB' vZ' rA' rc' ∧ FrR w w' R vB vZ rA vB' vZ' rA'
section
variable {w w' : World} {N : Nat → Prop} {C n : Nat} {s : St} {lA oA : Option Addr} {c oc : Nat}
theorem One.below (h : One w N C s lA c oA oc) (hb : Below w.heap.size w w') : One w' N C s lA c oA oc := ⟨h.d.below hb, fun k hk => Nat.lt_of_lt_of_le (h.new k hk) hb.size⟩
theorem One.stay (h : One w N C s lA c oA oc) : StepC w N C lA oA s w := ⟨lA, c, oA, oc, h, FrC.refl _ _ _ _, SameL.refl _ _, SameL.refl _ _⟩
theorem TW (h : One w N C s lA c oA oc) (g : Good s n) (hn : n ≤ 1000000) (p : Int) (A : Option Addr) (bs : List Int) (ca : Nat) (hA : BA w A ca bs) (hf : 0 < bs.length → ∀ g o, A = some ⟨g, o, none⟩ → g ≠ C ∧ ∀ o, lA ≠ some ⟨g, o, none⟩) :
    Calls Try.prog 14 #[.pointer (some ⟨C, 0, none⟩), .int .i64 p, .slice A bs.length ca] w fun e w' => e = .returned (.bool (stW s p bs).1) ∧ StepC w N C lA oA (stW s p bs).2 w' := by
  unfold stW
  cases hk : wrOk s.lvl s.size p bs.length with
  | false =>
    rw [if_neg (by decide)]
    refine (Write_no p bs.length A ca h.d g.small hk).mono ?_
    rintro e w' ⟨rfl, rfl⟩
    exact ⟨rfl, h.stay⟩
  | true =>
    rw [if_pos rfl]
    obtain ⟨h1, h2, h3, h4, h5⟩ := wrOk_iff.1 hk
    obtain ⟨k, rfl⟩ : ∃ k : Nat, p = (k : Int) := ⟨p.toNat, by omega⟩
    refine (Write_calls k A ca bs h.d g.fit h.new g.small h1 hA h2 (by omega) (Nat.le_trans g.few hn) (hf h2)).mono ?_
    rintro e w' ⟨rfl, lA', c', oA', oc', r1, r2, r3, r4⟩
    exact ⟨rfl, lA', c', oA', oc', ⟨r1, fun j hj => Nat.lt_of_lt_of_le (h.new j hj) r2.size⟩, r2, r3, r4⟩
theorem TF (h : One w N C s lA c oA oc) (g : Good s n) (hn : n ≤ 1000000) (p : Int) (A : Option Addr) (bs : List Int) (ca : Nat) (hA : BA w A ca bs) :
    Calls Try.prog 12 #[.pointer (some ⟨C, 0, none⟩), .int .i64 p, .slice A bs.length ca] w fun e w' => e = .returned (.int .i64 (stF s p bs).1) ∧ StepC w N C lA oA (stF s p bs).2 w' := by
  unfold stF
  cases hk : inB s p bs.length with
  | false =>
    rw [if_neg (by decide)]
    refine (Fill_arg p bs.length A ca h.d g.small (fun h => by rw [inB_iff.2 h] at hk; cases hk)).mono ?_
    rintro e w' ⟨rfl, rfl⟩
    exact ⟨rfl, h.stay⟩
  | true =>
    rw [if_pos rfl]
    have h0 := inB_iff.1 hk
    by_cases hl : s.lvl = 0
    · have hd := h.d
      rw [hl] at hd
      refine (Fill_zero p bs.length A ca hd g.small h0).mono ?_
      rintro e w' ⟨rfl, rfl⟩
      refine ⟨rfl, ?_⟩
      show StepC w' N C lA oA (if s.lvl = 0 then s else _) w'
      rw [if_pos hl]
      exact h.stay
    · obtain ⟨h1, h2, h3⟩ := h0
      obtain ⟨k, rfl⟩ : ∃ k : Nat, p = (k : Int) := ⟨p.toNat, by omega⟩
      refine (Fill_calls k A ca bs h.d g.fit g.wi h.new g.small (by omega) hA (by omega) (Nat.le_trans g.few hn)).mono ?_
      rintro e w' ⟨rfl, lA', c', r1, r2, r3⟩
      refine ⟨rfl, ?_⟩
      show StepC w N C lA oA (if s.lvl = 0 then s else _) w'
      rw [if_neg hl]
      exact ⟨lA', c', oA, oc, ⟨r1, fun j hj => Nat.lt_of_lt_of_le (h.new j hj) r2.size⟩, r2.more oA, r3, SameL.refl _ _⟩
theorem TS (h : One w N C s lA c oA oc) :
    Calls Try.prog 19 #[.pointer (some ⟨C, 0, none⟩)] w fun e w' => e = .returned (.int .i64 (stS s).1) ∧ StepC w N C lA oA (stS s).2 w' := by
  obtain ⟨lvl, size, xs, os⟩ := s
  cases os with
  | nil =>
    refine (Settle_none h.d).mono ?_
    rintro e w' ⟨rfl, rfl⟩
    exact ⟨rfl, h.stay⟩
  | cons x t =>
    refine (Settle_calls h.d).mono ?_
    rintro e w' ⟨rfl, oA', oc', r1, r2, r3⟩
    exact ⟨rfl, lA, c, oA', oc', ⟨r1, fun j hj => Nat.lt_of_lt_of_le (h.new j hj) r2.size⟩, r2, SameL.refl _ _, r3⟩
theorem TD (h : One w N C s lA c oA oc) (l : Nat) :
    Calls Try.prog 26 #[.pointer (some ⟨C, 0, none⟩), .int .u8 (l : Int)] w fun e w' => e = .returned (.int .i64 (stD s l).1) ∧ StepC w N C lA oA (stD s l).2 w' := by
  unfold stD
  by_cases h1 : s.lvl ≤ l
  · rw [if_pos h1]
    refine (Down_arg l h.d h1).mono ?_
    rintro e w' ⟨rfl, rfl⟩
    exact ⟨rfl, h.stay⟩
  · rw [if_neg h1]
    by_cases h2 : l < 2 ∧ 0 < s.os.length
    · rw [if_pos h2]
      refine (Down_state l h.d (by omega) h2.1 h2.2).mono ?_
      rintro e w' ⟨rfl, rfl⟩
      exact ⟨rfl, h.stay⟩
    · rw [if_neg h2]
      by_cases h3 : l = 0
      · subst h3
        have ho : s.os = [] := List.eq_nil_of_length_eq_zero (by omega)
        obtain ⟨lvl, size, xs, os⟩ := s
        have ho : os = [] := ho
        subst ho
        refine (Down_zero h.d (by show 0 < lvl; have h1 : ¬ lvl ≤ 0 := h1; omega)).mono ?_
        rintro e w' ⟨rfl, r1, r2⟩
        exact ⟨rfl, none, 0, oA, oc, ⟨r1, fun j hj => Nat.lt_of_lt_of_le (h.new j hj) r2.size⟩, r2, (fun L o e => by cases e), SameL.refl _ _⟩
      · refine (Down_some l h.d (by omega) (by omega) (by omega)).mono ?_
        rintro e w' ⟨rfl, r1, r2⟩
        refine ⟨rfl, lA, c, oA, oc, ⟨?_, fun j hj => Nat.lt_of_lt_of_le (h.new j hj) r2.size⟩, r2, SameL.refl _ _, SameL.refl _ _⟩
        show CacheAt w' N C l s.size (if l = 0 then [] else s.xs) s.os lA c oA oc
        rw [if_neg h3]
        exact r1
theorem TG (h : One w N C s lA c oA oc) (m : Int) :
    Calls Try.prog 35 #[.pointer (some ⟨C, 0, none⟩), .int .i64 m] w fun e w' => e = .returned (.int .i64 (stG s m).1) ∧ StepC w N C lA oA (stG s m).2 w' := by
  unfold stG
  by_cases h1 : 0 < s.os.length
  · rw [if_pos h1]
    refine (Forget_state m h.d h1).mono ?_
    rintro e w' ⟨rfl, rfl⟩
    exact ⟨rfl, h.stay⟩
  · rw [if_neg h1]
    obtain ⟨lvl, size, xs, os⟩ := s
    obtain rfl : os = [] := List.eq_nil_of_length_eq_zero (by have h1 : ¬ 0 < os.length := h1; omega)
    by_cases h2 : m < 0 ∨ 65536 < m
    · rw [if_pos h2]
      refine (Forget_arg m h.d h2).mono ?_
      rintro e w' ⟨rfl, rfl⟩
      exact ⟨rfl, h.stay⟩
    · rw [if_neg h2]
      obtain ⟨k, rfl⟩ : ∃ k : Nat, m = (k : Int) := ⟨m.toNat, by omega⟩
      refine (Forget_calls k h.d (by omega)).mono ?_
      rintro e w' ⟨rfl, r1, r2⟩
      exact ⟨rfl, none, 0, oA, oc, ⟨r1, fun j hj => Nat.lt_of_lt_of_le (h.new j hj) r2.size⟩, r2, (fun L o e => by cases e), SameL.refl _ _⟩
theorem ow_of {w : World} {base m ca : Nat} {A : Option Addr} {l : List Value} (h : w.ownsRow base 5 1 (.slice A m ca) m l) (hU : AllU8 w (.slice A m ca)) : Ow w base A m ca := by
  rcases h.2 with ⟨h1, h2⟩ | ⟨g, cap, cur, hv, hg, hh, hc, hm, hs, ht⟩
  · injection h1 with e1 e2 e3
    exact .inl ⟨e1, e2, e3⟩
  · injection hv with e1 e2 e3
    subst e1 e3
    obtain ⟨ds, hd⟩ := hU g rfl
    rw [hd] at hh
    injection hh with hh
    injection hh with hcur _ _
    refine .inr ⟨g, ds, rfl, hg, hd, ?_, hc, ?_⟩
    · rw [← hcur, List.size_toArray, nums_len, Nat.mul_one] at hs
      exact hs
    · unfold maxLen at hm
      omega
/-- Bytes that a call answers. -/
def Ans (w w' : World) (A : Option Addr) (ca : Nat) (bs : List Int) : Prop := BR w' A ca bs ∧ Ow w' w.heap.size A bs.length ca ∧ (∀ g o, A = some ⟨g, o, none⟩ → w.heap.size ≤ g) ∧ Below w.heap.size w w'
theorem Ans.of {w w' : World} {v : Value} {m : Nat} {bs : List Int} (ho : w'.ownsRow w.heap.size 5 1 v m (nums .u8 bs)) (hU : AllU8 w' v) (hb : Below w.heap.size w w') : ∃ A ca, v = .slice A bs.length ca ∧ Ans w w' A ca bs := by
  have hm : m = bs.length := by have := ho.1; rw [nums_len] at this; omega
  subst hm
  obtain ⟨A, ca, rfl, hc, _⟩ := own_slice_form ho
  exact ⟨A, ca, rfl, own_BR ho rfl, ow_of ho hU, fun g o e => own_base ho g o e, hb⟩
theorem Ans.nil {w w' : World} (hb : Below w.heap.size w w') : Ans w w' none 0 [] := ⟨BR.nil _ _ _, .inl ⟨rfl, rfl, rfl⟩, fun g o e => (by cases e), hb⟩
theorem TR (h : One w N C s lA c oA oc) (g : Good s n) (p m : Int) :
    Calls Try.prog 15 #[.pointer (some ⟨C, 0, none⟩), .int .i64 p, .int .i64 m] w fun e w' => ∃ A ca, e = .returned (.tuple #[.slice A (stB s p m).length ca, .bool (stOk s p m)]) ∧ Ans w w' A ca (stB s p m) := by
  unfold stB rdB stOk rdOk
  by_cases hg : 0 < s.lvl ∧ 0 < m ∧ 0 ≤ p ∧ p ≤ s.size ∧ m ≤ s.size - p
  · rw [decide_eq_true hg, Bool.true_and]
    obtain ⟨h1, h2, h3, h4, h5⟩ := hg
    obtain ⟨k, rfl⟩ : ∃ k : Nat, p = (k : Int) := ⟨p.toNat, by omega⟩
    obtain ⟨j, rfl⟩ : ∃ j : Nat, m = (j : Int) := ⟨m.toNat, by omega⟩
    rw [Int.toNat_natCast, Int.toNat_natCast]
    cases hk : knB s.xs k j with
    | false =>
      refine (Read_not k j h.d g.fit g.small h1 (by omega) (by omega) hk).mono ?_
      rintro e w' ⟨rfl, hb⟩
      exact ⟨none, 0, rfl, Ans.nil hb⟩
    | true =>
      refine (Read_yes k j h.d g.fit g.small h1 (by omega) (by omega) hk).mono ?_
      rintro e w' ⟨v, rfl, ho, hu, hb⟩
      obtain ⟨A, ca, rfl, ha⟩ := Ans.of ho hu hb
      exact ⟨A, ca, rfl, ha⟩
  · rw [decide_eq_false hg, Bool.false_and]
    refine (Read_no p m h.d g.small hg).mono ?_
    rintro e w' ⟨rfl, hb⟩
    exact ⟨none, 0, rfl, Ans.nil hb⟩
theorem TFi (h : One w N C s lA c oA oc) (g : Good s n) :
    Calls Try.prog 18 #[.pointer (some ⟨C, 0, none⟩)] w fun e w' => ∃ A ca, e = .returned (.tuple #[.int .i64 ((stFi s).1 : Int), .slice A (stFi s).2.1.length ca, .bool (stFi s).2.2]) ∧ Ans w w' A ca (stFi s).2.1 := by
  obtain ⟨lvl, size, xs, os⟩ := s
  cases os with
  | nil =>
    refine (First_none h.d).mono ?_
    rintro e w' ⟨rfl, rfl⟩
    exact ⟨none, 0, rfl, Ans.nil (Below.refl _ _)⟩
  | cons x t =>
    have hx := g.wi x List.mem_cons_self
    have ex : en x = x.1 + x.2.length := rfl
    have hs : size ≤ 65536 := g.small
    have hxs : en x ≤ size := hx.2
    refine (First_calls h.d hx.1 (by omega)).mono ?_
    rintro e w' ⟨v, rfl, ho, hu, hb⟩
    obtain ⟨A, ca, rfl, ha⟩ := Ans.of ho hu hb
    exact ⟨A, ca, rfl, ha⟩
theorem TP (h : One w N C s lA c oA oc) (g : Good s n) :
    Calls Try.prog 23 #[.pointer (some ⟨C, 0, none⟩)] w fun e w' => ∃ v, e = .returned v ∧ NewU w' w.heap.size v s.xs ∧ Below w.heap.size w w' :=
  Pieces_calls C s.lvl s.size s.xs s.os lA oA c oc w h.d g.fit.ok g.fit.top g.small
end
section
variable {w w' : World} {N : Nat → Prop} {base R n : Nat} {s : St} {B : List Int} {Z : List Bool} {vB vZ : Value} {rA : Option Addr} {rc : Nat}
theorem OneR.below (h : OneR w N base R s B Z vB vZ rA rc) (hb : Below w.heap.size w w') : OneR w' N base R s B Z vB vZ rA rc := ⟨h.r.below hb, h.rel, fun k hk => Nat.lt_of_lt_of_le (h.new k hk) hb.size⟩
theorem OneR.stay (h : OneR w N base R s B Z vB vZ rA rc) : StepR w N base R vB vZ rA s w := ⟨B, Z, vB, vZ, rA, rc, h, FrR.refl _ _ _ _ _⟩
theorem OneR.bl (h : OneR w N base R s B Z vB vZ rA rc) (g : Good s n) : B.length ≤ 65536 := by rw [h.rel.bl]; exact g.small
theorem TRW (h : OneR w N base R s B Z vB vZ rA rc) (g : Good s n) (hn : n ≤ 1000000) (hbase : base ≤ w.heap.size) (p : Int) (A : Option Addr) (bs : List Int) (ca : Nat) (hA : BA w A ca bs) (hf : 0 < bs.length → ∀ g o, A = some ⟨g, o, none⟩ → vB.ownBlock ≠ some g ∧ vZ.ownBlock ≠ some g) :
    Calls Try.prog 29 #[.pointer (some ⟨R, 0, none⟩), .int .i64 p, .slice A bs.length ca] w fun e w' => e = .returned (.bool (stW s p bs).1) ∧ StepR w N base R vB vZ rA (stW s p bs).2 w' := by
  unfold stW
  have hbl := h.rel.bl
  have hzl := h.rel.zl
  have ho : ∀ x ∈ s.os, 0 < x.2.length := fun x hx => (g.wi x hx).1
  cases hk : wrOk s.lvl s.size p bs.length with
  | false =>
    rw [if_neg (by decide)]
    refine (Rwrite_no p bs.length A ca h.r (h.bl g) (by rw [hbl]; exact hk)).mono ?_
    rintro e w' ⟨rfl, rfl⟩
    exact ⟨rfl, h.stay⟩
  | true =>
    rw [if_pos rfl]
    obtain ⟨h1, h2, h3, h4, h5⟩ := wrOk_iff.1 hk
    obtain ⟨k, rfl⟩ : ∃ k : Nat, p = (k : Int) := ⟨p.toNat, by omega⟩
    refine (Rwrite_calls k A ca bs h.r ho hbase h.new (h.bl g) (by rw [hbl, hzl]) h1 hA h2 (by rw [hbl]; omega) (Nat.le_trans g.few hn) (hf h2)).mono ?_
    rintro e w' ⟨rfl, rA', rc', r1, r2⟩
    exact ⟨rfl, _, _, vB, vZ, rA', rc', ⟨r1, h.rel.lay k bs h2 (by omega), fun j hj => Nat.lt_of_lt_of_le (h.new j hj) r2.size⟩, r2⟩
theorem TRF (h : OneR w N base R s B Z vB vZ rA rc) (g : Good s n) (hn : n ≤ 1000000) (p : Int) (A : Option Addr) (bs : List Int) (ca : Nat) (hA : BA w A ca bs) (hf : 0 < bs.length → ∀ g o, A = some ⟨g, o, none⟩ → vB.ownBlock ≠ some g ∧ vZ.ownBlock ≠ some g) :
    Calls Try.prog 30 #[.pointer (some ⟨R, 0, none⟩), .int .i64 p, .slice A bs.length ca] w fun e w' => e = .returned (.int .i64 (stF s p bs).1) ∧ StepR w N base R vB vZ rA (stF s p bs).2 w' := by
  unfold stF
  have hbl := h.rel.bl
  cases hk : inB s p bs.length with
  | false =>
    rw [if_neg (by decide)]
    refine (Rfill_arg p bs.length A ca h.r (h.bl g) (fun h => by rw [hbl] at h; rw [inB_iff.2 h] at hk; cases hk)).mono ?_
    rintro e w' ⟨rfl, rfl⟩
    exact ⟨rfl, h.stay⟩
  | true =>
    rw [if_pos rfl]
    have h0 := inB_iff.1 hk
    by_cases hl : s.lvl = 0
    · have hd := h.r
      rw [hl] at hd
      refine (Rfill_zero p bs.length A ca hd (h.bl g) (by rw [hbl]; exact h0)).mono ?_
      rintro e w' ⟨rfl, rfl⟩
      refine ⟨rfl, ?_⟩
      show StepR w' N base R vB vZ rA (if s.lvl = 0 then s else _) w'
      rw [if_pos hl]
      exact h.stay
    · obtain ⟨h1, h2, h3⟩ := h0
      obtain ⟨k, rfl⟩ : ∃ k : Nat, p = (k : Int) := ⟨p.toNat, by omega⟩
      refine (Rfill_calls k A ca bs h.r h.rel g.wi g.small (by omega) hA (by omega) (Nat.le_trans g.few hn) hf).mono ?_
      rintro e w' ⟨rfl, B', Z', r1, r2, r3⟩
      refine ⟨rfl, ?_⟩
      show StepR w N base R vB vZ rA (if s.lvl = 0 then s else _) w'
      rw [if_neg hl]
      exact ⟨B', Z', vB, vZ, rA, rc, ⟨r1, r2, fun j hj => Nat.lt_of_lt_of_le (h.new j hj) r3.size⟩, r3.toR R rA⟩
theorem TRS (h : OneR w N base R s B Z vB vZ rA rc) (g : Good s n) :
    Calls Try.prog 52 #[.pointer (some ⟨R, 0, none⟩)] w fun e w' => e = .returned (.int .i64 (stS s).1) ∧ StepR w N base R vB vZ rA (stS s).2 w' := by
  obtain ⟨lvl, size, xs, os⟩ := s
  cases os with
  | nil =>
    refine (Rsettle_none h.r).mono ?_
    rintro e w' ⟨rfl, rfl⟩
    exact ⟨rfl, h.stay⟩
  | cons x t =>
    refine (Rsettle_calls h.r (fun y hy => (g.wi y (List.mem_cons_of_mem _ hy)).1)).mono ?_
    rintro e w' ⟨rfl, rA', rc', r1, r2⟩
    exact ⟨rfl, B, Z, vB, vZ, rA', rc', ⟨r1, h.rel, fun j hj => Nat.lt_of_lt_of_le (h.new j hj) r2.size⟩, r2⟩
theorem TRD (h : OneR w N base R s B Z vB vZ rA rc) (g : Good s n) (hbase : base ≤ w.heap.size) (l : Nat) :
    Calls Try.prog 53 #[.pointer (some ⟨R, 0, none⟩), .int .u8 (l : Int)] w fun e w' => e = .returned (.int .i64 (stD s l).1) ∧ StepR w N base R vB vZ rA (stD s l).2 w' := by
  unfold stD
  by_cases h1 : s.lvl ≤ l
  · rw [if_pos h1]
    refine (Rdown_arg l h.r h1).mono ?_
    rintro e w' ⟨rfl, rfl⟩
    exact ⟨rfl, h.stay⟩
  · rw [if_neg h1]
    by_cases h2 : l < 2 ∧ 0 < s.os.length
    · rw [if_pos h2]
      refine (Rdown_state l h.r (by omega) h2.1 h2.2).mono ?_
      rintro e w' ⟨rfl, rfl⟩
      exact ⟨rfl, h.stay⟩
    · rw [if_neg h2]
      by_cases h3 : l = 0
      · subst h3
        have hbl := h.bl g
        have hb := h.rel.bl
        have ho : s.os = [] := List.eq_nil_of_length_eq_zero (by omega)
        obtain ⟨lvl, size, xs, os⟩ := s
        have ho : os = [] := ho
        subst ho
        refine (Rdown_zero h.r (by show 0 < lvl; have h1 : ¬ lvl ≤ 0 := h1; omega) hbl hbase).mono ?_
        rintro e w' ⟨rfl, vB', vZ', r1, r2⟩
        have hb : B.length = size := hb
        rw [hb] at r1
        exact ⟨rfl, _, _, vB', vZ', rA, rc, ⟨r1, Rel.blank size, fun j hj => Nat.lt_of_lt_of_le (h.new j hj) r2.size⟩, r2⟩
      · refine (Rdown_some l h.r (by omega) (by omega) (by omega)).mono ?_
        rintro e w' ⟨rfl, r1, r2⟩
        refine ⟨rfl, B, Z, vB, vZ, rA, rc, ⟨r1, ?_, fun j hj => Nat.lt_of_lt_of_le (h.new j hj) r2.size⟩, r2⟩
        show Rel s.size (if l = 0 then [] else s.xs) B Z
        rw [if_neg h3]
        exact h.rel
theorem TRG (h : OneR w N base R s B Z vB vZ rA rc) (hbase : base ≤ w.heap.size) (m : Int) :
    Calls Try.prog 54 #[.pointer (some ⟨R, 0, none⟩), .int .i64 m] w fun e w' => e = .returned (.int .i64 (stG s m).1) ∧ StepR w N base R vB vZ rA (stG s m).2 w' := by
  unfold stG
  by_cases h1 : 0 < s.os.length
  · rw [if_pos h1]
    refine (Rforget_state m h.r h1).mono ?_
    rintro e w' ⟨rfl, rfl⟩
    exact ⟨rfl, h.stay⟩
  · rw [if_neg h1]
    obtain ⟨lvl, size, xs, os⟩ := s
    obtain rfl : os = [] := List.eq_nil_of_length_eq_zero (by have h1 : ¬ 0 < os.length := h1; omega)
    by_cases h2 : m < 0 ∨ 65536 < m
    · rw [if_pos h2]
      refine (Rforget_arg m h.r h2).mono ?_
      rintro e w' ⟨rfl, rfl⟩
      exact ⟨rfl, h.stay⟩
    · rw [if_neg h2]
      obtain ⟨k, rfl⟩ : ∃ k : Nat, m = (k : Int) := ⟨m.toNat, by omega⟩
      refine (Rforget_calls k h.r (by omega) hbase).mono ?_
      rintro e w' ⟨rfl, vB', vZ', r1, r2⟩
      exact ⟨rfl, _, _, vB', vZ', rA, rc, ⟨r1, Rel.blank k, fun j hj => Nat.lt_of_lt_of_le (h.new j hj) r2.size⟩, r2⟩
/-- Bytes that are read out of the document's cache. -/
theorem own_BA {m : Nat} {v : Value} {bs : List Int} (h : w.ownsRow base 5 1 v m (nums .u8 bs)) : ∃ A ca, v = .slice A bs.length ca ∧ BA w A ca bs := by
  have hm : m = bs.length := by have := h.1; rw [nums_len] at this; omega
  subst hm
  obtain ⟨A, ca, rfl, hc, _⟩ := own_slice_form h
  exact ⟨A, ca, rfl, (own_BR h rfl).ba⟩
theorem TRR (h : OneR w N base R s B Z vB vZ rA rc) (g : Good s n) (p m : Int) :
    Calls Try.prog 22 #[.pointer (some ⟨R, 0, none⟩), .int .i64 p, .int .i64 m] w fun e w' => ∃ A ca, e = .returned (.tuple #[.slice A (stB s p m).length ca, .bool (stOk s p m)]) ∧ BA w' A ca (stB s p m) ∧ Below w.heap.size w w' := by
  unfold stB rdB stOk rdOk
  have hbl := h.rel.bl
  by_cases hg : 0 < s.lvl ∧ 0 < m ∧ 0 ≤ p ∧ p ≤ s.size ∧ m ≤ s.size - p
  · rw [decide_eq_true hg, Bool.true_and]
    obtain ⟨h1, h2, h3, h4, h5⟩ := hg
    obtain ⟨k, rfl⟩ : ∃ k : Nat, p = (k : Int) := ⟨p.toNat, by omega⟩
    obtain ⟨j, rfl⟩ : ∃ j : Nat, m = (j : Int) := ⟨m.toNat, by omega⟩
    rw [Int.toNat_natCast, Int.toNat_natCast]
    refine (Rread_calls k j _ _ rfl rfl h.r h.rel g.small h1 (by omega) (by omega)).mono ?_
    rintro e w' ⟨v, m', rfl, ho, hb⟩
    obtain ⟨A, ca, rfl, hA⟩ := own_BA ho
    exact ⟨A, ca, rfl, hA, hb⟩
  · rw [decide_eq_false hg, Bool.false_and]
    refine (Rread_no p m h.r (h.bl g) (by rw [hbl]; exact hg)).mono ?_
    rintro e w' ⟨rfl, rfl⟩
    exact ⟨none, 0, rfl, ⟨Nat.le_refl _, fun h => (by cases h)⟩, Below.refl _ _⟩
theorem TRFi (h : OneR w N base R s B Z vB vZ rA rc) :
    Calls Try.prog 33 #[.pointer (some ⟨R, 0, none⟩)] w fun e w' => ∃ A ca, e = .returned (.tuple #[.int .i64 ((stFi s).1 : Int), .slice A (stFi s).2.1.length ca, .bool (stFi s).2.2]) ∧ BA w' A ca (stFi s).2.1 ∧ Below w.heap.size w w' := by
  obtain ⟨lvl, size, xs, os⟩ := s
  cases os with
  | nil =>
    refine (Rfirst_none h.r).mono ?_
    rintro e w' ⟨rfl, rfl⟩
    exact ⟨none, 0, rfl, ⟨Nat.le_refl _, fun h => (by cases h)⟩, Below.refl _ _⟩
  | cons x t => exact Rfirst_calls h.r
theorem TRP (h : OneR w N base R s B Z vB vZ rA rc) (g : Good s n) :
    Calls Try.prog 47 #[.pointer (some ⟨R, 0, none⟩)] w fun e w' => ∃ v, e = .returned v ∧ NewX w' w.heap.size v s.xs ∧ Below w.heap.size w w' :=
  Rpieces_calls N base R s.lvl s.size s.xs B Z s.os vB vZ rA rc w h.r h.rel g.small
end
end Go.Proofs.Ytbnkiefchbcfgaa.U
