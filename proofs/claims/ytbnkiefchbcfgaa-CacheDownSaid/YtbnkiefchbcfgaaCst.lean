/- cache, in plain words: what each act does. -/
import Derived.Test.YtbnkiefchbcfgaaK2
set_option linter.unusedVariables false
set_option linter.unusedSimpArgs false
namespace Go.Proofs.Ytbnkiefchbcfgaa.U

/-- A cache: its level, its size, what is known, what is not settled. -/
structure St where
  lvl : Nat
  size : Nat
  xs : List Ext
  os : List Ext
structure Good (s : St) (n : Nat) : Prop where
  fit : Fit s.size s.xs
  wi : Within s.size s.os
  small : s.size ≤ 65536
  lv : s.lvl ≤ 3
  few : s.os.length ≤ n
  lz : s.lvl = 0 → s.xs = []
def stW (s : St) (p : Int) (bs : List Int) : Bool × St := if wrOk s.lvl s.size p bs.length then (true, ⟨s.lvl, s.size, wr p.toNat bs s.xs, s.os ++ [(p.toNat, bs)]⟩) else (false, s)
def inB (s : St) (p : Int) (n : Nat) : Bool := decide (0 ≤ p ∧ p ≤ s.size ∧ (n : Int) ≤ s.size - p)
def stF (s : St) (p : Int) (bs : List Int) : Int × St := if inB s p bs.length then (0, if s.lvl = 0 then s else ⟨s.lvl, s.size, lays s.os (wr0 p.toNat bs s.xs), s.os⟩) else (2, s)
def stS (s : St) : Int × St := match s.os with
  | [] => (17, s)
  | _ :: t => (0, ⟨s.lvl, s.size, s.xs, t⟩)
def stFi (s : St) : Nat × List Int × Bool := match s.os with
  | [] => (0, [], false)
  | x :: _ => (x.1, x.2, true)
def stD (s : St) (l : Nat) : Int × St := if s.lvl ≤ l then (2, s) else if l < 2 ∧ 0 < s.os.length then (17, s) else (0, ⟨l, s.size, if l = 0 then [] else s.xs, s.os⟩)
def stG (s : St) (n : Int) : Int × St := if 0 < s.os.length then (17, s) else if n < 0 ∨ 65536 < n then (2, s) else (0, ⟨s.lvl, n.toNat, [], s.os⟩)
def stOk (s : St) (p n : Int) : Bool := rdOk s.lvl s.size s.xs p n
def stB (s : St) (p n : Int) : List Int := rdB s.lvl s.size s.xs p n

theorem Good.mono {s : St} {n m : Nat} (h : Good s n) (hm : n ≤ m) : Good s m := ⟨h.fit, h.wi, h.small, h.lv, Nat.le_trans h.few hm, h.lz⟩
theorem Good.new {lvl size : Nat} (n : Nat) (hl : lvl ≤ 3) (hs : size ≤ 65536) : Good ⟨lvl, size, [], []⟩ n := ⟨⟨trivial, fun x hx => (by cases hx)⟩, fun x hx => (by cases hx), hs, hl, Nat.zero_le _, fun _ => rfl⟩
theorem wrOk_iff {lvl size n : Nat} {p : Int} : wrOk lvl size p n = true ↔ 2 ≤ lvl ∧ 0 < n ∧ 0 ≤ p ∧ p ≤ size ∧ (n : Int) ≤ size - p := by unfold wrOk; rw [decide_eq_true_iff]
theorem inB_iff {s : St} {p : Int} {n : Nat} : inB s p n = true ↔ 0 ≤ p ∧ p ≤ s.size ∧ (n : Int) ≤ s.size - p := by unfold inB; rw [decide_eq_true_iff]
theorem Good.w {s : St} {n : Nat} (h : Good s n) (p : Int) (bs : List Int) : Good (stW s p bs).2 (n + 1) := by
  unfold stW
  split
  · rename_i hk
    obtain ⟨h1, h2, h3, h4, h5⟩ := wrOk_iff.1 hk
    refine ⟨h.fit.wr h2 (by show p.toNat + bs.length ≤ s.size; omega), fun x hx => ?_, h.small, h.lv, ?_, fun hz => by have hz : s.lvl = 0 := hz; omega⟩
    · rcases List.mem_append.1 hx with hx | hx
      · exact h.wi x hx
      · rw [List.mem_singleton.1 hx]
        refine ⟨h2, ?_⟩
        show p.toNat + bs.length ≤ s.size
        omega
    · show (s.os ++ [(p.toNat, bs)]).length ≤ n + 1
      rw [List.length_append, List.length_singleton]
      have := h.few
      omega
  · exact h.mono (Nat.le_succ _)
theorem Good.f {s : St} {n : Nat} (h : Good s n) (p : Int) (bs : List Int) : Good (stF s p bs).2 n := by
  unfold stF
  split
  · rename_i hk
    obtain ⟨h1, h2, h3⟩ := inB_iff.1 hk
    show Good (if s.lvl = 0 then s else _) n
    split
    · exact h
    · rename_i hl0
      exact ⟨(h.fit.wr0 (by show p.toNat + bs.length ≤ s.size; omega)).lays h.wi, h.wi, h.small, h.lv, h.few, fun hz => absurd hz hl0⟩
  · exact h
theorem Good.s {s : St} {n : Nat} (h : Good s n) : Good (stS s).2 n := by
  unfold stS
  split
  · exact h
  · rename_i x t e
    refine ⟨h.fit, fun y hy => h.wi y (by rw [e]; exact List.mem_cons_of_mem _ hy), h.small, h.lv, ?_, h.lz⟩
    have := h.few
    rw [e, List.length_cons] at this
    show t.length ≤ n
    omega
theorem Good.d {s : St} {n : Nat} (h : Good s n) (l : Nat) : Good (stD s l).2 n := by
  unfold stD
  split
  · exact h
  · split
    · exact h
    · refine ⟨?_, h.wi, h.small, ?_, h.few, fun hz => if_pos hz⟩
      · show Fit s.size (if l = 0 then [] else s.xs)
        split
        · exact ⟨trivial, fun x hx => (by cases hx)⟩
        · exact h.fit
      · show l ≤ 3
        have := h.lv
        omega
theorem Good.g {s : St} {n : Nat} (h : Good s n) (m : Int) : Good (stG s m).2 n := by
  unfold stG
  split
  · exact h
  · split
    · exact h
    · rename_i h1 h2
      have e : s.os = [] := List.eq_nil_of_length_eq_zero (by omega)
      refine ⟨⟨trivial, fun x hx => (by cases hx)⟩, fun x hx => ?_, ?_, h.lv, h.few, fun _ => rfl⟩
      · have hx : x ∈ s.os := hx
        rw [e] at hx
        cases hx
      · show m.toNat ≤ 65536
        omega
theorem rdB_length (lvl size : Nat) (xs : List Ext) (p n : Int) (hs : size ≤ 65536) : (rdB lvl size xs p n).length ≤ 65536 := by
  unfold rdB
  split
  · rename_i h
    unfold rdOk at h
    rw [Bool.and_eq_true, decide_eq_true_iff] at h
    rw [bytesAt_length]
    omega
  · exact Nat.zero_le _
end Go.Proofs.Ytbnkiefchbcfgaa.U
