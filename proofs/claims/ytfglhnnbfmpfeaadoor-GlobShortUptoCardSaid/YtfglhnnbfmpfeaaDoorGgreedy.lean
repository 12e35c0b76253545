/- Going over a text once, back to the last star at what does not fit: its steps, in plain words. -/
import Derived.Test.YtfglhnnbfmpfeaaDoorGspec
set_option linter.unusedVariables false
namespace Go.Proofs.YtfglhnnbfmpfeaaDoor.U

def Gi (p t : List Int) (i at' : Nat) (star : Option Nat) (mark : Nat) : Prop :=
  i ≤ p.length ∧ at' ≤ t.length ∧ match star with
  | none => mt p t = mt (p.drop i) (t.drop at')
  | some s => s < i ∧ mark ≤ at' ∧ at' - mark = i - (s + 1) ∧ mt p t = mt (42 :: p.drop (s + 1)) (t.drop mark) ∧
      (∀ T : List Int, mt (p.drop (s + 1)) T = true → at' - mark ≤ T.length ∧ mt (p.drop i) (T.drop (at' - mark)) = true) ∧
      (mt (p.drop i) (t.drop at') = true → mt (p.drop (s + 1)) (t.drop mark) = true)

theorem G0 (p t : List Int) : Gi p t 0 0 none 0 := ⟨Nat.zero_le _, Nat.zero_le _, rfl⟩
/-- One letter. -/
theorem G1 {p t : List Int} {i at' mark : Nat} {st : Option Nat} (h : Gi p t i at' st mark) (hi : i < p.length) (ha : at' < t.length) (h42 : p.getD i 0 ≠ 42) (hok : okc (p.getD i 0) (t.getD at' 0) = true) :
    Gi p t (i + 1) (at' + 1) st mark := by
  obtain ⟨_, _, h⟩ := h
  have e1 := seg_step hi
  have e2 := seg_step ha
  refine ⟨hi, ha, ?_⟩
  cases st with
  | none =>
    simp only at h ⊢
    rw [h, e1, e2, mt_one h42, hok, Bool.true_and]
  | some s =>
    simp only at h ⊢
    obtain ⟨h1, h2, h3, h4, h5, h6⟩ := h
    refine ⟨by omega, by omega, by omega, h4, fun T hT => ?_, fun hm => h6 ?_⟩
    · obtain ⟨k1, k2⟩ := h5 T hT
      rw [e1] at k2
      have hl : at' - mark < T.length := by
        rcases Nat.lt_or_ge (at' - mark) T.length with h | h
        · exact h
        · rw [List.drop_eq_nil_of_le h, mt_one_nil h42] at k2
          cases k2
      rw [seg_step hl, mt_one h42, Bool.and_eq_true] at k2
      refine ⟨by omega, ?_⟩
      rw [show at' + 1 - mark = at' - mark + 1 by omega]
      exact k2.2
    · rw [e1, e2, mt_one h42, hok, hm]
      rfl
/-- A star. -/
theorem G2 {p t : List Int} {i at' mark : Nat} {st : Option Nat} (h : Gi p t i at' st mark) (hi : i < p.length) (h42 : p.getD i 0 = 42) :
    Gi p t (i + 1) at' (some i) at' := by
  obtain ⟨_, ha, h⟩ := h
  have e1 := seg_step hi
  rw [h42] at e1
  refine ⟨hi, ha, ?_⟩
  simp only
  refine ⟨by omega, Nat.le_refl _, by omega, ?_, fun T hT => ⟨by omega, by rw [Nat.sub_self, List.drop_zero]; exact hT⟩, fun h => h⟩
  cases st with
  | none =>
    simp only at h
    rw [h, e1]
  | some s =>
    simp only at h
    obtain ⟨h1, h2, h3, h4, h5, h6⟩ := h
    rw [h4, Bool.eq_iff_iff]
    constructor
    · intro h
      obtain ⟨A, B, e, hB⟩ := (mt_star_iff _ _).1 h
      obtain ⟨k1, k2⟩ := h5 B hB
      rw [e1] at k2
      have e3 : t.drop at' = (A ++ B).drop (at' - mark) := by rw [← e, List.drop_drop]; congr 1; omega
      rw [e3]
      have e4 : (A ++ B).drop (at' - mark) = ((A ++ B).drop (at' - mark)).take A.length ++ B.drop (at' - mark) := by
        have e5 : ((A ++ B).drop (at' - mark)).drop A.length = B.drop (at' - mark) := by
          rw [List.drop_drop, Nat.add_comm, ← List.drop_drop, List.drop_left]
        rw [← e5, List.take_append_drop]
      rw [e4]
      exact mt_star_more _ _ _ k2
    · intro h
      rw [← e1] at h
      exact (mt_star_iff _ _).2 ⟨[], _, rfl, h6 h⟩
theorem no_fit {p t : List Int} {i at' : Nat} (hi : i ≤ p.length) (ha : at' < t.length) (hno : i < p.length → p.getD i 0 ≠ 42 ∧ okc (p.getD i 0) (t.getD at' 0) = false) : mt (p.drop i) (t.drop at') = false := by
  rw [seg_step ha]
  rcases Nat.lt_or_ge i p.length with h | h
  · rw [seg_step h, mt_one (hno h).1, (hno h).2]
    rfl
  · rw [List.drop_eq_nil_of_le h]
    rfl
/-- Nothing fits: from the star on, a letter more. -/
theorem G3 {p t : List Int} {i at' mark s : Nat} (h : Gi p t i at' (some s) mark) (ha : at' < t.length) (hno : i < p.length → p.getD i 0 ≠ 42 ∧ okc (p.getD i 0) (t.getD at' 0) = false) :
    Gi p t (s + 1) (mark + 1) (some s) (mark + 1) := by
  obtain ⟨hi, _, h⟩ := h
  simp only at h
  obtain ⟨h1, h2, h3, h4, h5, h6⟩ := h
  refine ⟨by omega, by omega, ?_⟩
  simp only
  refine ⟨by omega, Nat.le_refl _, by omega, ?_, fun T hT => ⟨by omega, by rw [Nat.sub_self, List.drop_zero]; exact hT⟩, fun h => h⟩
  have hf := no_fit hi ha hno
  have hf2 : mt (p.drop (s + 1)) (t.drop mark) = false := by
    cases hc : mt (p.drop (s + 1)) (t.drop mark) with
    | false => rfl
    | true =>
      have := (h5 _ hc).2
      rw [List.drop_drop, show mark + (at' - mark) = at' by omega, hf] at this
      cases this
  rw [h4]
  have e := seg_step (p := t) (i := mark) (by omega)
  rw [e] at hf2 ⊢
  rw [mt_star_cons, hf2, Bool.false_or]
theorem G4 {p t : List Int} {i at' mark : Nat} (h : Gi p t i at' none mark) (ha : at' < t.length) (hno : i < p.length → p.getD i 0 ≠ 42 ∧ okc (p.getD i 0) (t.getD at' 0) = false) : mt p t = false := by
  obtain ⟨hi, _, h⟩ := h
  simp only at h
  rw [h]
  exact no_fit hi ha hno
/-- The end. -/
theorem G5 {p t : List Int} {i at' mark : Nat} {st : Option Nat} (h : Gi p t i at' st mark) (ha : t.length ≤ at') : mt p t = mt (p.drop i) [] := by
  obtain ⟨hi, ha', h⟩ := h
  have hd : t.drop at' = [] := List.drop_eq_nil_of_le ha
  cases st with
  | none =>
    simp only at h
    rw [h, hd]
  | some s =>
    simp only at h
    obtain ⟨h1, h2, h3, h4, h5, h6⟩ := h
    rw [hd] at h6
    rw [h4, Bool.eq_iff_iff]
    constructor
    · intro h
      obtain ⟨A, B, e, hB⟩ := (mt_star_iff _ _).1 h
      obtain ⟨k1, k2⟩ := h5 B hB
      have : (t.drop mark).length = A.length + B.length := by rw [e, List.length_append]
      rw [List.length_drop] at this
      have e9 : B.drop (at' - mark) = [] := List.drop_eq_nil_of_le (by omega)
      rw [e9] at k2
      exact k2
    · intro h
      exact (mt_star_iff _ _).2 ⟨[], _, rfl, h6 h⟩
theorem G6 {p : List Int} {i : Nat} (hi : i < p.length) (h : p.getD i 0 = 42) : mt (p.drop i) [] = mt (p.drop (i + 1)) [] := by
  rw [seg_step hi, h, mt_star_nil]
theorem G7 {p : List Int} {i : Nat} (hi : i ≤ p.length) (h : i < p.length → p.getD i 0 ≠ 42) : mt (p.drop i) [] = decide (i = p.length) := by
  rcases Nat.lt_or_ge i p.length with hl | hl
  · rw [seg_step hl, mt_one_nil (h hl), decide_eq_false (by omega)]
  · rw [List.drop_eq_nil_of_le hl, decide_eq_true (by omega)]
    rfl
end Go.Proofs.YtfglhnnbfmpfeaaDoor.U
