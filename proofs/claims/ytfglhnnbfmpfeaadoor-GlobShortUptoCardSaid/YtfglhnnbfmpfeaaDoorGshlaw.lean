/- The short form of a pattern, in plain words: it fits what the pattern fits, is its own short form, and not longer. -/
import Derived.Test.YtfglhnnbfmpfeaaDoorGlaw
import Derived.Test.YtfglhnnbfmpfeaaDoorGshort
set_option linter.unusedVariables false
set_option linter.unusedSimpArgs false
namespace Go.Proofs.YtfglhnnbfmpfeaaDoor.U
open Go.RowKit Go.Proofs Go.Lib

theorem sh_is : ∀ (ns : List Nat) (st : Bool), (∀ n ∈ ns, IsLetter n) → ∀ n ∈ sh ns st, IsLetter n := by
  intro ns
  induction ns with
  | nil =>
    intro st _ n hn
    cases st with
    | false => cases hn
    | true =>
      rw [List.mem_singleton.1 hn]
      exact .inl (by decide)
  | cons c t ih =>
    intro st h n hn
    have ht := fun x hx => h x (List.mem_cons_of_mem _ hx)
    rw [sh] at hn
    split at hn
    · exact ih true ht n hn
    · split at hn
      · rcases List.mem_cons.1 hn with rfl | hn
        · exact .inl (by decide)
        · exact ih st ht n hn
      · rcases List.mem_append.1 hn with hn | hn
        · cases st with
          | false => cases hn
          | true =>
            rw [List.mem_singleton.1 hn]
            exact .inl (by decide)
        · rcases List.mem_cons.1 hn with rfl | hn
          · exact h _ List.mem_cons_self
          · exact ih false ht n hn
theorem sh_sh : ∀ (ns : List Nat) (st b : Bool), sh (sh ns st) b = sh ns (st || b) := by
  intro ns
  induction ns with
  | nil => intro st b; cases st <;> cases b <;> rfl
  | cons c t ih =>
    intro st b
    by_cases h1 : c = 42
    · subst h1
      show sh (sh t true) b = sh t true
      rw [ih, Bool.true_or]
    · by_cases h2 : c = 63
      · subst h2
        show 63 :: sh (sh t st) b = 63 :: sh t (st || b)
        rw [ih]
      · have e : ∀ x, sh (c :: t) x = (if x then [42] else []) ++ c :: sh t false := fun x => by rw [sh, if_neg h1, if_neg h2]
        have e2 : ∀ (u : List Nat) x, sh (c :: u) x = (if x then [42] else []) ++ c :: sh u false := fun u x => by rw [sh, if_neg h1, if_neg h2]
        rw [e, e]
        cases st with
        | false =>
          show sh (c :: sh t false) b = _
          rw [e2, ih, Bool.false_or]
          rfl
        | true =>
          show sh (42 :: c :: sh t false) b = _
          show sh (c :: sh t false) true = _
          rw [e2, ih, Bool.true_or]
          rfl
theorem sh_count : ∀ (ns : List Nat) (st : Bool), (sh ns st).length ≤ ns.length + (if st then 1 else 0) := by
  intro ns
  induction ns with
  | nil => intro st; cases st <;> simp [sh]
  | cons c t ih =>
    intro st
    rw [sh, List.length_cons]
    split
    · have := ih true
      simp only [if_true] at this
      omega
    · split
      · have := ih st
        rw [List.length_cons]
        omega
      · have := ih false
        rw [List.length_append, List.length_cons]
        have e : (if st then [42] else ([] : List Nat)).length = if st then 1 else 0 := by cases st <;> rfl
        rw [e]
        simp only [Bool.false_eq_true, if_false] at this
        omega
/-! ### What a pattern fits -/
theorem mt_star_star (p t : List Int) : mt (42 :: 42 :: p) t = mt (42 :: p) t := by
  rw [Bool.eq_iff_iff, mt_star_iff, mt_star_iff]
  constructor
  · rintro ⟨A, B, rfl, h⟩
    obtain ⟨C, D, rfl, h2⟩ := (mt_star_iff _ _).1 h
    exact ⟨A ++ C, D, by rw [List.append_assoc], h2⟩
  · rintro ⟨A, B, rfl, h⟩
    exact ⟨A, B, rfl, (mt_star_iff _ _).2 ⟨[], B, rfl, h⟩⟩
theorem mt_mark (p t : List Int) : mt (63 :: p) t = true ↔ ∃ x B, t = x :: B ∧ mt p B = true := by
  cases t with
  | nil =>
    rw [mt_one_nil (by decide)]
    constructor
    · intro h; cases h
    · rintro ⟨x, B, e, _⟩; cases e
  | cons x t =>
    rw [mt_one (by decide), show okc 63 x = true from by unfold okc; simp, Bool.true_and]
    constructor
    · intro h; exact ⟨x, t, rfl, h⟩
    · rintro ⟨y, B, e, h⟩
      injection e with e1 e2
      subst e2
      exact h
theorem mt_swap (p t : List Int) : mt (63 :: 42 :: p) t = mt (42 :: 63 :: p) t := by
  rw [Bool.eq_iff_iff, mt_mark, mt_star_iff]
  constructor
  · rintro ⟨x, B, rfl, h⟩
    obtain ⟨C, D, rfl, h2⟩ := (mt_star_iff _ _).1 h
    rcases List.eq_nil_or_concat C with rfl | ⟨C', y, rfl⟩
    · exact ⟨[], x :: D, rfl, (mt_mark _ _).2 ⟨x, D, rfl, h2⟩⟩
    · exact ⟨x :: C', y :: D, by simp, (mt_mark _ _).2 ⟨y, D, rfl, h2⟩⟩
  · rintro ⟨A, B, rfl, h⟩
    obtain ⟨x, D, rfl, h2⟩ := (mt_mark _ _).1 h
    cases A with
    | nil => exact ⟨x, D, rfl, (mt_star_iff _ _).2 ⟨[], D, rfl, h2⟩⟩
    | cons a A => exact ⟨a, A ++ x :: D, rfl, (mt_star_iff _ _).2 ⟨A ++ [x], D, by simp, h2⟩⟩
theorem mt_cong (a X Y : List Int) (h : ∀ t, mt X t = mt Y t) (t : List Int) : mt (a ++ X) t = mt (a ++ Y) t := by
  rw [Bool.eq_iff_iff, mt_append, mt_append]
  constructor
  · rintro ⟨A, B, e, h1, h2⟩; exact ⟨A, B, e, h1, by rw [← h B]; exact h2⟩
  · rintro ⟨A, B, e, h1, h2⟩; exact ⟨A, B, e, h1, by rw [h B]; exact h2⟩
def fI (n : Nat) : Int := ((foldN n : Nat) : Int)
theorem mt_sh : ∀ (ns : List Nat) (st : Bool) (t : List Int), mt ((sh ns st).map fI) t = mt ((if st then [42] else []) ++ ns.map fI) t := by
  have f42 : fI 42 = 42 := by decide
  have f63 : fI 63 = 63 := by decide
  intro ns
  induction ns with
  | nil =>
    intro st t
    cases st with
    | false => rfl
    | true =>
      show mt [fI 42] t = mt [42] t
      rw [f42]
  | cons c u ih =>
    intro st t
    by_cases h1 : c = 42
    · subst h1
      show mt ((sh u true).map fI) t = mt ((if st then [42] else []) ++ fI 42 :: u.map fI) t
      rw [ih true, f42]
      cases st with
      | false => rfl
      | true => exact (mt_star_star _ _).symm
    · by_cases h2 : c = 63
      · subst h2
        show mt (fI 63 :: (sh u st).map fI) t = mt ((if st then [42] else []) ++ fI 63 :: u.map fI) t
        rw [f63]
        refine (mt_cong [63] _ _ (ih st) t).trans ?_
        cases st with
        | false => rfl
        | true => exact mt_swap _ _
      · rw [sh, if_neg h1, if_neg h2, List.map_append, List.map_cons, List.map_cons]
        have e : (if st then [42] else ([] : List Nat)).map fI = if st then [42] else [] := by
          cases st with
          | false => rfl
          | true => show [fI 42] = [42]; rw [f42]
        rw [e]
        have := mt_cong ((if st then [42] else []) ++ [fI c]) _ _ (ih false) t
        rw [List.append_assoc, List.append_assoc] at this
        exact this
/-! ### The short form -/
theorem letters_short {l : List UInt8} (h : valid l = true) : letters (shortOf l) = sh (letters l) false :=
  letters_of_enc _ (sh_is _ _ ((valid_iff l).1 h))
theorem valid_short {l : List UInt8} (h : valid l = true) : valid (shortOf l) = true := by
  rw [valid_iff, letters_short h]
  exact sh_is _ _ ((valid_iff l).1 h)
theorem short_short {l : List UInt8} (h : valid l = true) : shortOf (shortOf l) = shortOf l := by
  show (sh (letters (shortOf l)) false).flatMap enc = _
  rw [letters_short h, sh_sh]
  rfl
theorem short_size (l : List UInt8) : (shortOf l).length ≤ l.length := by
  have := sh_len (letters l) false
  rw [enc_letters] at this
  exact this
theorem fnums_fI (l : List UInt8) : fnums l = (letters l).map fI := by
  unfold fnums flet fI
  rw [List.map_map]
  rfl
theorem short_table (p s : List UInt8) :
    (askE p [] = 3) ∨ (askE p [] = 5) ∨ (askE p [] = 0 ∧ shortB s 256 = false) ∨
    (askE p [] = 0 ∧ shortB s 256 = true ∧ askE (shortOf p) [] = 0 ∧ shortOf (shortOf p) = shortOf p ∧ askE p s = 0 ∧ askE (shortOf p) s = 0 ∧ fitB (shortOf p) s = fitB p s) := by
  have hn : valid [] = true ∧ (fnums []).length = 0 := by decide +kernel
  by_cases hv : valid p = true
  · by_cases hl : (fnums p).length ≤ 64
    · have sp : shortB p 64 = true := (short_iff _ _).2 ⟨hv, hl⟩
      have sq : shortB (shortOf p) 64 = true := by
        refine (short_iff _ _).2 ⟨valid_short hv, ?_⟩
        rw [fnums_length, letters_short hv]
        have := sh_count (letters p) false
        rw [fnums_length] at hl
        simp only [Bool.false_eq_true, if_false] at this
        omega
      have se : shortB [] 256 = true := (short_iff _ _).2 ⟨hn.1, by rw [hn.2]; omega⟩
      right; right
      cases hs : shortB s 256 with
      | false => exact .inl ⟨(ask_short sp se).1, rfl⟩
      | true =>
        right
        refine ⟨(ask_short sp se).1, rfl, (ask_short sq se).1, short_short hv, (ask_short sp hs).1, (ask_short sq hs).1, ?_⟩
        rw [(ask_short sp hs).2, (ask_short sq hs).2, fnums_fI, fnums_fI p, letters_short hv]
        exact mt_sh _ _ _
    · left
      unfold askE
      rw [if_pos ⟨hv, hn.1⟩, if_pos (.inl (by omega))]
  · right; left
    unfold askE
    rw [if_neg (fun h => hv h.1)]
end Go.Proofs.YtfglhnnbfmpfeaaDoor.U
