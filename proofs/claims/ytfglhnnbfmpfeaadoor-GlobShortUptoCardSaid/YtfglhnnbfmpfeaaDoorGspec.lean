/- What a pattern fits, in plain words: 42 anything, 63 any letter; its laws. -/
namespace Go.Proofs.YtfglhnnbfmpfeaaDoor.U

/-- Some end of a list. -/
def ends (f : List Int → Bool) : List Int → Bool
  | [] => f []
  | x :: t => f (x :: t) || ends f t
def okc (c x : Int) : Bool := decide (c = 63) || decide (c = x)
def mt : List Int → List Int → Bool
  | [], t => t.isEmpty
  | c :: p, t => if c = 42 then ends (mt p) t else match t with
    | [] => false
    | x :: t => okc c x && mt p t

theorem ends_iff (f : List Int → Bool) : ∀ t : List Int, ends f t = true ↔ ∃ A B, t = A ++ B ∧ f B = true := by
  intro t
  induction t with
  | nil =>
    constructor
    · intro h; exact ⟨[], [], rfl, h⟩
    · rintro ⟨A, B, e, h⟩
      have : B = [] := (List.append_eq_nil_iff.1 e.symm).2
      subst this
      exact h
  | cons x t ih =>
    rw [ends, Bool.or_eq_true, ih]
    constructor
    · rintro (h | ⟨A, B, rfl, h⟩)
      · exact ⟨[], _, rfl, h⟩
      · exact ⟨x :: A, B, rfl, h⟩
    · rintro ⟨A, B, e, h⟩
      cases A with
      | nil => left; rw [List.nil_append] at e; rw [e]; exact h
      | cons a A =>
        injection e with e1 e2
        exact .inr ⟨A, B, e2, h⟩
theorem mt_nil (t : List Int) : mt [] t = t.isEmpty := rfl
theorem mt_nil_iff (t : List Int) : mt [] t = true ↔ t = [] := by rw [mt_nil, List.isEmpty_iff]
theorem mt_star (p t : List Int) : mt (42 :: p) t = ends (mt p) t := rfl
theorem mt_star_iff (p t : List Int) : mt (42 :: p) t = true ↔ ∃ A B, t = A ++ B ∧ mt p B = true := by rw [mt_star, ends_iff]
theorem mt_star_nil (p : List Int) : mt (42 :: p) [] = mt p [] := by rw [mt_star, ends]
theorem mt_star_cons (p : List Int) (x : Int) (t : List Int) : mt (42 :: p) (x :: t) = (mt p (x :: t) || mt (42 :: p) t) := by rw [mt_star, ends, mt_star]
theorem mt_one_nil {c : Int} (h : c ≠ 42) (p : List Int) : mt (c :: p) [] = false := by
  show (if c = 42 then ends (mt p) [] else false) = false
  rw [if_neg h]
theorem mt_one {c : Int} (h : c ≠ 42) (p : List Int) (x : Int) (t : List Int) : mt (c :: p) (x :: t) = (okc c x && mt p t) := by
  show (if c = 42 then ends (mt p) (x :: t) else (okc c x && mt p t)) = _
  rw [if_neg h]
/-- A star fits more in front. -/
theorem mt_star_more (p A t : List Int) (h : mt (42 :: p) t = true) : mt (42 :: p) (A ++ t) = true := by
  rw [mt_star_iff] at h ⊢
  obtain ⟨B, C, rfl, h⟩ := h
  exact ⟨A ++ B, C, by rw [List.append_assoc], h⟩
/-- Two patterns, one behind the other. -/
theorem mt_append : ∀ (p q t : List Int), mt (p ++ q) t = true ↔ ∃ A B, t = A ++ B ∧ mt p A = true ∧ mt q B = true := by
  intro p
  induction p with
  | nil =>
    intro q t
    constructor
    · intro h; exact ⟨[], t, rfl, rfl, h⟩
    · rintro ⟨A, B, rfl, hA, hB⟩
      rw [mt_nil_iff] at hA
      subst hA
      exact hB
  | cons c p ih =>
    intro q t
    by_cases hc : c = 42
    · subst hc
      rw [List.cons_append, mt_star_iff]
      constructor
      · rintro ⟨A, B, rfl, h⟩
        obtain ⟨C, D, rfl, h1, h2⟩ := (ih q B).1 h
        exact ⟨A ++ C, D, by rw [List.append_assoc], (mt_star_iff _ _).2 ⟨A, C, rfl, h1⟩, h2⟩
      · rintro ⟨A, B, rfl, h1, h2⟩
        obtain ⟨C, D, rfl, h3⟩ := (mt_star_iff _ _).1 h1
        exact ⟨C, D ++ B, by rw [List.append_assoc], (ih q _).2 ⟨D, B, rfl, h3, h2⟩⟩
    · rw [List.cons_append]
      cases t with
      | nil =>
        rw [mt_one_nil hc]
        constructor
        · intro h; cases h
        · rintro ⟨A, B, e, h1, h2⟩
          have : A = [] := (List.append_eq_nil_iff.1 e.symm).1
          subst this
          rw [mt_one_nil hc] at h1
          exact h1
      | cons x t =>
        rw [mt_one hc, Bool.and_eq_true, ih]
        constructor
        · rintro ⟨hx, A, B, rfl, h1, h2⟩
          exact ⟨x :: A, B, rfl, by rw [mt_one hc, hx, h1]; rfl, h2⟩
        · rintro ⟨A, B, e, h1, h2⟩
          cases A with
          | nil => rw [mt_one_nil hc] at h1; cases h1
          | cons a A =>
            injection e with e1 e2
            subst e1
            rw [mt_one hc, Bool.and_eq_true] at h1
            exact ⟨h1.1, A, B, e2, h1.2, h2⟩
theorem mt_all (t : List Int) : mt [42] t = true := (mt_star_iff _ _).2 ⟨t, [], by simp, rfl⟩
/-- One behind: a star. -/
theorem mt_snoc_star (p t : List Int) : mt (p ++ [42]) t = true ↔ ∃ A B, t = A ++ B ∧ mt p A = true := by
  rw [mt_append]
  constructor
  · rintro ⟨A, B, e, h, _⟩; exact ⟨A, B, e, h⟩
  · rintro ⟨A, B, e, h⟩; exact ⟨A, B, e, h, mt_all B⟩
theorem mt_snoc_star_nil (p : List Int) : mt (p ++ [42]) [] = mt p [] := by
  rw [Bool.eq_iff_iff, mt_snoc_star]
  constructor
  · rintro ⟨A, B, e, h⟩
    have : A = [] := (List.append_eq_nil_iff.1 e.symm).1
    subst this
    exact h
  · intro h; exact ⟨[], [], rfl, h⟩
theorem mt_snoc_star_snoc (p t : List Int) (x : Int) : mt (p ++ [42]) (t ++ [x]) = (mt (p ++ [42]) t || mt p (t ++ [x])) := by
  rw [Bool.eq_iff_iff, Bool.or_eq_true, mt_snoc_star, mt_snoc_star]
  constructor
  · rintro ⟨A, B, e, h⟩
    rcases List.eq_nil_or_concat B with rfl | ⟨B', y, rfl⟩
    · right; rw [List.append_nil] at e; rw [e]; exact h
    · left
      rw [List.concat_eq_append, ← List.append_assoc] at e
      exact ⟨A, B', (List.append_inj' e rfl).1, h⟩
  · rintro (⟨A, B, rfl, h⟩ | h)
    · exact ⟨A, B ++ [x], by rw [List.append_assoc], h⟩
    · exact ⟨t ++ [x], [], by simp, h⟩
/-- One behind: none. -/
theorem mt_snoc_one_nil {c : Int} (hc : c ≠ 42) (p : List Int) : mt (p ++ [c]) [] = false := by
  cases h : mt (p ++ [c]) [] with
  | false => rfl
  | true =>
    obtain ⟨A, B, e, _, h2⟩ := (mt_append p [c] []).1 h
    have : B = [] := (List.append_eq_nil_iff.1 e.symm).2
    subst this
    rw [mt_one_nil hc] at h2
    cases h2
theorem mt_snoc_one {c : Int} (hc : c ≠ 42) (p t : List Int) (x : Int) : mt (p ++ [c]) (t ++ [x]) = (okc c x && mt p t) := by
  rw [Bool.eq_iff_iff, mt_append, Bool.and_eq_true]
  constructor
  · rintro ⟨A, B, e, h1, h2⟩
    cases B with
    | nil => rw [mt_one_nil hc] at h2; cases h2
    | cons b B =>
      rw [mt_one hc, Bool.and_eq_true, mt_nil_iff] at h2
      obtain ⟨h3, rfl⟩ := h2
      obtain ⟨e1, e2⟩ := List.append_inj' e rfl
      injection e2 with e2
      subst e1 e2
      exact ⟨h3, h1⟩
  · rintro ⟨h1, h2⟩
    exact ⟨t, [x], rfl, h2, by rw [mt_one hc, h1]; rfl⟩
/-- Letters that are none of the two. -/
theorem mt_plain : ∀ (p t : List Int), (∀ c ∈ p, c ≠ 42 ∧ c ≠ 63) → mt p t = decide (p = t) := by
  intro p
  induction p with
  | nil => intro t _; cases t <;> rfl
  | cons c p ih =>
    intro t h
    have hc := h c List.mem_cons_self
    cases t with
    | nil => rw [mt_one_nil hc.1]; simp
    | cons x t =>
      rw [mt_one hc.1, ih t fun y hy => h y (List.mem_cons_of_mem _ hy)]
      unfold okc
      rw [decide_eq_false hc.2, Bool.false_or]
      by_cases h1 : c = x <;> by_cases h2 : p = t <;> simp [h1, h2]
theorem mt_marks : ∀ (k : Nat) (t : List Int), mt (List.replicate k 63) t = decide (t.length = k) := by
  intro k
  induction k with
  | zero => intro t; rw [List.replicate_zero, mt_nil]; cases t <;> simp
  | succ k ih =>
    intro t
    rw [List.replicate_succ]
    cases t with
    | nil => rw [mt_one_nil (by decide)]; simp
    | cons x t =>
      rw [mt_one (by decide), ih]
      unfold okc
      simp
theorem mt_marks_star (k : Nat) (t : List Int) : mt (List.replicate k 63 ++ [42]) t = decide (k ≤ t.length) := by
  rw [Bool.eq_iff_iff, mt_snoc_star, decide_eq_true_eq]
  constructor
  · rintro ⟨A, B, rfl, h⟩
    rw [mt_marks, decide_eq_true_eq] at h
    simp
    omega
  · intro h
    exact ⟨t.take k, t.drop k, (List.take_append_drop k t).symm, by rw [mt_marks, decide_eq_true_eq, List.length_take]; omega⟩
theorem mt_star_marks (k : Nat) (t : List Int) : mt (42 :: List.replicate k 63) t = decide (k ≤ t.length) := by
  rw [Bool.eq_iff_iff, mt_star_iff, decide_eq_true_eq]
  constructor
  · rintro ⟨A, B, rfl, h⟩
    rw [mt_marks, decide_eq_true_eq] at h
    simp
    omega
  · intro h
    exact ⟨t.take (t.length - k), t.drop (t.length - k), (List.take_append_drop _ t).symm, by rw [mt_marks, decide_eq_true_eq, List.length_drop]; omega⟩

/-! ### Going over a text from a star on -/
/-- Letters p[a..i) without a star take just so many. -/
theorem seg_step {p : List Int} {i : Nat} (h : i < p.length) : p.drop i = p.getD i 0 :: p.drop (i + 1) := by
  rw [List.getD_eq_getElem?_getD, List.getElem?_eq_getElem h, Option.getD_some]
  exact List.drop_eq_getElem_cons h
end Go.Proofs.YtfglhnnbfmpfeaaDoor.U
