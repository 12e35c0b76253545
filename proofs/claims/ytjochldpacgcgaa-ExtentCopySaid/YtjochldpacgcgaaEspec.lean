/- A file's pieces, in plain words: what stands at a place; writing, cutting, reading; pieces are told by what stands at each place. -/
set_option linter.unusedVariables false
set_option linter.unusedSimpArgs false
namespace Go.Proofs.Ytjochldpacgcgaa.U

/-- A piece: where it stands, its bytes. -/
abbrev Ext := Nat × List Int
def en (x : Ext) : Nat := x.1 + x.2.length
/-- Pieces from a place on: they rise, have a byte each, do not meet or touch. -/
def Ok : Nat → List Ext → Prop
  | _, [] => True
  | k, x :: t => k ≤ x.1 ∧ 0 < x.2.length ∧ Ok (en x + 1) t
/-- What stands at a place. -/
def look : List Ext → Nat → Option Int
  | [], _ => none
  | x :: t, i => if x.1 ≤ i ∧ i < en x then x.2[i - x.1]? else look t i

theorem Ok.anti {k k' : Nat} {xs : List Ext} (h : Ok k xs) (hk : k' ≤ k) : Ok k' xs := by
  cases xs with
  | nil => trivial
  | cons x t => exact ⟨Nat.le_trans hk h.1, h.2⟩
theorem look_low : ∀ (xs : List Ext) (k i : Nat), Ok k xs → i < k → look xs i = none := by
  intro xs
  induction xs with
  | nil => intro k i _ _; rfl
  | cons x t ih =>
    intro k i h hi
    rw [look, if_neg (by have := h.1; omega)]
    exact ih _ i h.2.2 (by have := h.1; unfold en; omega)
theorem look_in {x : Ext} {t : List Ext} {i : Nat} (h1 : x.1 ≤ i) (h2 : i < en x) : look (x :: t) i = x.2[i - x.1]? := by rw [look, if_pos ⟨h1, h2⟩]
theorem look_out {x : Ext} {t : List Ext} {i : Nat} (h : ¬ (x.1 ≤ i ∧ i < en x)) : look (x :: t) i = look t i := by rw [look, if_neg h]
theorem look_some {x : Ext} {i : Nat} (h1 : x.1 ≤ i) (h2 : i < en x) : ∃ b, x.2[i - x.1]? = some b := ⟨_, List.getElem?_eq_getElem (by unfold en at h2; omega)⟩
theorem Ok.mem : ∀ {xs : List Ext} {k : Nat}, Ok k xs → ∀ x ∈ xs, k ≤ x.1 ∧ 0 < x.2.length := by
  intro xs
  induction xs with
  | nil => intro k _ x hx; cases hx
  | cons y t ih =>
    intro k h x hx
    rcases List.mem_cons.1 hx with rfl | hx
    · exact ⟨h.1, h.2.1⟩
    · have := ih h.2.2 x hx
      exact ⟨by have := h.1; unfold en at *; omega, this.2⟩

/-! ### Writing -/
/-- A piece and one that it meets or touches. -/
def lead (x o : Ext) : Ext := if o.1 < x.1 then (o.1, o.2.take (x.1 - o.1) ++ x.2) else x
def merge (x o : Ext) : Ext := if en (lead x o) < en o then ((lead x o).1, (lead x o).2 ++ o.2.drop (en (lead x o) - o.1)) else lead x o
def mg (lim : Nat) : Ext → List Ext → List Ext
  | x, [] => [x]
  | x, o :: t => if o.1 ≤ lim then mg lim (merge x o) t else x :: o :: t
def wr (p : Nat) (b : List Int) : List Ext → List Ext
  | [] => [(p, b)]
  | o :: t => if en o < p then o :: wr p b t else mg (p + b.length) (p, b) (o :: t)

theorem lead_en {x o : Ext} (h : x.1 ≤ en o) : en (lead x o) = en x := by
  unfold lead
  split
  · unfold en at *
    simp only [List.length_append, List.length_take]
    omega
  · rfl
theorem lead_at (x o : Ext) : (lead x o).1 = min x.1 o.1 := by
  unfold lead
  split
  · simp only
    omega
  · omega
theorem lead_look {x o : Ext} (h : x.1 ≤ en o) (i : Nat) (h1 : (lead x o).1 ≤ i) (h2 : i < en x) : (lead x o).2[i - (lead x o).1]? = if x.1 ≤ i then x.2[i - x.1]? else o.2[i - o.1]? := by
  unfold lead at *
  split at h1
  · rename_i ho
    rw [if_pos ho]
    simp only at h1 ⊢
    have hl : (o.2.take (x.1 - o.1)).length = x.1 - o.1 := by
      rw [List.length_take]
      unfold en at h
      omega
    by_cases hx : x.1 ≤ i
    · rw [if_pos hx, List.getElem?_append_right (by omega), hl]
      congr 1
      omega
    · rw [if_neg hx, List.getElem?_append_left (by omega), List.getElem?_take, if_pos (by omega)]
  · rename_i ho
    rw [if_neg ho, if_pos h1]
theorem merge_en {x o : Ext} (h : x.1 ≤ en o) (h2 : o.1 ≤ en x) : en (merge x o) = max (en x) (en o) := by
  have hl := lead_en h
  unfold merge
  split
  · rename_i hc
    have : en ((lead x o).1, (lead x o).2 ++ o.2.drop (en (lead x o) - o.1)) = en (lead x o) + (o.2.length - (en (lead x o) - o.1)) := by
      unfold en
      simp only [List.length_append, List.length_drop]
      omega
    rw [this, hl]
    rw [hl] at hc
    unfold en at *
    omega
  · rename_i hc
    rw [hl] at hc ⊢
    omega
theorem merge_at (x o : Ext) : (merge x o).1 = min x.1 o.1 := by
  unfold merge
  split
  · exact lead_at x o
  · exact lead_at x o
theorem merge_look {x o : Ext} (h : x.1 ≤ en o) (h2 : o.1 ≤ en x) (i : Nat) (h3 : (merge x o).1 ≤ i) (h4 : i < en (merge x o)) :
    (merge x o).2[i - (merge x o).1]? = if x.1 ≤ i ∧ i < en x then x.2[i - x.1]? else o.2[i - o.1]? := by
  have hl := lead_en h
  have hm := lead_at x o
  rw [merge_at] at h3
  rw [merge_en h h2] at h4
  have hll : (lead x o).2.length = en x - (lead x o).1 := by
    have := hl
    unfold en at this ⊢
    omega
  have hle : (lead x o).1 ≤ en x := by
    have : x.1 ≤ en x := by unfold en; omega
    omega
  by_cases hi : i < en x
  · have e : (merge x o).2[i - (merge x o).1]? = (lead x o).2[i - (lead x o).1]? := by
      unfold merge
      split
      · simp only
        rw [List.getElem?_append_left (by omega)]
      · rfl
    rw [e, lead_look h i (by omega) hi]
    by_cases hx : x.1 ≤ i
    · rw [if_pos hx, if_pos ⟨hx, hi⟩]
    · rw [if_neg hx, if_neg (fun hh => hx hh.1)]
  · rw [if_neg (fun hh => hi hh.2)]
    have hc : en (lead x o) < en o := by rw [hl]; omega
    unfold merge
    rw [if_pos hc]
    simp only
    rw [List.getElem?_append_right (by omega), List.getElem?_drop, hl]
    congr 1
    omega
theorem mg_spec (lim : Nat) : ∀ (t : List Ext) (x : Ext) (k : Nat), Ok k t → 0 < x.2.length → lim ≤ en x → x.1 ≤ lim → (en x ≤ lim ∨ en x + 1 ≤ k) → (∀ o ∈ t, x.1 ≤ en o) →
    Ok (min k x.1) (mg lim x t) ∧ ∀ i, look (mg lim x t) i = if x.1 ≤ i ∧ i < en x then x.2[i - x.1]? else look t i := by
  intro t
  induction t with
  | nil =>
    intro x k _ h1 _ _ _ _
    exact ⟨⟨Nat.min_le_right _ _, h1, trivial⟩, fun i => by rw [mg]; rfl⟩
  | cons o t ih =>
    intro x k hok h1 h2 h3 h4 h5
    rw [mg]
    by_cases ho : o.1 ≤ lim
    · rw [if_pos ho]
      have hx := h5 o List.mem_cons_self
      have hox : o.1 ≤ en x := by omega
      have hen := merge_en hx hox
      have hat := merge_at x o
      have hlen : 0 < (merge x o).2.length := by
        have e : en (merge x o) = (merge x o).1 + (merge x o).2.length := rfl
        have e2 : en x = x.1 + x.2.length := rfl
        omega
      obtain ⟨r1, r2⟩ := ih (merge x o) (en o + 1) hok.2.2 hlen (by omega) (by omega) (by have := hok.1; omega) (fun o' ho' => by
        have := (hok.2.2.mem o' ho').1
        have e : en o' = o'.1 + o'.2.length := rfl
        omega)
      refine ⟨r1.anti (by have := hok.1; have e : en o = o.1 + o.2.length := rfl; omega), fun i => ?_⟩
      rw [r2 i]
      by_cases hi : (merge x o).1 ≤ i ∧ i < en (merge x o)
      · rw [if_pos hi, merge_look hx hox i hi.1 hi.2]
        by_cases hxi : x.1 ≤ i ∧ i < en x
        · rw [if_pos hxi, if_pos hxi]
        · rw [if_neg hxi, if_neg hxi, look_in (by omega) (by omega)]
      · rw [if_neg hi, if_neg (by omega), look_out (by omega)]
    · rw [if_neg ho]
      refine ⟨⟨Nat.min_le_right _ _, h1, ⟨by have := hok.1; omega, hok.2⟩⟩, fun i => by rw [look]⟩
theorem wr_spec (p : Nat) (b : List Int) (hb : 0 < b.length) : ∀ (xs : List Ext) (k : Nat), Ok k xs → k ≤ p →
    Ok k (wr p b xs) ∧ ∀ i, look (wr p b xs) i = if p ≤ i ∧ i < p + b.length then b[i - p]? else look xs i := by
  intro xs
  induction xs with
  | nil =>
    intro k _ hk
    refine ⟨⟨hk, hb, trivial⟩, fun i => ?_⟩
    rw [wr, look]
    rfl
  | cons o t ih =>
    intro k hok hk
    rw [wr]
    by_cases ho : en o < p
    · rw [if_pos ho]
      obtain ⟨r1, r2⟩ := ih (en o + 1) hok.2.2 (by omega)
      refine ⟨⟨hok.1, hok.2.1, r1⟩, fun i => ?_⟩
      rw [look, look, r2 i]
      by_cases hi : o.1 ≤ i ∧ i < en o
      · rw [if_pos hi, if_neg (by omega), if_pos hi]
      · rw [if_neg hi, if_neg hi]
    · rw [if_neg ho]
      obtain ⟨r1, r2⟩ := mg_spec (p + b.length) (o :: t) (p, b) k hok hb (Nat.le_refl _) (Nat.le_add_right _ _) (.inl (Nat.le_refl _)) (fun o' ho' => by
        rcases List.mem_cons.1 ho' with rfl | ho'
        · show p ≤ en _
          omega
        · have := (hok.2.2.mem o' ho').1
          have e : en o' = o'.1 + o'.2.length := rfl
          show p ≤ en o'
          omega)
      refine ⟨r1.anti (by show k ≤ min k p; omega), fun i => ?_⟩
      rw [r2 i]
      rfl

/-! ### Cutting -/
def ct (size : Nat) : List Ext → List Ext
  | [] => []
  | x :: t => if size ≤ x.1 then [] else (x.1, x.2.take (size - x.1)) :: ct size t
theorem ct_spec (size : Nat) : ∀ (xs : List Ext) (k : Nat), Ok k xs → Ok k (ct size xs) ∧ (∀ i, look (ct size xs) i = if i < size then look xs i else none) ∧ ∀ x ∈ ct size xs, en x ≤ size := by
  intro xs
  induction xs with
  | nil => intro k _; exact ⟨trivial, fun i => by rw [ct, look]; split <;> rfl, fun x hx => by cases hx⟩
  | cons x t ih =>
    intro k hok
    rw [ct]
    by_cases hs : size ≤ x.1
    · rw [if_pos hs]
      refine ⟨trivial, fun i => ?_, fun x hx => by cases hx⟩
      by_cases hi : i < size
      · rw [if_pos hi, look_low (x :: t) x.1 i ⟨Nat.le_refl _, hok.2⟩ (by omega)]
        rfl
      · rw [if_neg hi]
        rfl
    · rw [if_neg hs]
      obtain ⟨r1, r2, r3⟩ := ih (en x + 1) hok.2.2
      have hl : (x.2.take (size - x.1)).length = min (size - x.1) x.2.length := List.length_take
      have he : en (x.1, x.2.take (size - x.1)) = min size (en x) := by
        unfold en
        simp only [hl]
        omega
      refine ⟨⟨hok.1, by simp only [hl]; have := hok.2.1; omega, r1.anti (by rw [he]; omega)⟩, fun i => ?_, ?_⟩
      · by_cases hi : i < size
        · rw [if_pos hi]
          by_cases hx : x.1 ≤ i ∧ i < en x
          · rw [look_in (x := (x.1, x.2.take (size - x.1))) hx.1 (by rw [he]; omega), look_in hx.1 hx.2]
            simp only
            rw [List.getElem?_take, if_pos (by omega)]
          · rw [look_out (x := (x.1, x.2.take (size - x.1))) (by rw [he]; simp only; omega), look_out hx, r2 i, if_pos hi]
        · rw [if_neg hi, look_out (x := (x.1, x.2.take (size - x.1))) (by rw [he]; omega), r2 i, if_neg hi]
      · intro y hy
        rcases List.mem_cons.1 hy with rfl | hy
        · rw [he]; omega
        · exact r3 y hy

/-! ### Told by what stands at each place -/
theorem look_head {x : Ext} {t : List Ext} {k : Nat} (h : Ok k (x :: t)) : (∀ i, i < x.1 → look (x :: t) i = none) ∧ (∀ i, x.1 ≤ i → i < en x → look (x :: t) i ≠ none) ∧ look (x :: t) (en x) = none ∧ ∀ i, look t i = if i ≤ en x then none else look (x :: t) i := by
  refine ⟨fun i hi => look_low _ x.1 i ⟨Nat.le_refl _, h.2⟩ hi, fun i h1 h2 => ?_, ?_, fun i => ?_⟩
  · rw [look_in h1 h2]
    obtain ⟨b, hb⟩ := look_some h1 h2
    rw [hb]
    simp
  · rw [look_out (by omega)]
    exact look_low t _ _ h.2.2 (by omega)
  · by_cases hi : i ≤ en x
    · rw [if_pos hi]
      exact look_low t _ _ h.2.2 (by omega)
    · rw [if_neg hi, look_out (by omega)]
theorem look_inj : ∀ (xs ys : List Ext) (k k' : Nat), Ok k xs → Ok k' ys → (∀ i, look xs i = look ys i) → xs = ys := by
  intro xs
  induction xs with
  | nil =>
    intro ys k k' _ h2 h
    cases ys with
    | nil => rfl
    | cons y t =>
      have := (look_head h2).2.1 y.1 (Nat.le_refl _) (by have := h2.2.1; unfold en; omega)
      exact absurd (h y.1).symm this
  | cons x t ih =>
    intro ys k k' h1 h2 h
    cases ys with
    | nil =>
      have := (look_head h1).2.1 x.1 (Nat.le_refl _) (by have := h1.2.1; unfold en; omega)
      exact absurd (h x.1) this
    | cons y u =>
      obtain ⟨a1, a2, a3, a4⟩ := look_head h1
      obtain ⟨b1, b2, b3, b4⟩ := look_head h2
      have px := h1.2.1
      have py := h2.2.1
      have ex : en x = x.1 + x.2.length := rfl
      have ey : en y = y.1 + y.2.length := rfl
      have hat : x.1 = y.1 := by
        rcases Nat.lt_trichotomy x.1 y.1 with hl | he | hl
        · exact absurd ((h x.1).trans (b1 x.1 hl)) (a2 x.1 (Nat.le_refl _) (by omega))
        · exact he
        · exact absurd ((h y.1).symm.trans (a1 y.1 hl)) (b2 y.1 (Nat.le_refl _) (by omega))
      have hen : en x = en y := by
        rcases Nat.lt_trichotomy (en x) (en y) with hl | he | hl
        · exact absurd ((h (en x)).symm.trans a3) (b2 (en x) (by omega) hl)
        · exact he
        · exact absurd ((h (en y)).trans b3) (a2 (en y) (by omega) hl)
      have hby : x.2 = y.2 := by
        apply List.ext_getElem?
        intro j
        by_cases hj : j < x.2.length
        · have := h (x.1 + j)
          rw [look_in (by omega) (by omega), look_in (by omega) (by omega), hat, Nat.add_sub_cancel_left] at this
          exact this
        · rw [List.getElem?_eq_none (by omega), List.getElem?_eq_none (by omega)]
      have hxy : x = y := Prod.ext hat hby
      rw [hxy, ih u _ _ h1.2.2 h2.2.2 (fun i => by rw [a4 i, b4 i, h i, hen])]
/-- The end of the last piece. -/
theorem look_end : ∀ (xs : List Ext) (k m i : Nat), Ok k xs → (∀ x ∈ xs, en x ≤ m) → m ≤ i → look xs i = none := by
  intro xs
  induction xs with
  | nil => intro k m i _ _ _; rfl
  | cons x t ih =>
    intro k m i h hm hi
    have := hm x List.mem_cons_self
    rw [look_out (by omega)]
    exact ih _ m i h.2.2 (fun y hy => hm y (List.mem_cons_of_mem _ hy)) hi
theorem look_last : ∀ (xs : List Ext) (k : Nat), Ok k xs → ∀ x ∈ xs, look xs (en x - 1) ≠ none := by
  intro xs
  induction xs with
  | nil => intro k _ x hx; cases hx
  | cons y t ih =>
    intro k h x hx
    have py := h.2.1
    have ey : en y = y.1 + y.2.length := rfl
    rcases List.mem_cons.1 hx with rfl | hx
    · exact (look_head h).2.1 _ (by omega) (by omega)
    · have := h.2.2.mem x hx
      have ex : en x = x.1 + x.2.length := rfl
      rw [look_out (by omega)]
      exact ih _ h.2.2 x hx
theorem wr_end {p m : Nat} {b : List Int} (hb : 0 < b.length) {xs : List Ext} (h : Ok 0 xs) (hm : ∀ x ∈ xs, en x ≤ m) : ∀ x ∈ wr p b xs, en x ≤ max m (p + b.length) := by
  intro x hx
  obtain ⟨r1, r2⟩ := wr_spec p b hb xs 0 h (Nat.zero_le _)
  have hl := look_last _ 0 r1 x hx
  have px := (r1.mem x hx).2
  have ex : en x = x.1 + x.2.length := rfl
  rw [r2] at hl
  by_cases hi : p ≤ en x - 1 ∧ en x - 1 < p + b.length
  · omega
  · rw [if_neg hi] at hl
    have : en x - 1 < m := by
      rcases Nat.lt_or_ge (en x - 1) m with hlt | hge
      · exact hlt
      · exact absurd (look_end xs 0 m _ h hm hge) hl
    omega
/-! ### Reading -/
def bytesAt (xs : List Ext) (p n : Nat) : List Int := (List.range n).map fun j => (look xs (p + j)).getD 0
/-- What is copied into a row from a place on. -/
def cp (out : List Int) (o : Nat) (b : List Int) : List Int := out.take o ++ b.take (out.length - o) ++ out.drop (o + b.length)
theorem cp_length (out : List Int) (o : Nat) (b : List Int) (h : o ≤ out.length) : (cp out o b).length = out.length := by
  unfold cp
  simp only [List.length_append, List.length_take, List.length_drop]
  omega
theorem cp_get (out : List Int) (o : Nat) (b : List Int) (h : o ≤ out.length) (j : Nat) (hj : j < out.length) : (cp out o b)[j]? = if o ≤ j ∧ j < o + b.length then b[j - o]? else out[j]? := by
  unfold cp
  have l1 : (out.take o).length = o := by rw [List.length_take]; omega
  have l2 : (b.take (out.length - o)).length = min (out.length - o) b.length := List.length_take
  by_cases h1 : j < o
  · rw [if_neg (by omega), List.append_assoc, List.getElem?_append_left (by omega), List.getElem?_take, if_pos h1]
  · by_cases h2 : j < o + b.length
    · rw [if_pos ⟨by omega, h2⟩, List.append_assoc, List.getElem?_append_right (by omega), l1, List.getElem?_append_left (by omega), List.getElem?_take, if_pos (by omega)]
    · rw [if_neg (by omega), List.getElem?_append_right (by rw [List.length_append]; omega), List.getElem?_drop, List.length_append, l1, l2]
      congr 1
      omega
/-- A piece that is laid into what is read from a place on. -/
def layIn (p : Nat) (out : List Int) (x : Ext) : List Int := if p ≤ x.1 then cp out (x.1 - p) x.2 else cp out 0 (x.2.drop (min (p - x.1) x.2.length))
def rdL (p : Nat) : List Int → List Ext → List Int
  | out, [] => out
  | out, x :: t => if p + out.length ≤ x.1 then out else rdL p (layIn p out x) t
def skip (p : Nat) : List Ext → List Ext
  | [] => []
  | x :: t => if en x < p then skip p t else x :: t
theorem layIn_length {p : Nat} {out : List Int} {x : Ext} (h : x.1 < p + out.length) : (layIn p out x).length = out.length := by
  unfold layIn
  split
  · exact cp_length _ _ _ (by omega)
  · exact cp_length _ _ _ (by omega)
theorem layIn_get {p : Nat} {out : List Int} {x : Ext} (h : x.1 < p + out.length) (j : Nat) (hj : j < out.length) : (layIn p out x)[j]? = if x.1 ≤ p + j ∧ p + j < en x then x.2[p + j - x.1]? else out[j]? := by
  have ex : en x = x.1 + x.2.length := rfl
  unfold layIn
  split
  · rw [cp_get _ _ _ (by omega) j hj]
    by_cases h1 : x.1 ≤ p + j ∧ p + j < en x
    · rw [if_pos h1, if_pos (by omega)]
      congr 1
      omega
    · rw [if_neg h1, if_neg (by omega)]
  · rename_i hp
    rw [cp_get _ _ _ (by omega) j hj, List.length_drop]
    by_cases h1 : x.1 ≤ p + j ∧ p + j < en x
    · rw [if_pos h1, if_pos (by omega), List.getElem?_drop]
      congr 1
      omega
    · rw [if_neg h1, if_neg (by omega)]
theorem rdL_spec (p : Nat) : ∀ (xs : List Ext) (k : Nat) (out : List Int), Ok k xs → (rdL p out xs).length = out.length ∧ ∀ j, j < out.length → (rdL p out xs)[j]? = match look xs (p + j) with | some b => some b | none => out[j]? := by
  intro xs
  induction xs with
  | nil => intro k out _; exact ⟨rfl, fun j _ => rfl⟩
  | cons x t ih =>
    intro k out h
    rw [rdL]
    by_cases hc : p + out.length ≤ x.1
    · rw [if_pos hc]
      refine ⟨rfl, fun j hj => ?_⟩
      rw [look_low (x :: t) x.1 _ ⟨Nat.le_refl _, h.2⟩ (by omega)]
    · rw [if_neg hc]
      have hl := layIn_length (x := x) (p := p) (out := out) (by omega)
      obtain ⟨r1, r2⟩ := ih (en x + 1) (layIn p out x) h.2.2
      refine ⟨by rw [r1, hl], fun j hj => ?_⟩
      rw [r2 j (by rw [hl]; exact hj), layIn_get (by omega) j hj]
      by_cases h1 : x.1 ≤ p + j ∧ p + j < en x
      · rw [if_pos h1, look_in h1.1 h1.2, look_low t _ _ h.2.2 (by omega)]
        obtain ⟨b, hb⟩ := look_some h1.1 h1.2
        rw [hb]
      · rw [if_neg h1, look_out h1]
theorem skip_spec (p : Nat) : ∀ (xs : List Ext) (k : Nat), Ok k xs → Ok k (skip p xs) ∧ ∀ i, p ≤ i → look (skip p xs) i = look xs i := by
  intro xs
  induction xs with
  | nil => intro k h; exact ⟨h, fun i _ => rfl⟩
  | cons x t ih =>
    intro k h
    rw [skip]
    by_cases hx : en x < p
    · rw [if_pos hx]
      obtain ⟨r1, r2⟩ := ih _ h.2.2
      refine ⟨r1.anti (by have := h.1; unfold en; omega), fun i hi => ?_⟩
      rw [r2 i hi, look_out (by omega)]
    · rw [if_neg hx]
      exact ⟨h, fun i _ => rfl⟩
theorem read_spec {xs : List Ext} (h : Ok 0 xs) (p n : Nat) : rdL p (List.replicate n 0) (skip p xs) = bytesAt xs p n := by
  obtain ⟨s1, s2⟩ := skip_spec p xs 0 h
  obtain ⟨r1, r2⟩ := rdL_spec p (skip p xs) 0 (List.replicate n 0) s1
  rw [List.length_replicate] at r1 r2
  apply List.ext_getElem?
  intro j
  unfold bytesAt
  by_cases hj : j < n
  · rw [r2 j hj, s2 (p + j) (by omega), List.getElem?_map, List.getElem?_range hj, List.getElem?_replicate, if_pos hj, Option.map_some]
    cases look xs (p + j) <;> rfl
  · rw [List.getElem?_eq_none (by omega), List.getElem?_eq_none (by simp; omega)]
end Go.Proofs.Ytjochldpacgcgaa.U
