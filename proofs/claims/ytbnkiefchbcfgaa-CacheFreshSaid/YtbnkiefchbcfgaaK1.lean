/- The texts Espec, Erel, Lreg, Coff, Cmem, Csearch, Crd, Eclone, Erows, Einsert, Ereplace0, Ereplace, Cfr, Cspec, Ctouch, Clay, one behind the other. -/
import Derived.OrdersHeld
import Derived.Deep.RegionHeld3
import Derived.Test.YtbnkiefchbcfgaaProg
import Derived.Test.YtbnkiefchbcfgaaWWords
import Derived.WalkKit
import Derived.Lib.Hide
import Derived.Deep.QuietTactic
import Derived.BigQuiet
import Derived.Laws.Runes
import Derived.Lib.OthersKept
import Derived.Laws.IdiomCopy
import Derived.Laws.CopyRow
import Derived.StillTailTactics
import Derived.Laws.AppendOwn
import Derived.Lib.SliceRun
import Derived.Deep.RegionWith
import Derived.Shelf.Spec.SlicesInsert
import Derived.Lib.AppendZerosOnto
import Derived.Lib.Overlaps
import Derived.Deep.AppendLies
import Derived.Deep.DeepCutAuto
import Derived.Deep.LoopGhost
import Derived.Outline
import Derived.Deep.Light
import Derived.Deep.DrawnRows
/- A file's pieces, in plain words: what stands at a place; writing, cutting, reading; pieces are told by what stands at each place. -/
set_option linter.unusedVariables false
set_option linter.unusedSimpArgs false
namespace Go.Proofs.Ytbnkiefchbcfgaa.U

/-- A piece: where it stands, its bytes. -/
abbrev Ext := Nat × List Int
def en (x : Ext) : Nat := x.1 + x.2.length
/-- Pieces from a place on: they rise, have a byte each, do not meet or touch. -/
def Ok : Nat → List Ext → Prop
  | _, [] => True
  | k, x :: t => k ≤ x.1 ∧ 0 < x.2.length ∧ Ok (en x + 1) t
/-- What stands at a place. -/
def look : List Ext → Nat → Option Int
  | [], _ => none
  | x :: t, i => if x.1 ≤ i ∧ i < en x then x.2[i - x.1]? else look t i

theorem Ok.anti {k k' : Nat} {xs : List Ext} (h : Ok k xs) (hk : k' ≤ k) : Ok k' xs := by
  cases xs with
  | nil => trivial
  | cons x t => exact ⟨Nat.le_trans hk h.1, h.2⟩
theorem look_low : ∀ (xs : List Ext) (k i : Nat), Ok k xs → i < k → look xs i = none := by
  intro xs
  induction xs with
  | nil => intro k i _ _; rfl
  | cons x t ih =>
    intro k i h hi
    rw [look, if_neg (by have := h.1; omega)]
    exact ih _ i h.2.2 (by have := h.1; unfold en; omega)
theorem look_in {x : Ext} {t : List Ext} {i : Nat} (h1 : x.1 ≤ i) (h2 : i < en x) : look (x :: t) i = x.2[i - x.1]? := by rw [look, if_pos ⟨h1, h2⟩]
theorem look_out {x : Ext} {t : List Ext} {i : Nat} (h : ¬ (x.1 ≤ i ∧ i < en x)) : look (x :: t) i = look t i := by rw [look, if_neg h]
theorem look_some {x : Ext} {i : Nat} (h1 : x.1 ≤ i) (h2 : i < en x) : ∃ b, x.2[i - x.1]? = some b := ⟨_, List.getElem?_eq_getElem (by unfold en at h2; omega)⟩
theorem Ok.mem : ∀ {xs : List Ext} {k : Nat}, Ok k xs → ∀ x ∈ xs, k ≤ x.1 ∧ 0 < x.2.length := by
  intro xs
  induction xs with
  | nil => intro k _ x hx; cases hx
  | cons y t ih =>
    intro k h x hx
    rcases List.mem_cons.1 hx with rfl | hx
    · exact ⟨h.1, h.2.1⟩
    · have := ih h.2.2 x hx
      exact ⟨by have := h.1; unfold en at *; omega, this.2⟩

/-! ### Writing -/
/-- A piece and one that it meets or touches. -/
def lead (x o : Ext) : Ext := if o.1 < x.1 then (o.1, o.2.take (x.1 - o.1) ++ x.2) else x
def merge (x o : Ext) : Ext := if en (lead x o) < en o then ((lead x o).1, (lead x o).2 ++ o.2.drop (en (lead x o) - o.1)) else lead x o
def mg (lim : Nat) : Ext → List Ext → List Ext
  | x, [] => [x]
  | x, o :: t => if o.1 ≤ lim then mg lim (merge x o) t else x :: o :: t
def wr (p : Nat) (b : List Int) : List Ext → List Ext
  | [] => [(p, b)]
  | o :: t => if en o < p then o :: wr p b t else mg (p + b.length) (p, b) (o :: t)

theorem lead_en {x o : Ext} (h : x.1 ≤ en o) : en (lead x o) = en x := by
  unfold lead
  split
  · unfold en at *
    simp only [List.length_append, List.length_take]
    omega
  · rfl
theorem lead_at (x o : Ext) : (lead x o).1 = min x.1 o.1 := by
  unfold lead
  split
  · simp only
    omega
  · omega
theorem lead_look {x o : Ext} (h : x.1 ≤ en o) (i : Nat) (h1 : (lead x o).1 ≤ i) (h2 : i < en x) : (lead x o).2[i - (lead x o).1]? = if x.1 ≤ i then x.2[i - x.1]? else o.2[i - o.1]? := by
  unfold lead at *
  split at h1
  · rename_i ho
    rw [if_pos ho]
    simp only at h1 ⊢
    have hl : (o.2.take (x.1 - o.1)).length = x.1 - o.1 := by
      rw [List.length_take]
      unfold en at h
      omega
    by_cases hx : x.1 ≤ i
    · rw [if_pos hx, List.getElem?_append_right (by omega), hl]
      congr 1
      omega
    · rw [if_neg hx, List.getElem?_append_left (by omega), List.getElem?_take, if_pos (by omega)]
  · rename_i ho
    rw [if_neg ho, if_pos h1]
theorem merge_en {x o : Ext} (h : x.1 ≤ en o) (h2 : o.1 ≤ en x) : en (merge x o) = max (en x) (en o) := by
  have hl := lead_en h
  unfold merge
  split
  · rename_i hc
    have : en ((lead x o).1, (lead x o).2 ++ o.2.drop (en (lead x o) - o.1)) = en (lead x o) + (o.2.length - (en (lead x o) - o.1)) := by
      unfold en
      simp only [List.length_append, List.length_drop]
      omega
    rw [this, hl]
    rw [hl] at hc
    unfold en at *
    omega
  · rename_i hc
    rw [hl] at hc ⊢
    omega
theorem merge_at (x o : Ext) : (merge x o).1 = min x.1 o.1 := by
  unfold merge
  split
  · exact lead_at x o
  · exact lead_at x o
theorem merge_look {x o : Ext} (h : x.1 ≤ en o) (h2 : o.1 ≤ en x) (i : Nat) (h3 : (merge x o).1 ≤ i) (h4 : i < en (merge x o)) :
    (merge x o).2[i - (merge x o).1]? = if x.1 ≤ i ∧ i < en x then x.2[i - x.1]? else o.2[i - o.1]? := by
  have hl := lead_en h
  have hm := lead_at x o
  rw [merge_at] at h3
  rw [merge_en h h2] at h4
  have hll : (lead x o).2.length = en x - (lead x o).1 := by
    have := hl
    unfold en at this ⊢
    omega
  have hle : (lead x o).1 ≤ en x := by
    have : x.1 ≤ en x := by unfold en; omega
    omega
  by_cases hi : i < en x
  · have e : (merge x o).2[i - (merge x o).1]? = (lead x o).2[i - (lead x o).1]? := by
      unfold merge
      split
      · simp only
        rw [List.getElem?_append_left (by omega)]
      · rfl
    rw [e, lead_look h i (by omega) hi]
    by_cases hx : x.1 ≤ i
    · rw [if_pos hx, if_pos ⟨hx, hi⟩]
    · rw [if_neg hx, if_neg (fun hh => hx hh.1)]
  · rw [if_neg (fun hh => hi hh.2)]
    have hc : en (lead x o) < en o := by rw [hl]; omega
    unfold merge
    rw [if_pos hc]
    simp only
    rw [List.getElem?_append_right (by omega), List.getElem?_drop, hl]
    congr 1
    omega
theorem mg_spec (lim : Nat) : ∀ (t : List Ext) (x : Ext) (k : Nat), Ok k t → 0 < x.2.length → lim ≤ en x → x.1 ≤ lim → (en x ≤ lim ∨ en x + 1 ≤ k) → (∀ o ∈ t, x.1 ≤ en o) →
    Ok (min k x.1) (mg lim x t) ∧ ∀ i, look (mg lim x t) i = if x.1 ≤ i ∧ i < en x then x.2[i - x.1]? else look t i := by
  intro t
  induction t with
  | nil =>
    intro x k _ h1 _ _ _ _
    exact ⟨⟨Nat.min_le_right _ _, h1, trivial⟩, fun i => by rw [mg]; rfl⟩
  | cons o t ih =>
    intro x k hok h1 h2 h3 h4 h5
    rw [mg]
    by_cases ho : o.1 ≤ lim
    · rw [if_pos ho]
      have hx := h5 o List.mem_cons_self
      have hox : o.1 ≤ en x := by omega
      have hen := merge_en hx hox
      have hat := merge_at x o
      have hlen : 0 < (merge x o).2.length := by
        have e : en (merge x o) = (merge x o).1 + (merge x o).2.length := rfl
        have e2 : en x = x.1 + x.2.length := rfl
        omega
      obtain ⟨r1, r2⟩ := ih (merge x o) (en o + 1) hok.2.2 hlen (by omega) (by omega) (by have := hok.1; omega) (fun o' ho' => by
        have := (hok.2.2.mem o' ho').1
        have e : en o' = o'.1 + o'.2.length := rfl
        omega)
      refine ⟨r1.anti (by have := hok.1; have e : en o = o.1 + o.2.length := rfl; omega), fun i => ?_⟩
      rw [r2 i]
      by_cases hi : (merge x o).1 ≤ i ∧ i < en (merge x o)
      · rw [if_pos hi, merge_look hx hox i hi.1 hi.2]
        by_cases hxi : x.1 ≤ i ∧ i < en x
        · rw [if_pos hxi, if_pos hxi]
        · rw [if_neg hxi, if_neg hxi, look_in (by omega) (by omega)]
      · rw [if_neg hi, if_neg (by omega), look_out (by omega)]
    · rw [if_neg ho]
      refine ⟨⟨Nat.min_le_right _ _, h1, ⟨by have := hok.1; omega, hok.2⟩⟩, fun i => by rw [look]⟩
theorem wr_spec (p : Nat) (b : List Int) (hb : 0 < b.length) : ∀ (xs : List Ext) (k : Nat), Ok k xs → k ≤ p →
    Ok k (wr p b xs) ∧ ∀ i, look (wr p b xs) i = if p ≤ i ∧ i < p + b.length then b[i - p]? else look xs i := by
  intro xs
  induction xs with
  | nil =>
    intro k _ hk
    refine ⟨⟨hk, hb, trivial⟩, fun i => ?_⟩
    rw [wr, look]
    rfl
  | cons o t ih =>
    intro k hok hk
    rw [wr]
    by_cases ho : en o < p
    · rw [if_pos ho]
      obtain ⟨r1, r2⟩ := ih (en o + 1) hok.2.2 (by omega)
      refine ⟨⟨hok.1, hok.2.1, r1⟩, fun i => ?_⟩
      rw [look, look, r2 i]
      by_cases hi : o.1 ≤ i ∧ i < en o
      · rw [if_pos hi, if_neg (by omega), if_pos hi]
      · rw [if_neg hi, if_neg hi]
    · rw [if_neg ho]
      obtain ⟨r1, r2⟩ := mg_spec (p + b.length) (o :: t) (p, b) k hok hb (Nat.le_refl _) (Nat.le_add_right _ _) (.inl (Nat.le_refl _)) (fun o' ho' => by
        rcases List.mem_cons.1 ho' with rfl | ho'
        · show p ≤ en _
          omega
        · have := (hok.2.2.mem o' ho').1
          have e : en o' = o'.1 + o'.2.length := rfl
          show p ≤ en o'
          omega)
      refine ⟨r1.anti (by show k ≤ min k p; omega), fun i => ?_⟩
      rw [r2 i]
      rfl

/-! ### Cutting -/
def ct (size : Nat) : List Ext → List Ext
  | [] => []
  | x :: t => if size ≤ x.1 then [] else (x.1, x.2.take (size - x.1)) :: ct size t
theorem ct_spec (size : Nat) : ∀ (xs : List Ext) (k : Nat), Ok k xs → Ok k (ct size xs) ∧ (∀ i, look (ct size xs) i = if i < size then look xs i else none) ∧ ∀ x ∈ ct size xs, en x ≤ size := by
  intro xs
  induction xs with
  | nil => intro k _; exact ⟨trivial, fun i => by rw [ct, look]; split <;> rfl, fun x hx => by cases hx⟩
  | cons x t ih =>
    intro k hok
    rw [ct]
    by_cases hs : size ≤ x.1
    · rw [if_pos hs]
      refine ⟨trivial, fun i => ?_, fun x hx => by cases hx⟩
      by_cases hi : i < size
      · rw [if_pos hi, look_low (x :: t) x.1 i ⟨Nat.le_refl _, hok.2⟩ (by omega)]
        rfl
      · rw [if_neg hi]
        rfl
    · rw [if_neg hs]
      obtain ⟨r1, r2, r3⟩ := ih (en x + 1) hok.2.2
      have hl : (x.2.take (size - x.1)).length = min (size - x.1) x.2.length := List.length_take
      have he : en (x.1, x.2.take (size - x.1)) = min size (en x) := by
        unfold en
        simp only [hl]
        omega
      refine ⟨⟨hok.1, by simp only [hl]; have := hok.2.1; omega, r1.anti (by rw [he]; omega)⟩, fun i => ?_, ?_⟩
      · by_cases hi : i < size
        · rw [if_pos hi]
          by_cases hx : x.1 ≤ i ∧ i < en x
          · rw [look_in (x := (x.1, x.2.take (size - x.1))) hx.1 (by rw [he]; omega), look_in hx.1 hx.2]
            simp only
            rw [List.getElem?_take, if_pos (by omega)]
          · rw [look_out (x := (x.1, x.2.take (size - x.1))) (by rw [he]; simp only; omega), look_out hx, r2 i, if_pos hi]
        · rw [if_neg hi, look_out (x := (x.1, x.2.take (size - x.1))) (by rw [he]; omega), r2 i, if_neg hi]
      · intro y hy
        rcases List.mem_cons.1 hy with rfl | hy
        · rw [he]; omega
        · exact r3 y hy

/-! ### Told by what stands at each place -/
theorem look_head {x : Ext} {t : List Ext} {k : Nat} (h : Ok k (x :: t)) : (∀ i, i < x.1 → look (x :: t) i = none) ∧ (∀ i, x.1 ≤ i → i < en x → look (x :: t) i ≠ none) ∧ look (x :: t) (en x) = none ∧ ∀ i, look t i = if i ≤ en x then none else look (x :: t) i := by
  refine ⟨fun i hi => look_low _ x.1 i ⟨Nat.le_refl _, h.2⟩ hi, fun i h1 h2 => ?_, ?_, fun i => ?_⟩
  · rw [look_in h1 h2]
    obtain ⟨b, hb⟩ := look_some h1 h2
    rw [hb]
    simp
  · rw [look_out (by omega)]
    exact look_low t _ _ h.2.2 (by omega)
  · by_cases hi : i ≤ en x
    · rw [if_pos hi]
      exact look_low t _ _ h.2.2 (by omega)
    · rw [if_neg hi, look_out (by omega)]
theorem look_inj : ∀ (xs ys : List Ext) (k k' : Nat), Ok k xs → Ok k' ys → (∀ i, look xs i = look ys i) → xs = ys := by
  intro xs
  induction xs with
  | nil =>
    intro ys k k' _ h2 h
    cases ys with
    | nil => rfl
    | cons y t =>
      have := (look_head h2).2.1 y.1 (Nat.le_refl _) (by have := h2.2.1; unfold en; omega)
      exact absurd (h y.1).symm this
  | cons x t ih =>
    intro ys k k' h1 h2 h
    cases ys with
    | nil =>
      have := (look_head h1).2.1 x.1 (Nat.le_refl _) (by have := h1.2.1; unfold en; omega)
      exact absurd (h x.1) this
    | cons y u =>
      obtain ⟨a1, a2, a3, a4⟩ := look_head h1
      obtain ⟨b1, b2, b3, b4⟩ := look_head h2
      have px := h1.2.1
      have py := h2.2.1
      have ex : en x = x.1 + x.2.length := rfl
      have ey : en y = y.1 + y.2.length := rfl
      have hat : x.1 = y.1 := by
        rcases Nat.lt_trichotomy x.1 y.1 with hl | he | hl
        · exact absurd ((h x.1).trans (b1 x.1 hl)) (a2 x.1 (Nat.le_refl _) (by omega))
        · exact he
        · exact absurd ((h y.1).symm.trans (a1 y.1 hl)) (b2 y.1 (Nat.le_refl _) (by omega))
      have hen : en x = en y := by
        rcases Nat.lt_trichotomy (en x) (en y) with hl | he | hl
        · exact absurd ((h (en x)).symm.trans a3) (b2 (en x) (by omega) hl)
        · exact he
        · exact absurd ((h (en y)).trans b3) (a2 (en y) (by omega) hl)
      have hby : x.2 = y.2 := by
        apply List.ext_getElem?
        intro j
        by_cases hj : j < x.2.length
        · have := h (x.1 + j)
          rw [look_in (by omega) (by omega), look_in (by omega) (by omega), hat, Nat.add_sub_cancel_left] at this
          exact this
        · rw [List.getElem?_eq_none (by omega), List.getElem?_eq_none (by omega)]
      have hxy : x = y := Prod.ext hat hby
      rw [hxy, ih u _ _ h1.2.2 h2.2.2 (fun i => by rw [a4 i, b4 i, h i, hen])]
/-- The end of the last piece. -/
theorem look_end : ∀ (xs : List Ext) (k m i : Nat), Ok k xs → (∀ x ∈ xs, en x ≤ m) → m ≤ i → look xs i = none := by
  intro xs
  induction xs with
  | nil => intro k m i _ _ _; rfl
  | cons x t ih =>
    intro k m i h hm hi
    have := hm x List.mem_cons_self
    rw [look_out (by omega)]
    exact ih _ m i h.2.2 (fun y hy => hm y (List.mem_cons_of_mem _ hy)) hi
theorem look_last : ∀ (xs : List Ext) (k : Nat), Ok k xs → ∀ x ∈ xs, look xs (en x - 1) ≠ none := by
  intro xs
  induction xs with
  | nil => intro k _ x hx; cases hx
  | cons y t ih =>
    intro k h x hx
    have py := h.2.1
    have ey : en y = y.1 + y.2.length := rfl
    rcases List.mem_cons.1 hx with rfl | hx
    · exact (look_head h).2.1 _ (by omega) (by omega)
    · have := h.2.2.mem x hx
      have ex : en x = x.1 + x.2.length := rfl
      rw [look_out (by omega)]
      exact ih _ h.2.2 x hx
theorem wr_end {p m : Nat} {b : List Int} (hb : 0 < b.length) {xs : List Ext} (h : Ok 0 xs) (hm : ∀ x ∈ xs, en x ≤ m) : ∀ x ∈ wr p b xs, en x ≤ max m (p + b.length) := by
  intro x hx
  obtain ⟨r1, r2⟩ := wr_spec p b hb xs 0 h (Nat.zero_le _)
  have hl := look_last _ 0 r1 x hx
  have px := (r1.mem x hx).2
  have ex : en x = x.1 + x.2.length := rfl
  rw [r2] at hl
  by_cases hi : p ≤ en x - 1 ∧ en x - 1 < p + b.length
  · omega
  · rw [if_neg hi] at hl
    have : en x - 1 < m := by
      rcases Nat.lt_or_ge (en x - 1) m with hlt | hge
      · exact hlt
      · exact absurd (look_end xs 0 m _ h hm hge) hl
    omega
/-! ### Reading -/
def bytesAt (xs : List Ext) (p n : Nat) : List Int := (List.range n).map fun j => (look xs (p + j)).getD 0
/-- What is copied into a row from a place on. -/
def cp (out : List Int) (o : Nat) (b : List Int) : List Int := out.take o ++ b.take (out.length - o) ++ out.drop (o + b.length)
theorem cp_length (out : List Int) (o : Nat) (b : List Int) (h : o ≤ out.length) : (cp out o b).length = out.length := by
  unfold cp
  simp only [List.length_append, List.length_take, List.length_drop]
  omega
theorem cp_get (out : List Int) (o : Nat) (b : List Int) (h : o ≤ out.length) (j : Nat) (hj : j < out.length) : (cp out o b)[j]? = if o ≤ j ∧ j < o + b.length then b[j - o]? else out[j]? := by
  unfold cp
  have l1 : (out.take o).length = o := by rw [List.length_take]; omega
  have l2 : (b.take (out.length - o)).length = min (out.length - o) b.length := List.length_take
  by_cases h1 : j < o
  · rw [if_neg (by omega), List.append_assoc, List.getElem?_append_left (by omega), List.getElem?_take, if_pos h1]
  · by_cases h2 : j < o + b.length
    · rw [if_pos ⟨by omega, h2⟩, List.append_assoc, List.getElem?_append_right (by omega), l1, List.getElem?_append_left (by omega), List.getElem?_take, if_pos (by omega)]
    · rw [if_neg (by omega), List.getElem?_append_right (by rw [List.length_append]; omega), List.getElem?_drop, List.length_append, l1, l2]
      congr 1
      omega
/-- A piece that is laid into what is read from a place on. -/
def layIn (p : Nat) (out : List Int) (x : Ext) : List Int := if p ≤ x.1 then cp out (x.1 - p) x.2 else cp out 0 (x.2.drop (min (p - x.1) x.2.length))
def rdL (p : Nat) : List Int → List Ext → List Int
  | out, [] => out
  | out, x :: t => if p + out.length ≤ x.1 then out else rdL p (layIn p out x) t
def skip (p : Nat) : List Ext → List Ext
  | [] => []
  | x :: t => if en x < p then skip p t else x :: t
theorem layIn_length {p : Nat} {out : List Int} {x : Ext} (h : x.1 < p + out.length) : (layIn p out x).length = out.length := by
  unfold layIn
  split
  · exact cp_length _ _ _ (by omega)
  · exact cp_length _ _ _ (by omega)
theorem layIn_get {p : Nat} {out : List Int} {x : Ext} (h : x.1 < p + out.length) (j : Nat) (hj : j < out.length) : (layIn p out x)[j]? = if x.1 ≤ p + j ∧ p + j < en x then x.2[p + j - x.1]? else out[j]? := by
  have ex : en x = x.1 + x.2.length := rfl
  unfold layIn
  split
  · rw [cp_get _ _ _ (by omega) j hj]
    by_cases h1 : x.1 ≤ p + j ∧ p + j < en x
    · rw [if_pos h1, if_pos (by omega)]
      congr 1
      omega
    · rw [if_neg h1, if_neg (by omega)]
  · rename_i hp
    rw [cp_get _ _ _ (by omega) j hj, List.length_drop]
    by_cases h1 : x.1 ≤ p + j ∧ p + j < en x
    · rw [if_pos h1, if_pos (by omega), List.getElem?_drop]
      congr 1
      omega
    · rw [if_neg h1, if_neg (by omega)]
theorem rdL_spec (p : Nat) : ∀ (xs : List Ext) (k : Nat) (out : List Int), Ok k xs → (rdL p out xs).length = out.length ∧ ∀ j, j < out.length → (rdL p out xs)[j]? = match look xs (p + j) with | some b => some b | none => out[j]? := by
  intro xs
  induction xs with
  | nil => intro k out _; exact ⟨rfl, fun j _ => rfl⟩
  | cons x t ih =>
    intro k out h
    rw [rdL]
    by_cases hc : p + out.length ≤ x.1
    · rw [if_pos hc]
      refine ⟨rfl, fun j hj => ?_⟩
      rw [look_low (x :: t) x.1 _ ⟨Nat.le_refl _, h.2⟩ (by omega)]
    · rw [if_neg hc]
      have hl := layIn_length (x := x) (p := p) (out := out) (by omega)
      obtain ⟨r1, r2⟩ := ih (en x + 1) (layIn p out x) h.2.2
      refine ⟨by rw [r1, hl], fun j hj => ?_⟩
      rw [r2 j (by rw [hl]; exact hj), layIn_get (by omega) j hj]
      by_cases h1 : x.1 ≤ p + j ∧ p + j < en x
      · rw [if_pos h1, look_in h1.1 h1.2, look_low t _ _ h.2.2 (by omega)]
        obtain ⟨b, hb⟩ := look_some h1.1 h1.2
        rw [hb]
      · rw [if_neg h1, look_out h1]
theorem skip_spec (p : Nat) : ∀ (xs : List Ext) (k : Nat), Ok k xs → Ok k (skip p xs) ∧ ∀ i, p ≤ i → look (skip p xs) i = look xs i := by
  intro xs
  induction xs with
  | nil => intro k h; exact ⟨h, fun i _ => rfl⟩
  | cons x t ih =>
    intro k h
    rw [skip]
    by_cases hx : en x < p
    · rw [if_pos hx]
      obtain ⟨r1, r2⟩ := ih _ h.2.2
      refine ⟨r1.anti (by have := h.1; unfold en; omega), fun i hi => ?_⟩
      rw [r2 i hi, look_out (by omega)]
    · rw [if_neg hx]
      exact ⟨h, fun i _ => rfl⟩
theorem read_spec {xs : List Ext} (h : Ok 0 xs) (p n : Nat) : rdL p (List.replicate n 0) (skip p xs) = bytesAt xs p n := by
  obtain ⟨s1, s2⟩ := skip_spec p xs 0 h
  obtain ⟨r1, r2⟩ := rdL_spec p (skip p xs) 0 (List.replicate n 0) s1
  rw [List.length_replicate] at r1 r2
  apply List.ext_getElem?
  intro j
  unfold bytesAt
  by_cases hj : j < n
  · rw [r2 j hj, s2 (p + j) (by omega), List.getElem?_map, List.getElem?_range hj, List.getElem?_replicate, if_pos hj, Option.map_some]
    cases look xs (p + j) <;> rfl
  · rw [List.getElem?_eq_none (by omega), List.getElem?_eq_none (by simp; omega)]
end Go.Proofs.Ytbnkiefchbcfgaa.U
/- The document's file (bytes, and which of them were written) beside the pieces: what each act does to both. -/
set_option linter.unusedVariables false
set_option linter.unusedSimpArgs false
namespace Go.Proofs.Ytbnkiefchbcfgaa.U

theorem ct_high {size k : Nat} {t : List Ext} (h : Ok k t) (hs : size ≤ k) : ct size t = [] := by
  cases t with
  | nil => rfl
  | cons x t => rw [ct, if_pos (Nat.le_trans hs h.1)]
theorem ct_none (i : Nat) : ∀ (xs : List Ext) (k : Nat), Ok k xs → look xs i = none → ct (i + 1) xs = ct i xs := by
  intro xs
  induction xs with
  | nil => intro k _ _; rfl
  | cons x t ih =>
    intro k h hl
    rw [ct, ct]
    by_cases h1 : i < x.1
    · rw [if_pos (by omega), if_pos (by omega)]
    · by_cases h2 : i < en x
      · exact absurd hl ((look_head h).2.1 i (by omega) h2)
      · rw [look_out (by omega)] at hl
        have e : en x = x.1 + x.2.length := rfl
        have := h.2.1
        rw [if_neg (by omega), if_neg (by omega), List.take_of_length_le (by omega), List.take_of_length_le (by omega), ih _ h.2.2 hl]
theorem ct_new (i : Nat) (b : Int) : ∀ (xs : List Ext) (k : Nat), Ok k xs → look xs i = some b → (i = 0 ∨ look xs (i - 1) = none) → ct (i + 1) xs = ct i xs ++ [(i, [b])] := by
  intro xs
  induction xs with
  | nil => intro k _ h _; cases h
  | cons x t ih =>
    intro k h hl hp
    have e : en x = x.1 + x.2.length := rfl
    have h0 := h.2.1
    rw [ct, ct]
    by_cases h1 : i < x.1
    · rw [look_low (x :: t) x.1 i ⟨Nat.le_refl _, h.2⟩ h1] at hl
      cases hl
    · by_cases h2 : i < en x
      · have hi : i = x.1 := by
          rcases Nat.lt_or_ge x.1 i with h3 | h3
          · rcases hp with hp | hp
            · omega
            · exact absurd hp ((look_head h).2.1 (i - 1) (by omega) (by omega))
          · omega
        subst hi
        rw [look_in (by omega) (by omega), Nat.sub_self] at hl
        rw [if_neg (by omega), if_pos (by omega), ct_high h.2.2 (by omega), Nat.add_sub_cancel_left]
        show [(x.1, x.2.take 1)] = [(x.1, [b])]
        cases hx : x.2 with
        | nil => rw [hx] at h0; exact absurd h0 (by decide)
        | cons y l =>
          rw [hx] at hl
          injection hl with hl
          rw [hl]
          rfl
      · rw [look_out (by omega)] at hl
        have hi : en x + 1 ≤ i := by
          rcases Nat.lt_or_ge i (en x + 1) with h3 | h3
          · rw [look_low t _ i h.2.2 h3] at hl
            cases hl
          · exact h3
        rw [if_neg (by omega), if_neg (by omega), List.take_of_length_le (by omega), List.take_of_length_le (by omega), ih _ h.2.2 hl ?_]
        · rfl
        · rcases hp with hp | hp
          · omega
          · right
            rwa [look_out (by omega)] at hp
theorem ct_more (i : Nat) (b : Int) : ∀ (xs : List Ext) (k : Nat), Ok k xs → look xs (i + 1) = some b → look xs i ≠ none → ∃ l x, ct (i + 1) xs = l ++ [x] ∧ ct (i + 2) xs = l ++ [(x.1, x.2 ++ [b])] := by
  intro xs
  induction xs with
  | nil => intro k _ h _; cases h
  | cons x t ih =>
    intro k h hl hp
    have e : en x = x.1 + x.2.length := rfl
    have h0 := h.2.1
    by_cases h1 : i < x.1
    · exact absurd (look_low (x :: t) x.1 i ⟨Nat.le_refl _, h.2⟩ h1) hp
    · by_cases h2 : i + 1 < en x
      · rw [look_in (by omega) h2] at hl
        refine ⟨[], (x.1, x.2.take (i + 1 - x.1)), ?_, ?_⟩
        · rw [ct, if_neg (by omega), ct_high h.2.2 (by omega)]
          rfl
        · rw [ct, if_neg (by omega), ct_high h.2.2 (by omega), show i + 2 - x.1 = i + 1 - x.1 + 1 by omega, List.take_add_one, hl]
          rfl
      · rw [look_out (by omega)] at hl
        have hi : en x < i + 1 := by
          rcases Nat.lt_or_ge (i + 1) (en x + 1) with h3 | h3
          · rw [look_low t _ _ h.2.2 h3] at hl
            cases hl
          · omega
        rw [look_out (by omega)] at hp
        obtain ⟨l, y, r1, r2⟩ := ih _ h.2.2 hl hp
        refine ⟨x :: l, y, ?_, ?_⟩
        · rw [ct, if_neg (by omega), List.take_of_length_le (by omega), r1]
          rfl
        · rw [ct, if_neg (by omega), List.take_of_length_le (by omega), r2]
          rfl
theorem ct_all (m : Nat) : ∀ (xs : List Ext) (k : Nat), Ok k xs → (∀ x ∈ xs, en x ≤ m) → ct m xs = xs := by
  intro xs
  induction xs with
  | nil => intro k _ _; rfl
  | cons x t ih =>
    intro k h hm
    have e : en x = x.1 + x.2.length := rfl
    have h0 := h.2.1
    have := hm x List.mem_cons_self
    rw [ct, if_neg (by omega), List.take_of_length_le (by omega), ih _ h.2.2 (fun y hy => hm y (List.mem_cons_of_mem _ hy))]

/-- What the document's file is beside the pieces. -/
structure Rel (size : Nat) (xs : List Ext) (B : List Int) (Z : List Bool) : Prop where
  ok : Ok 0 xs
  top : ∀ x ∈ xs, en x ≤ size
  bl : B.length = size
  zl : Z.length = size
  at_ : ∀ (i : Nat) (z : Bool), Z[i]? = some z → look xs i = if z then B[i]? else none
  zero : ∀ i : Nat, Z[i]? = some false → B[i]? = some 0
theorem Rel.nil : Rel 0 [] [] [] := ⟨trivial, fun x hx => (by cases hx), rfl, rfl, fun i z h => (by cases h), fun i h => (by cases h)⟩
theorem Rel.read {size : Nat} {xs : List Ext} {B : List Int} {Z : List Bool} (h : Rel size xs B Z) (p m : Nat) (hm : p + m ≤ size) : bytesAt xs p m = (B.drop p).take m := by
  apply List.ext_getElem?
  intro j
  unfold bytesAt
  rw [List.getElem?_map, List.getElem?_take, List.getElem?_drop]
  by_cases hj : j < m
  · rw [if_pos hj, List.getElem?_range hj, Option.map_some]
    obtain ⟨z, hz⟩ : ∃ z, Z[p + j]? = some z := ⟨_, List.getElem?_eq_getElem (by rw [h.zl]; omega)⟩
    obtain ⟨b, hb⟩ : ∃ b, B[p + j]? = some b := ⟨_, List.getElem?_eq_getElem (by rw [h.bl]; omega)⟩
    have h1 := h.at_ _ _ hz
    cases z with
    | true => rw [h1, if_pos rfl, hb]; rfl
    | false =>
      have h2 := h.zero _ hz
      rw [h1, h2]
      rfl
  · rw [if_neg hj, List.getElem?_eq_none (by simp; omega)]
    rfl
/-- The document's Cut. -/
def rcut {α : Type} (d : α) (n : Nat) (l : List α) : List α := l.take n ++ List.replicate (n - l.length) d
theorem rcut_length {α : Type} (d : α) (n : Nat) (l : List α) : (rcut d n l).length = n := by
  unfold rcut
  rw [List.length_append, List.length_take, List.length_replicate]
  omega
theorem rcut_get {α : Type} (d : α) (n : Nat) (l : List α) (i : Nat) : (rcut d n l)[i]? = if i < n then (if i < l.length then l[i]? else some d) else none := by
  unfold rcut
  by_cases hi : i < n
  · rw [if_pos hi]
    by_cases hl : i < l.length
    · rw [if_pos hl, List.getElem?_append_left (by rw [List.length_take]; omega), List.getElem?_take, if_pos hi]
    · rw [if_neg hl, List.getElem?_append_right (by rw [List.length_take]; omega), List.getElem?_replicate, if_pos (by rw [List.length_take]; omega)]
  · rw [if_neg hi, List.getElem?_eq_none]
    rw [List.length_append, List.length_take, List.length_replicate]
    omega
theorem Rel.cut {size : Nat} {xs : List Ext} {B : List Int} {Z : List Bool} (h : Rel size xs B Z) (n : Nat) : Rel n (ct n xs) (rcut 0 n B) (rcut false n Z) := by
  obtain ⟨r1, r2, r3⟩ := ct_spec n xs 0 h.ok
  refine ⟨r1, r3, rcut_length _ _ _, rcut_length _ _ _, fun i z hz => ?_, fun i hz => ?_⟩
  · rw [rcut_get] at hz
    by_cases hi : i < n
    · rw [if_pos hi, h.zl] at hz
      rw [r2, if_pos hi, rcut_get, if_pos hi, h.bl]
      by_cases hs : i < size
      · rw [if_pos hs] at hz ⊢
        exact h.at_ i z hz
      · rw [if_neg hs] at hz
        injection hz with hz
        subst hz
        rw [look_end xs 0 size i h.ok h.top (by omega)]
        rfl
    · rw [if_neg hi] at hz
      cases hz
  · rw [rcut_get] at hz ⊢
    by_cases hi : i < n
    · rw [if_pos hi, h.zl] at hz
      rw [if_pos hi, h.bl]
      by_cases hs : i < size
      · rw [if_pos hs] at hz ⊢
        exact h.zero i hz
      · rw [if_neg hs]
    · rw [if_neg hi] at hz
      cases hz
/-- The document's Write: laid over. -/
def rput {α : Type} (p : Nat) (b l : List α) : List α := l.take p ++ b ++ l.drop (p + b.length)
theorem rput_length {α : Type} {p : Nat} {b l : List α} (h : p + b.length ≤ l.length) : (rput p b l).length = l.length := by
  unfold rput
  simp only [List.length_append, List.length_take, List.length_drop]
  omega
theorem rput_get {α : Type} {p : Nat} {b l : List α} (h : p + b.length ≤ l.length) (i : Nat) : (rput p b l)[i]? = if p ≤ i ∧ i < p + b.length then b[i - p]? else l[i]? := by
  unfold rput
  have hl : (l.take p).length = p := by rw [List.length_take]; omega
  by_cases h1 : i < p
  · rw [if_neg (by omega), List.append_assoc, List.getElem?_append_left (by omega), List.getElem?_take, if_pos h1]
  · by_cases h2 : i < p + b.length
    · rw [if_pos ⟨by omega, h2⟩, List.append_assoc, List.getElem?_append_right (by omega), hl, List.getElem?_append_left (by omega)]
    · rw [if_neg (by omega), List.getElem?_append_right (by rw [List.length_append]; omega), List.getElem?_drop, List.length_append, hl]
      congr 1
      omega
theorem Rel.size_of {size n : Nat} {xs : List Ext} {B : List Int} {Z : List Bool} (h : Rel size xs B Z) (hn : size = n) : Rel n xs B Z := hn ▸ h
/-- Growing alone. -/
theorem Rel.grow {size : Nat} {xs : List Ext} {B : List Int} {Z : List Bool} (h : Rel size xs B Z) (n : Nat) (hn : size ≤ n) : Rel n xs (rcut 0 n B) (rcut false n Z) := by
  have := h.cut n
  rwa [ct_all n xs 0 h.ok (fun x hx => Nat.le_trans (h.top x hx) hn)] at this
theorem Rel.lay {size : Nat} {xs : List Ext} {B : List Int} {Z : List Bool} (h : Rel size xs B Z) (p : Nat) (b : List Int) (hb : 0 < b.length) (hp : p + b.length ≤ size) : Rel size (wr p b xs) (rput p b B) (rput p (List.replicate b.length true) Z) := by
  obtain ⟨r1, r2⟩ := wr_spec p b hb xs 0 h.ok (Nat.zero_le _)
  have hzl : p + (List.replicate b.length true).length ≤ Z.length := by rw [List.length_replicate, h.zl]; exact hp
  have hbl : p + b.length ≤ B.length := by rw [h.bl]; exact hp
  refine ⟨r1, fun x hx => ?_, by rw [rput_length hbl, h.bl], by rw [rput_length hzl, h.zl], fun i z hz => ?_, fun i hz => ?_⟩
  · have := wr_end hb h.ok h.top x hx
    omega
  · rw [rput_get hzl, List.length_replicate] at hz
    rw [r2, rput_get hbl]
    by_cases hi : p ≤ i ∧ i < p + b.length
    · rw [if_pos hi, List.getElem?_replicate, if_pos (by omega)] at hz
      injection hz with hz
      subst hz
      rw [if_pos hi, if_pos hi, if_pos rfl]
    · rw [if_neg hi] at hz
      rw [if_neg hi, if_neg hi]
      exact h.at_ i z hz
  · rw [rput_get hzl, List.length_replicate] at hz
    rw [rput_get hbl]
    by_cases hi : p ≤ i ∧ i < p + b.length
    · rw [if_pos hi, List.getElem?_replicate, if_pos (by omega)] at hz
      cases hz
    · rw [if_neg hi] at hz ⊢
      exact h.zero i hz
def rgrow {α : Type} (d : α) (n : Nat) (l : List α) : List α := if l.length < n then rcut d n l else l
theorem Rel.write {size : Nat} {xs : List Ext} {B : List Int} {Z : List Bool} (h : Rel size xs B Z) (p : Nat) (b : List Int) (hb : 0 < b.length) :
    Rel (max size (p + b.length)) (wr p b xs) (rput p b (rgrow 0 (p + b.length) B)) (rput p (List.replicate b.length true) (rgrow false (p + b.length) Z)) := by
  unfold rgrow
  by_cases hs : size < p + b.length
  · rw [if_pos (by rw [h.bl]; exact hs), if_pos (by rw [h.zl]; exact hs), Nat.max_eq_right (by omega)]
    exact (h.grow _ (by omega)).lay p b hb (Nat.le_refl _)
  · rw [if_neg (by rw [h.bl]; exact hs), if_neg (by rw [h.zl]; exact hs), Nat.max_eq_left (by omega)]
    exact h.lay p b hb (by omega)
end Go.Proofs.Ytbnkiefchbcfgaa.U
/- Regions that draw their order: a load is taken first where a condition S holds as long as the region's last operation has not come up. -/
namespace Go.Proofs.Ytbnkiefchbcfgaa.U
open Go

section
variable {P : Program} {ops : Array Oper} {Q : Exit → Act → World → Prop} {md : Region.Mode} {S : World → Prop} {z : Nat}

/-- Whatever order is picked from here on; S holds behind each operation but number z. -/
def AnyL (P : Program) (md : Region.Mode) (ops : Array Oper) (Q : Exit → Act → World → Prop) (S : World → Prop) (z : Nat) : Nat → Array Bool → Act → World → Prop
  | 0, listed, a, w => Region.ready md ops listed = [] ∧ Q .normal a w
  | fuel + 1, listed, a, w =>
    (Region.ready md ops listed = [] → Q .normal a w) ∧
    ∀ i ∈ Region.ready md ops listed, wpOp P ops Q i (fun a' w' => (i = z ∨ S w') ∧ AnyL P md ops Q S z fuel (listed.setIfInBounds i true) a' w') a w
theorem AnyL.any : ∀ (fuel : Nat) (listed : Array Bool) (a : Act) (w : World), AnyL P md ops Q S z fuel listed a w → wpAny P md ops Q fuel listed a w
  | 0, _, _, _, h => h
  | fuel + 1, _, _, _, h => ⟨h.1, fun i hi => wpOp_mono (fun a' w' h' => AnyL.any fuel _ a' w' h'.2) (h.2 i hi)⟩
/-- Number z waits for number i. -/
def waitsB (md : Region.Mode) (ops : Array Oper) (z i : Nat) : Bool :=
  match ops[z]? with
  | some oz => oz.after.any fun e => Region.binds md e && e.on == i
  | none => true
theorem waits_spec {i : Nat} {oz : Oper} (h : waitsB md ops z i = true) (hz : ops[z]? = some oz) : ∃ e ∈ oz.after, Region.binds md e = true ∧ e.on = i := by
  unfold waitsB at h
  rw [hz] at h
  obtain ⟨e, he, hb⟩ := Array.any_eq_true'.1 h
  simp only [Bool.and_eq_true, beq_iff_eq] at hb
  exact ⟨e, he, hb⟩
theorem AnyL.first {i : Nat} {oi : Oper} {v : Value} (hi : ops[i]? = some oi) (hsel : ∀ (j : Nat) (o : Oper) cs b, ops[j]? = some o → o.op ≠ .select cs b) (hz : waitsB md ops z i = true)
    (hQ : ∀ c a w, Q (.panic c) (a.put oi.dst v) w → Q (.panic c) a w) :
    ∀ (fuel : Nat) (listed : Array Bool) (a : Act) (w : World),
      (∀ j oj, ops[j]? = some oj → j ≠ i → listed.getD j true = false → (∀ e ∈ oj.after, Region.binds md e = true → e.on ≠ i) → oi.apart ops oj = true) →
      i ∈ Region.ready md ops listed → YieldsIf P ops S oi v a → S w →
      AnyL P md ops Q S z fuel (listed.setIfInBounds i true) (a.put oi.dst v) w → AnyL P md ops Q S z (fuel + 1) listed a w := by
  intro fuel
  induction fuel with
  | zero =>
    intro listed a w _ hr hy hS H
    refine ⟨fun h => (by rw [h] at hr; cases hr), fun j hj => ?_⟩
    by_cases hji : j = i
    · subst hji; exact hy.wpOp hi hS ⟨.inr hS, H⟩
    · have := ready_mono hj hji
      rw [H.1] at this
      cases this
  | succ fuel ih =>
    intro listed a w hfree hr hy hS H
    refine ⟨fun h => (by rw [h] at hr; cases hr), fun j hj => ?_⟩
    by_cases hji : j = i
    · subst hji; exact hy.wpOp hi hS ⟨.inr hS, H⟩
    · have h1 := H.2 j (ready_mono hj hji)
      obtain ⟨hjun, oj, hoj, hall⟩ := mem_ready.1 hj
      have hnot : ∀ e ∈ oj.after, Region.binds md e = true → e.on ≠ i := fun e he hb heq => by
        have h1 := hall e he hb
        have h0 := (mem_ready.1 hr).1
        rw [heq] at h1
        rcases Nat.lt_or_ge i listed.size with h' | h'
        · simp [h'] at h0 h1; rw [h0] at h1; cases h1
        · simp [Array.getElem?_eq_none h'] at h1
      have hjz : j ≠ z := fun e => by
        subst e
        obtain ⟨e, he, hb, hei⟩ := waits_spec hz hoj
        exact hnot e he hb hei
      have h2 := wpOp_putIf hoj (hfree j oj hoj hji hjun hnot) (fun cs b => hsel i oi cs b hi) (fun cs b => hsel j oj cs b hoj) hQ hy h1
      have hfree' : ∀ k ok, ops[k]? = some ok → k ≠ i → (listed.setIfInBounds j true).getD k true = false →
          (∀ e ∈ ok.after, Region.binds md e = true → e.on ≠ i) → oi.apart ops ok = true := fun k ok hk hki hun hno => by
        refine hfree k ok hk hki ?_ hno
        by_cases hjk : j = k
        · subst hjk; exact hjun
        · rw [getD_set_ne true hjk] at hun; exact hun
      refine wpOp_mono (fun a' w' h3 => ⟨h3.2.1, ih (listed.setIfInBounds j true) a' w' hfree' (ready_mono hr (Ne.symm hji)) h3.1 (h3.2.1.resolve_left hjz) ?_⟩) h2
      rw [Array.setIfInBounds_comm _ _ hji]
      exact h3.2.2
theorem AnyL.take {i : Nat} {oi : Oper} {v : Value} {fuel : Nat} {listed : Array Bool} {a : Act} {w : World} (hi0 : ops.toList[i]? = some oi)
    (hs : Region.noSelect ops = true) (hf : Region.free md ops listed i = true) (hr : (Region.ready md ops listed).contains i = true) (hz : waitsB md ops z i = true)
    (hQ : ∀ c a w, Q (.panic c) (a.put oi.dst v) w → Q (.panic c) a w) (hS : S w) (hy : YieldsIf P ops S oi v a)
    (h : AnyL P md ops Q S z fuel (listed.setIfInBounds i true) (a.put oi.dst v) w) : AnyL P md ops Q S z (fuel + 1) listed a w :=
  have hi : ops[i]? = some oi := by rw [← Array.getElem?_toList]; exact hi0
  AnyL.first hi (Region.noSelect_spec hs) hz hQ fuel listed a w (Region.free_spec hi hf) (by simpa using hr) hy hS h
theorem AnyL.one {i : Nat} {o : Oper} {fuel : Nat} {listed : Array Bool} {a : Act} {w : World} (hr : Region.ready md ops listed = [i]) (ho0 : ops.toList[i]? = some o)
    (h : ∀ K' : Act → World → Prop, Shut (∀ a w, (i = z ∨ S w) → AnyL P md ops Q S z fuel (listed.setIfInBounds i true) a w → K' a w) → if Region.wanted o (yielded ops a.tmps) = true then Oper.wp P o a w K' Q else K' (a.put o.dst undef) w) :
    AnyL P md ops Q S z (fuel + 1) listed a w := by
  refine ⟨fun h0 => (by rw [hr] at h0; cases h0), fun j hj => ?_⟩
  rw [hr, List.mem_singleton] at hj
  subst hj
  have ho : ops[j]? = some o := by rw [← Array.getElem?_toList]; exact ho0
  exact wpOp_step ho (fun K' hK => h K' (fun a w hS hW => hK a w ⟨hS, hW⟩))
theorem AnyL.two {i j : Nat} {o o' : Oper} {fuel : Nat} {listed : Array Bool} {a : Act} {w : World} (hr : Region.ready md ops listed = [i, j]) (ho0 : ops.toList[i]? = some o) (ho1 : ops.toList[j]? = some o')
    (h : ∀ K' : Act → World → Prop, Shut (∀ a w, (i = z ∨ S w) → AnyL P md ops Q S z fuel (listed.setIfInBounds i true) a w → K' a w) → if Region.wanted o (yielded ops a.tmps) = true then Oper.wp P o a w K' Q else K' (a.put o.dst undef) w)
    (h' : ∀ K' : Act → World → Prop, Shut (∀ a w, (j = z ∨ S w) → AnyL P md ops Q S z fuel (listed.setIfInBounds j true) a w → K' a w) → if Region.wanted o' (yielded ops a.tmps) = true then Oper.wp P o' a w K' Q else K' (a.put o'.dst undef) w) :
    AnyL P md ops Q S z (fuel + 1) listed a w := by
  refine ⟨fun h0 => (by rw [hr] at h0; cases h0), fun l hl => ?_⟩
  rw [hr] at hl
  simp only [List.mem_cons, List.not_mem_nil, or_false] at hl
  rcases hl with rfl | rfl
  · have ho : ops[l]? = some o := by rw [← Array.getElem?_toList]; exact ho0
    exact wpOp_step ho (fun K' hK => h K' (fun a w hS hW => hK a w ⟨hS, hW⟩))
  · have ho : ops[l]? = some o' := by rw [← Array.getElem?_toList]; exact ho1
    exact wpOp_step ho (fun K' hK => h' K' (fun a w hS hW => hK a w ⟨hS, hW⟩))
theorem AnyL.done {listed : Array Bool} {a : Act} {w : World} (hr : Region.ready md ops listed = []) (h : Q .normal a w) : ∀ fuel, AnyL P md ops Q S z fuel listed a w
  | 0 => ⟨hr, h⟩
  | _ + 1 => ⟨fun _ => h, by rw [hr]; simp⟩
theorem AnyL.start {id : Nat} {a : Act} {w : World} (S : World → Prop) (z : Nat) (hm : P.follows .mixedOrders = true) (hS : S w.drew) (h : S w.drew → AnyL P .any ops Q S z ops.size (Array.replicate ops.size false) a w.drew) : (Code.region id ops true).wp P Q a w :=
  wp_region_any hm (AnyL.any _ _ _ _ (h hS))
end
end Go.Proofs.Ytbnkiefchbcfgaa.U
/- cache: of no cache, and of a zero one, all is refused. -/
set_option linter.unusedVariables false
set_option linter.unusedSimpArgs false
namespace Go.Proofs.Ytbnkiefchbcfgaa.U
open Go.RowKit Go.Proofs Go.Lib Go.Proofs.YtbnkiefchbcfgaaW.PrintWords

/-- No file, or a zero one. -/
def Off (w : World) (v : Value) : Prop := v = .pointer none ∨ ∃ D, v = .pointer (some ⟨D, 0, none⟩) ∧ w.cell? ⟨D, 0, none⟩ = some (.bool false)
theorem Off.below {w w' : World} {v : Value} (h : Off w v) (hD : ∀ D, v = .pointer (some ⟨D, 0, none⟩) → D < w.heap.size) (hb : Below w.heap.size w w') : Off w' v := by
  rcases h with rfl | ⟨D, rfl, hc⟩
  · exact .inl rfl
  · exact .inr ⟨D, rfl, (hb.cell (p := ⟨D, 0, none⟩) (hD D rfl)).trans hc⟩
set_option maxHeartbeats 1000000 in
theorem off_off (v : Value) (w : World) (h : Off w v) :
    Calls Try.prog 36 #[v] w fun e w' => e = .returned (.bool true) ∧ w' = w := by
  rcases h with rfl | ⟨D, rfl, hc⟩
  · go_enter Try.func36, Try.ntmps36
    go_wp2
    go_ret
    exact ⟨rfl, rfl⟩
  · go_enter Try.func36, Try.ntmps36
    go_wp2
    go_ret
    exact ⟨rfl, rfl⟩
set_option maxHeartbeats 1000000 in
theorem off_on (D : Nat) (w : World) (hc : w.cell? ⟨D, 0, none⟩ = some (.bool true)) :
    Calls Try.prog 36 #[.pointer (some ⟨D, 0, none⟩)] w fun e w' => e = .returned (.bool false) ∧ w' = w := by
  go_enter Try.func36, Try.ntmps36
  go_wp2
  go_ret
  exact ⟨rfl, rfl⟩
set_option maxHeartbeats 1000000 in
theorem Level_off (v : Value) (w : World) (h : Off w v) :
    Calls Try.prog 25 #[v] w fun e w' => e = .returned (.int .u8 0) ∧ w' = w := by
  have C := Lib.hid (off_off v w h)
  clear h
  go_enter Try.func25, Try.ntmps25
  go_wp2_with fail
  refine (C.out).mono ?_
  rintro e w1 ⟨rfl, rfl⟩
  go_wp2
  go_ret
  exact ⟨rfl, rfl⟩
set_option maxHeartbeats 1000000 in
theorem Size_off (v : Value) (w : World) (h : Off w v) :
    Calls Try.prog 27 #[v] w fun e w' => e = .returned (.int .i64 0) ∧ w' = w := by
  have C := Lib.hid (off_off v w h)
  clear h
  go_enter Try.func27, Try.ntmps27
  go_wp2_with fail
  refine (C.out).mono ?_
  rintro e w1 ⟨rfl, rfl⟩
  go_wp2
  go_ret
  exact ⟨rfl, rfl⟩
set_option maxHeartbeats 1000000 in
theorem Open_off (v : Value) (w : World) (h : Off w v) :
    Calls Try.prog 17 #[v] w fun e w' => e = .returned (.int .i64 0) ∧ w' = w := by
  have C := Lib.hid (off_off v w h)
  clear h
  go_enter Try.func17, Try.ntmps17
  go_wp2_with fail
  refine (C.out).mono ?_
  rintro e w1 ⟨rfl, rfl⟩
  go_wp2
  go_ret
  exact ⟨rfl, rfl⟩
set_option maxHeartbeats 1000000 in
theorem Pieces_off (v : Value) (w : World) (h : Off w v) :
    Calls Try.prog 23 #[v] w fun e w' => e = .returned (.slice none 0 0) ∧ w' = w := by
  have C := Lib.hid (off_off v w h)
  clear h
  go_enter Try.func23, Try.ntmps23
  go_wp2_with fail
  refine (C.out).mono ?_
  rintro e w1 ⟨rfl, rfl⟩
  go_wp2
  go_ret
  exact ⟨rfl, rfl⟩
set_option maxHeartbeats 1000000 in
theorem Down_off (v : Value) (l : Int) (w : World) (h : Off w v) :
    Calls Try.prog 26 #[v, .int .u8 l] w fun e w' => e = .returned (.int .i64 1) ∧ w' = w := by
  have C := Lib.hid (off_off v w h)
  clear h
  go_enter Try.func26, Try.ntmps26
  go_wp2_with fail
  refine (C.out).mono ?_
  rintro e w1 ⟨rfl, rfl⟩
  go_wp2
  go_ret
  exact ⟨rfl, rfl⟩
set_option maxHeartbeats 1000000 in
theorem Forget_off (v : Value) (n : Int) (w : World) (h : Off w v) :
    Calls Try.prog 35 #[v, .int .i64 n] w fun e w' => e = .returned (.int .i64 1) ∧ w' = w := by
  have C := Lib.hid (off_off v w h)
  clear h
  go_enter Try.func35, Try.ntmps35
  go_wp2_with fail
  refine (C.out).mono ?_
  rintro e w1 ⟨rfl, rfl⟩
  go_wp2
  go_ret
  exact ⟨rfl, rfl⟩
set_option maxHeartbeats 1000000 in
theorem Settle_off (v : Value) (w : World) (h : Off w v) :
    Calls Try.prog 19 #[v] w fun e w' => e = .returned (.int .i64 1) ∧ w' = w := by
  have C := Lib.hid (off_off v w h)
  clear h
  go_enter Try.func19, Try.ntmps19
  go_wp2_with fail
  refine (C.out).mono ?_
  rintro e w1 ⟨rfl, rfl⟩
  go_wp2
  go_ret
  exact ⟨rfl, rfl⟩
set_option maxHeartbeats 1000000 in
theorem Fill_off (v : Value) (p : Int) (b : Value) (w : World) (h : Off w v) :
    Calls Try.prog 12 #[v, .int .i64 p, b] w fun e w' => e = .returned (.int .i64 1) ∧ w' = w := by
  have C := Lib.hid (off_off v w h)
  clear h
  go_enter Try.func12, Try.ntmps12
  go_wp2_with fail
  refine (C.out).mono ?_
  rintro e w1 ⟨rfl, rfl⟩
  go_wp2
  go_ret
  exact ⟨rfl, rfl⟩
set_option maxHeartbeats 1000000 in
theorem Write_off (v : Value) (p : Int) (b : Value) (w : World) (h : Off w v) :
    Calls Try.prog 14 #[v, .int .i64 p, b] w fun e w' => e = .returned (.bool false) ∧ w' = w := by
  have C := Lib.hid (off_off v w h)
  clear h
  go_enter Try.func14, Try.ntmps14
  go_wp2_with fail
  refine (C.out).mono ?_
  rintro e w1 ⟨rfl, rfl⟩
  go_wp2
  go_ret
  exact ⟨rfl, rfl⟩
set_option maxHeartbeats 1000000 in
theorem First_off (v : Value) (w : World) (h : Off w v) :
    Calls Try.prog 18 #[v] w fun e w' => e = .returned (.tuple #[.int .i64 0, .slice none 0 0, .bool false]) ∧ w' = w := by
  have C := Lib.hid (off_off v w h)
  clear h
  go_enter Try.func18, Try.ntmps18
  go_wp2_with fail
  refine (C.out).mono ?_
  rintro e w1 ⟨rfl, rfl⟩
  go_wp2
  go_ret3
  exact ⟨rfl, rfl⟩
set_option maxHeartbeats 1000000 in
theorem Read_off (v : Value) (p n : Int) (w : World) (h : Off w v) (hD : ∀ D, v = .pointer (some ⟨D, 0, none⟩) → D < w.heap.size) :
    Calls Try.prog 15 #[v, .int .i64 p, .int .i64 n] w fun e w' => e = .returned (.tuple #[.slice none 0 0, .bool false]) ∧ Below w.heap.size w w' := by
  have h' := h
  rcases h' with rfl | ⟨D, rfl, hc⟩
  · have C := Lib.hid (fun W (hW : Below w.heap.size w W) => off_off (.pointer none) W (h.below hD hW))
    have h1 := (Below.refl w.heap.size w).alloc (Nat.le_refl _) (.cells #[.pointer none] 24)
    have hb := h1.alloc h1.size (.cells #[.int .i64 p] 3)
    have HB := Lib.hid hb
    clear h hb h1 hD
    go_enter Try.func15, Try.ntmps15
    go_wp2_with fail
    refine (C.out _ HB.out).mono ?_
    rintro e w1 ⟨rfl, rfl⟩
    go_wp2
    go_ret2
    exact ⟨rfl, HB.out⟩
  · clear hc
    have C := Lib.hid (fun W (hW : Below w.heap.size w W) => off_off (.pointer (some ⟨D, 0, none⟩)) W (h.below hD hW))
    have h1 := (Below.refl w.heap.size w).alloc (Nat.le_refl _) (.cells #[.pointer (some ⟨D, 0, none⟩)] 24)
    have hb := h1.alloc h1.size (.cells #[.int .i64 p] 3)
    have HB := Lib.hid hb
    clear h hb h1 hD
    go_enter Try.func15, Try.ntmps15
    go_wp2_with fail
    refine (C.out _ HB.out).mono ?_
    rintro e w1 ⟨rfl, rfl⟩
    go_wp2
    go_ret2
    exact ⟨rfl, HB.out⟩
set_option maxHeartbeats 1000000 in
theorem within_calls (C size : Nat) (p n : Int) (w : World) (hs : w.cell? ⟨C, 2, none⟩ = some (.int .i64 (size : Int))) (hs2 : size ≤ 65536) :
    Calls Try.prog 37 #[.pointer (some ⟨C, 0, none⟩), .int .i64 p, .int .i64 n] w fun e w' => e = .returned (.bool (decide (0 ≤ p ∧ p ≤ size ∧ n ≤ size - p))) ∧ w' = w := by
  by_cases h1 : 0 ≤ p
  · by_cases h2 : p ≤ (size : Int)
    · have hwr : IntKind.i64.wrap ((size : Int) - p) = (size : Int) - p := wrap_small _ (by omega) (by omega)
      have e : decide (0 ≤ p ∧ p ≤ (size : Int) ∧ n ≤ (size : Int) - p) = decide (n ≤ (size : Int) - p) := decide_eq_decide.2 (by omega)
      rw [e]
      clear e
      have d1 : decide (0 ≤ p) = true := by simp; omega
      have d2 : decide (p ≤ (size : Int)) = true := by simp; omega
      go_enter Try.func37, Try.ntmps37
      go_wp2
      go_ret
      exact ⟨rfl, rfl⟩
    · have e : decide (0 ≤ p ∧ p ≤ (size : Int) ∧ n ≤ (size : Int) - p) = false := by simp; omega
      rw [e]
      clear e
      have d1 : decide (0 ≤ p) = true := by simp; omega
      have d2 : decide (p ≤ (size : Int)) = false := by simp; omega
      go_enter Try.func37, Try.ntmps37
      go_wp2
      go_ret
      exact ⟨rfl, rfl⟩
  · have e : decide (0 ≤ p ∧ p ≤ (size : Int) ∧ n ≤ (size : Int) - p) = false := by simp; omega
    rw [e]
    clear e
    have d1 : decide (0 ≤ p) = false := by simp; omega
    go_enter Try.func37, Try.ntmps37
    go_wp2
    go_ret
    exact ⟨rfl, rfl⟩
end Go.Proofs.Ytbnkiefchbcfgaa.U
/- cache: how a cache lies in memory; where a place stands among its pieces. -/
set_option linter.unusedVariables false
set_option linter.unusedSimpArgs false
namespace Go.Proofs.Ytbnkiefchbcfgaa.U
open Go.RowKit Go.Proofs Go.Lib Go.Proofs.YtbnkiefchbcfgaaW.PrintWords

/-- A row of bytes that is read. -/
def BR (w : World) (A : Option Addr) (c : Nat) (bs : List Int) : Prop :=
  bs.length ≤ c ∧ (0 < bs.length → ∃ g o cs fz, A = some ⟨g, o, none⟩ ∧ w.heap[g]? = some (.cells cs 5 fz) ∧ ∀ j b, bs[j]? = some b → cs[o + j]? = some (.int .u8 b))
/-- The cells of pieces; their bytes lie in none of the blocks N. -/
def EC (w : World) (N : Nat → Prop) (cs : Array Value) (xs : List Ext) : Prop :=
  ∀ j x, xs[j]? = some x → ∃ A c, cs[j * 2]? = some (.int .i64 (x.1 : Int)) ∧ cs[j * 2 + 1]? = some (.slice A x.2.length c) ∧ BR w A c x.2 ∧ ∀ g o, A = some ⟨g, o, none⟩ → ¬ N g
/-- The row of what is known. -/
def KnownAt (w : World) (N : Nat → Prop) (lA : Option Addr) (c : Nat) (xs : List Ext) : Prop :=
  (lA = none ∧ xs = [] ∧ c = 0) ∨ ∃ L cs, lA = some ⟨L, 0, none⟩ ∧ w.heap[L]? = some (.cells cs 32 (0, 0)) ∧ c * 2 ≤ cs.size ∧ xs.length ≤ c ∧ EC w N cs xs
/-- The row of what is not settled: k of its pieces are settled. There may be room behind it. -/
def OpenAt (w : World) (N : Nat → Prop) (oA : Option Addr) (oc : Nat) (os : List Ext) : Prop :=
  (oA = none ∧ os = [] ∧ oc = 0) ∨ ∃ O k cs, oA = some ⟨O, k * 2, none⟩ ∧ w.heap[O]? = some (.cells cs 32 (0, 0)) ∧ (k + oc) * 2 ≤ cs.size ∧ os.length ≤ oc ∧ EC w N (cs.toList.drop (k * 2)).toArray os
/-- A cache: its block C. -/
structure CacheAt (w : World) (N : Nat → Prop) (C lvl size : Nat) (xs os : List Ext) (lA : Option Addr) (c : Nat) (oA : Option Addr) (oc : Nat) : Prop where
  head : w.heap[C]? = some (.cells #[.bool true, .int .u8 (lvl : Int), .int .i64 (size : Int), .slice lA xs.length c, .slice oA os.length oc] 57 (0, 0))
  known : KnownAt w N lA c xs
  opn : OpenAt w N oA oc os
  apart : ∀ L O o, lA = some ⟨L, 0, none⟩ → oA = some ⟨O, o, none⟩ → L ≠ O
variable {N : Nat → Prop}
theorem BR.kept {w w' : World} {A : Option Addr} {c : Nat} {bs : List Int} (h : BR w A c bs) (hk : ∀ (g : Nat) (cs : Array Value) (fz : Nat × Nat), w.heap[g]? = some (Obj.cells cs 5 fz) → w'.heap[g]? = some (Obj.cells cs 5 fz)) : BR w' A c bs := by
  obtain ⟨h1, h2⟩ := h
  refine ⟨h1, fun h0 => ?_⟩
  obtain ⟨g, o, cs, fz, e, hh, hc⟩ := h2 h0
  exact ⟨g, o, cs, fz, e, hk g cs fz hh, hc⟩
theorem kept_below {w w' : World} (hb : Below w.heap.size w w') : ∀ (g : Nat) (o : Obj), w.heap[g]? = some o → w'.heap[g]? = some o := by
  intro g o h
  rw [hb.block g (Array.getElem?_eq_some_iff.1 h).1]
  exact h
theorem EC.kept {w w' : World} {cs : Array Value} {xs : List Ext} (h : EC w N cs xs) (hk : ∀ (g : Nat) (cs : Array Value) (fz : Nat × Nat), w.heap[g]? = some (Obj.cells cs 5 fz) → w'.heap[g]? = some (Obj.cells cs 5 fz)) : EC w' N cs xs := by
  intro j x hj
  obtain ⟨A, c, h1, h2, h3, h4⟩ := h j x hj
  exact ⟨A, c, h1, h2, h3.kept hk, h4⟩
theorem KnownAt.below {w w' : World} {lA : Option Addr} {c : Nat} {xs : List Ext} (h : KnownAt w N lA c xs) (hb : Below w.heap.size w w') : KnownAt w' N lA c xs := by
  rcases h with h2 | ⟨L, cs, e, hL, hs, hc, he⟩
  · exact .inl h2
  · exact .inr ⟨L, cs, e, kept_below hb _ _ hL, hs, hc, he.kept fun g cs fz hh => kept_below hb _ _ hh⟩
theorem OpenAt.below {w w' : World} {oA : Option Addr} {oc : Nat} {os : List Ext} (h : OpenAt w N oA oc os) (hb : Below w.heap.size w w') : OpenAt w' N oA oc os := by
  rcases h with h2 | ⟨L, k, cs, e, hL, hs, hc, he⟩
  · exact .inl h2
  · exact .inr ⟨L, k, cs, e, kept_below hb _ _ hL, hs, hc, he.kept fun g cs fz hh => kept_below hb _ _ hh⟩
section
variable {w w' : World} {C lvl size : Nat} {xs os : List Ext} {lA oA : Option Addr} {c oc : Nat}
theorem CacheAt.below (h : CacheAt w N C lvl size xs os lA c oA oc) (hb : Below w.heap.size w w') : CacheAt w' N C lvl size xs os lA c oA oc :=
  ⟨kept_below hb _ _ h.head, h.known.below hb, h.opn.below hb, h.apart⟩
theorem CacheAt.lt (h : CacheAt w N C lvl size xs os lA c oA oc) : C < w.heap.size := (Array.getElem?_eq_some_iff.1 h.head).1
theorem CacheAt.c0 (h : CacheAt w N C lvl size xs os lA c oA oc) : w.cell? ⟨C, 0, none⟩ = some (.bool true) := by rw [Lib.cell_of_heap h.head]; rfl
theorem CacheAt.c1 (h : CacheAt w N C lvl size xs os lA c oA oc) : w.cell? ⟨C, 1, none⟩ = some (.int .u8 (lvl : Int)) := by rw [Lib.cell_of_heap h.head]; rfl
theorem CacheAt.c2 (h : CacheAt w N C lvl size xs os lA c oA oc) : w.cell? ⟨C, 2, none⟩ = some (.int .i64 (size : Int)) := by rw [Lib.cell_of_heap h.head]; rfl
theorem CacheAt.c3 (h : CacheAt w N C lvl size xs os lA c oA oc) : w.cell? ⟨C, 3, none⟩ = some (.slice lA xs.length c) := by rw [Lib.cell_of_heap h.head]; rfl
theorem CacheAt.c4 (h : CacheAt w N C lvl size xs os lA c oA oc) : w.cell? ⟨C, 4, none⟩ = some (.slice oA os.length oc) := by rw [Lib.cell_of_heap h.head]; rfl
/-- A piece's two cells. -/
theorem KnownAt.piece (h : KnownAt w N lA c xs) {i : Nat} {x : Ext} (hi : xs[i]? = some x) :
    ∃ L A c', lA = some ⟨L, 0, none⟩ ∧ L < w.heap.size ∧ w.cell? ⟨L, i * 2, none⟩ = some (.int .i64 (x.1 : Int)) ∧ w.cell? ⟨L, i * 2 + 1, none⟩ = some (.slice A x.2.length c') ∧ BR w A c' x.2 := by
  rcases h with ⟨_, rfl, _⟩ | ⟨L, cs, e, hL, hs, hc, he⟩
  · simp at hi
  · obtain ⟨A, c', h1, h2, h3, _⟩ := he i x hi
    exact ⟨L, A, c', e, (Array.getElem?_eq_some_iff.1 hL).1, by rw [Lib.cell_of_heap hL]; exact h1, by rw [Lib.cell_of_heap hL]; exact h2, h3⟩
theorem OpenAt.piece (h : OpenAt w N oA oc os) {i : Nat} {x : Ext} (hi : os[i]? = some x) :
    ∃ O k A c', oA = some ⟨O, k * 2, none⟩ ∧ O < w.heap.size ∧ w.cell? ⟨O, k * 2 + i * 2, none⟩ = some (.int .i64 (x.1 : Int)) ∧ w.cell? ⟨O, k * 2 + (i * 2 + 1), none⟩ = some (.slice A x.2.length c') ∧ BR w A c' x.2 := by
  rcases h with ⟨_, rfl, _⟩ | ⟨L, k, cs, e, hL, hs, hc, he⟩
  · simp at hi
  · obtain ⟨A, c', h1, h2, h3, _⟩ := he i x hi
    rw [List.getElem?_toArray, List.getElem?_drop, Array.getElem?_toList] at h1 h2
    exact ⟨L, k, A, c', e, (Array.getElem?_eq_some_iff.1 hL).1, by rw [Lib.cell_of_heap hL]; exact h1, by rw [Lib.cell_of_heap hL]; exact h2, h3⟩
end

set_option maxHeartbeats 2000000 in
theorem end_calls (p n c : Nat) (A : Option Addr) (w : World) (hb : p + n ≤ 4611686018427387904) :
    Calls Try.prog 42 #[.agg #[.int .i64 (p : Int), .slice A n c]] w fun e w' => e = .returned (.int .i64 ((p + n : Nat) : Int)) ∧ Below w.heap.size w w' := by
  have e1 : ((p + n : Nat) : Int) = (p : Int) + (n : Int) := by omega
  rw [e1]
  clear e1
  go_enter Try.func42, Try.ntmps42
  go_wp2
  go_ret
  exact ⟨rfl, (Below.refl _ _).alloc (Nat.le_refl _) _⟩
/-- How many pieces end ahead of a place. -/
def frN (p : Nat) : List Ext → Nat
  | [] => 0
  | x :: t => if en x < p then frN p t + 1 else 0
theorem frN_le (p : Nat) : ∀ xs : List Ext, frN p xs ≤ xs.length := by
  intro xs
  induction xs with
  | nil => exact Nat.le_refl _
  | cons x t ih =>
    rw [frN]
    split
    · rw [List.length_cons]; omega
    · exact Nat.zero_le _
theorem frN_skip (p : Nat) : ∀ xs : List Ext, xs.drop (frN p xs) = skip p xs := by
  intro xs
  induction xs with
  | nil => rfl
  | cons x t ih =>
    rw [frN, skip]
    split
    · rw [List.drop_succ_cons, ih]
    · rfl
theorem frN_iff (p : Nat) : ∀ (xs : List Ext) (k : Nat), Ok k xs → ∀ i x, xs[i]? = some x → (p ≤ en x ↔ frN p xs ≤ i) := by
  intro xs
  induction xs with
  | nil => intro k _ i x h; simp at h
  | cons y t ih =>
    intro k hok i x h
    rw [frN]
    cases i with
    | zero =>
      rw [List.getElem?_cons_zero] at h
      injection h with h
      subst h
      split <;> omega
    | succ i =>
      rw [List.getElem?_cons_succ] at h
      split
      · have := ih _ hok.2.2 i x h
        omega
      · rename_i hc
        have hm := hok.2.2.mem x (List.mem_of_getElem? h)
        have e : en x = x.1 + x.2.length := rfl
        omega
set_option maxHeartbeats 4000000 in
set_option maxRecDepth 1000000 in
theorem lay2_calls (D p i b1 b2 : Nat) (xs : List Ext) (lA : Option Addr) (c : Nat) (x : Ext) (w : World) (h : KnownAt w N lA c xs) (q3 : w.cell? ⟨D, 3, none⟩ = some (.slice lA xs.length c)) (hD : D < w.heap.size) (hi : xs[i]? = some x) (hl : xs.length ≤ 1000000000) (hx : en x ≤ 4611686018427387904) (hp : p ≤ 4611686018427387904)
    (h1 : w.cell? ⟨b1, 0, none⟩ = some (.pointer (some ⟨D, 0, none⟩))) (h2 : w.cell? ⟨b2, 0, none⟩ = some (.int .i64 (p : Int))) (hb1 : b1 < w.heap.size) (hb2 : b2 < w.heap.size) :
    Calls Try.prog 49 #[.int .i64 (i : Int), .pointer (some ⟨b1, 0, none⟩), .pointer (some ⟨b2, 0, none⟩)] w fun e w' => e = .returned (.bool (decide (p ≤ en x))) ∧ Below w.heap.size w w' := by
  obtain ⟨L, A, c', rfl, hL, q4, q5, _⟩ := h.piece hi
  have hlt : i < xs.length := (List.getElem?_eq_some_iff.1 hi).1
  have i0 : (i : Int) < (xs.length : Int) := by omega
  have hen : en x = x.1 + x.2.length := rfl
  have cE := fun W => end_calls x.1 x.2.length c' A W (by omega)
  have CE := Lib.hid cE
  have hdec : decide ((p : Int) ≤ (x.1 : Int) + (x.2.length : Int)) = decide (p ≤ en x) := decide_eq_decide.2 (by rw [hen]; omega)
  have HDEC := Lib.hid hdec
  clear h hi cE hdec
  generalize xs.length = n at *
  go_enter Try.func49, Try.ntmps49
  go_wp2_with fail
  go_region_held3 (fun w' => Below w.heap.size w w' ∧ w'.cell? ⟨b1, 0, none⟩ = some (.pointer (some ⟨D, 0, none⟩)) ∧ w'.cell? ⟨b2, 0, none⟩ = some (.int .i64 (p : Int)) ∧ w'.cell? ⟨D, 3, none⟩ = some (.slice (some ⟨L, 0, none⟩) n c) ∧ w'.cell? ⟨L, i * 2, none⟩ = some (.int .i64 (x.1 : Int)) ∧ w'.cell? ⟨L, i * 2 + 1, none⟩ = some (.slice A x.2.length c')) (first | exact ⟨below_drew1 (Below.refl _ _), h1, h2, q3, q4, q5⟩ | exact ⟨(below_drew1 (Below.refl _ _)).trans hb, (hb.cell (p := ⟨b1, 0, none⟩) hb1).trans h1, (hb.cell (p := ⟨b2, 0, none⟩) hb2).trans h2, (hb.cell (p := ⟨D, 3, none⟩) hD).trans q3, (hb.cell (p := ⟨L, i * 2, none⟩) hL).trans q4, (hb.cell (p := ⟨L, i * 2 + 1, none⟩) hL).trans q5⟩) (first | (go_at_call 42; refine (CE.out _).mono ?_; rintro e w' ⟨rfl, hb⟩))
  go_wp2
  go_ret
  exact ⟨by rw [← HDEC.out]; rfl, (below_drew1 (Below.refl _ _)).trans hb⟩
set_option maxHeartbeats 4000000 in
set_option maxRecDepth 1000000 in
theorem read1_calls (D p i b1 b2 : Nat) (xs : List Ext) (lA : Option Addr) (c : Nat) (x : Ext) (w : World) (h : KnownAt w N lA c xs) (q3 : w.cell? ⟨D, 3, none⟩ = some (.slice lA xs.length c)) (hD : D < w.heap.size) (hi : xs[i]? = some x) (hl : xs.length ≤ 1000000000) (hx : en x ≤ 4611686018427387904) (hp : p ≤ 4611686018427387904)
    (h1 : w.cell? ⟨b1, 0, none⟩ = some (.pointer (some ⟨D, 0, none⟩))) (h2 : w.cell? ⟨b2, 0, none⟩ = some (.int .i64 (p : Int))) (hb1 : b1 < w.heap.size) (hb2 : b2 < w.heap.size) :
    Calls Try.prog 41 #[.int .i64 (i : Int), .pointer (some ⟨b1, 0, none⟩), .pointer (some ⟨b2, 0, none⟩)] w fun e w' => e = .returned (.bool (decide (p + 1 ≤ en x))) ∧ Below w.heap.size w w' := by
  obtain ⟨L, A, c', rfl, hL, q4, q5, _⟩ := h.piece hi
  have hlt : i < xs.length := (List.getElem?_eq_some_iff.1 hi).1
  have i0 : (i : Int) < (xs.length : Int) := by omega
  have hen : en x = x.1 + x.2.length := rfl
  have cE := fun W => end_calls x.1 x.2.length c' A W (by omega)
  have CE := Lib.hid cE
  have hdec : decide ((p : Int) < (x.1 : Int) + (x.2.length : Int)) = decide (p + 1 ≤ en x) := decide_eq_decide.2 (by rw [hen]; omega)
  have HDEC := Lib.hid hdec
  clear h hi cE hdec
  generalize xs.length = n at *
  go_enter Try.func41, Try.ntmps41
  go_wp2_with fail
  go_region_held3 (fun w' => Below w.heap.size w w' ∧ w'.cell? ⟨b1, 0, none⟩ = some (.pointer (some ⟨D, 0, none⟩)) ∧ w'.cell? ⟨b2, 0, none⟩ = some (.int .i64 (p : Int)) ∧ w'.cell? ⟨D, 3, none⟩ = some (.slice (some ⟨L, 0, none⟩) n c) ∧ w'.cell? ⟨L, i * 2, none⟩ = some (.int .i64 (x.1 : Int)) ∧ w'.cell? ⟨L, i * 2 + 1, none⟩ = some (.slice A x.2.length c')) (first | exact ⟨below_drew1 (Below.refl _ _), h1, h2, q3, q4, q5⟩ | exact ⟨(below_drew1 (Below.refl _ _)).trans hb, (hb.cell (p := ⟨b1, 0, none⟩) hb1).trans h1, (hb.cell (p := ⟨b2, 0, none⟩) hb2).trans h2, (hb.cell (p := ⟨D, 3, none⟩) hD).trans q3, (hb.cell (p := ⟨L, i * 2, none⟩) hL).trans q4, (hb.cell (p := ⟨L, i * 2 + 1, none⟩) hL).trans q5⟩) (first | (go_at_call 42; refine (CE.out _).mono ?_; rintro e w' ⟨rfl, hb⟩))
  go_wp2
  go_ret
  exact ⟨by rw [← HDEC.out]; rfl, (below_drew1 (Below.refl _ _)).trans hb⟩
end Go.Proofs.Ytbnkiefchbcfgaa.U
/- cache: the two searches. -/
set_option linter.unusedVariables false
set_option linter.unusedSimpArgs false
namespace Go.Proofs.Ytbnkiefchbcfgaa.U
open Go.RowKit Go.Proofs Go.Lib Go.Proofs.YtbnkiefchbcfgaaW.PrintWords
variable {N : Nat → Prop}

set_option maxHeartbeats 4000000 in
set_option maxRecDepth 1000000 in
theorem laySearch_calls (D p b1 b2 : Nat) (xs : List Ext) (lA : Option Addr) (c : Nat) (w : World) (h : KnownAt w N lA c xs) (q3 : w.cell? ⟨D, 3, none⟩ = some (.slice lA xs.length c)) (hD : D < w.heap.size) (hok : Ok 0 xs) (hl : xs.length ≤ 1000000000) (hx : ∀ x ∈ xs, en x ≤ 4611686018427387904) (hp : p ≤ 4611686018427387904)
    (h1 : w.cell? ⟨b1, 0, none⟩ = some (.pointer (some ⟨D, 0, none⟩))) (h2 : w.cell? ⟨b2, 0, none⟩ = some (.int .i64 (p : Int))) (hb1 : b1 < w.heap.size) (hb2 : b2 < w.heap.size) :
    Calls Try.prog 40 #[.int .i64 xs.length, .func (.func 49) #[] #[.pointer (some ⟨b1, 0, none⟩), .pointer (some ⟨b2, 0, none⟩)]] w fun e w' => e = .returned (.int .i64 (frN p xs : Nat)) ∧ Below w.heap.size w w' := by
  have cF := fun W (hb : Below w.heap.size w W) i x (hi : xs[i]? = some x) => lay2_calls D p i b1 b2 xs lA c x W (h.below hb) ((hb.cell (p := ⟨D, 3, none⟩) hD).trans q3) (Nat.lt_of_lt_of_le hD hb.size) hi hl (hx x (List.mem_of_getElem? hi)) hp ((hb.cell (p := ⟨b1, 0, none⟩) hb1).trans h1) ((hb.cell (p := ⟨b2, 0, none⟩) hb2).trans h2) (Nat.lt_of_lt_of_le hb1 hb.size) (Nat.lt_of_lt_of_le hb2 hb.size)
  have hfr := frN_iff p xs 0 hok
  have hfl := frN_le p xs
  generalize frN p xs = fr at *
  have CF := Lib.hid cF
  have HFR := Lib.hid hfr
  clear cF hfr h h1 h2 hok hx q3
  generalize hn : xs.length = n at *
  have HN := Lib.hid hn
  clear hn
  go_enter Try.func40, Try.ntmps40
  go_wp2
  go_loopw [5, 6] (fun vi vj wr => ∃ i j : Nat, vi = .int .i64 (i : Int) ∧ vj = .int .i64 (j : Int) ∧ i ≤ fr ∧ fr ≤ j ∧ j ≤ n ∧ Below w.heap.size w wr) (fun vi vj _ => (RowKit.intOf vj).toNat - (RowKit.intOf vi).toNat)
  case atStart => exact ⟨0, n, rfl, rfl, Nat.zero_le _, hfl, Nat.le_refl _, Below.refl _ _⟩
  case round =>
    obtain ⟨i, j, rfl, rfl, hi, hj, hjn, hbw⟩ := hrel
    have HB := Lib.hid hbw
    clear hbw
    by_cases hlt : i < j
    · have d0 : decide ((i : Int) < (j : Int)) = true := by simp; omega
      obtain ⟨m, hm⟩ : ∃ m, (i + j) / 2 = m := ⟨_, rfl⟩
      obtain ⟨x, hx⟩ : ∃ x, xs[m]? = some x := ⟨_, List.getElem?_eq_getElem (by have := HN.out; omega)⟩
      have C := Lib.hid (CF.out wr HB.out m x hx)
      have hmi : ((i : Int) + (j : Int)) / 2 = (m : Int) := by omega
      have hiff := HFR.out m x hx
      have him : i ≤ m := by omega
      have hmj : m < j := by omega
      clear hm hx
      go_wp2_with fail
      refine (C.out).mono ?_
      rintro e w2 ⟨rfl, hb⟩
      have HB2 := Lib.hid (HB.out.trans (hb.mono HB.out.size))
      clear hb C
      by_cases hpx : p ≤ en x
      · rw [decide_eq_true hpx]
        go_wp2
        go_roundw
        case rel => exact ⟨i, m, rfl, rfl, hi, hiff.1 hpx, by omega, HB2.out⟩
        case measure => simp only [RowKit.intOf, Int.toNat_natCast]; omega
      · rw [decide_eq_false hpx]
        have hlt2 : m < fr := by
          rcases Nat.lt_or_ge m fr with h | h
          · exact h
          · exact absurd (hiff.2 h) hpx
        go_wp2
        go_roundw
        case rel => exact ⟨m + 1, j, by rw [Int.natCast_succ], rfl, hlt2, hj, hjn, HB2.out⟩
        case measure => simp only [RowKit.intOf, Int.toNat_natCast]; omega
    · have d0 : decide ((i : Int) < (j : Int)) = false := by simp; omega
      obtain rfl : i = fr := by omega
      go_wp2
      go_ret
      exact ⟨rfl, HB.out⟩
set_option maxHeartbeats 4000000 in
set_option maxRecDepth 1000000 in
theorem readSearch_calls (D p b1 b2 : Nat) (xs : List Ext) (lA : Option Addr) (c : Nat) (w : World) (h : KnownAt w N lA c xs) (q3 : w.cell? ⟨D, 3, none⟩ = some (.slice lA xs.length c)) (hD : D < w.heap.size) (hok : Ok 0 xs) (hl : xs.length ≤ 1000000000) (hx : ∀ x ∈ xs, en x ≤ 4611686018427387904) (hp : p ≤ 4611686018427387904)
    (h1 : w.cell? ⟨b1, 0, none⟩ = some (.pointer (some ⟨D, 0, none⟩))) (h2 : w.cell? ⟨b2, 0, none⟩ = some (.int .i64 (p : Int))) (hb1 : b1 < w.heap.size) (hb2 : b2 < w.heap.size) :
    Calls Try.prog 40 #[.int .i64 xs.length, .func (.func 41) #[] #[.pointer (some ⟨b1, 0, none⟩), .pointer (some ⟨b2, 0, none⟩)]] w fun e w' => e = .returned (.int .i64 (frN (p + 1) xs : Nat)) ∧ Below w.heap.size w w' := by
  have cF := fun W (hb : Below w.heap.size w W) i x (hi : xs[i]? = some x) => read1_calls D p i b1 b2 xs lA c x W (h.below hb) ((hb.cell (p := ⟨D, 3, none⟩) hD).trans q3) (Nat.lt_of_lt_of_le hD hb.size) hi hl (hx x (List.mem_of_getElem? hi)) hp ((hb.cell (p := ⟨b1, 0, none⟩) hb1).trans h1) ((hb.cell (p := ⟨b2, 0, none⟩) hb2).trans h2) (Nat.lt_of_lt_of_le hb1 hb.size) (Nat.lt_of_lt_of_le hb2 hb.size)
  have hfr := frN_iff (p + 1) xs 0 hok
  have hfl := frN_le (p + 1) xs
  generalize frN (p + 1) xs = fr at *
  have CF := Lib.hid cF
  have HFR := Lib.hid hfr
  clear cF hfr h h1 h2 hok hx q3
  generalize hn : xs.length = n at *
  have HN := Lib.hid hn
  clear hn
  go_enter Try.func40, Try.ntmps40
  go_wp2
  go_loopw [5, 6] (fun vi vj wr => ∃ i j : Nat, vi = .int .i64 (i : Int) ∧ vj = .int .i64 (j : Int) ∧ i ≤ fr ∧ fr ≤ j ∧ j ≤ n ∧ Below w.heap.size w wr) (fun vi vj _ => (RowKit.intOf vj).toNat - (RowKit.intOf vi).toNat)
  case atStart => exact ⟨0, n, rfl, rfl, Nat.zero_le _, hfl, Nat.le_refl _, Below.refl _ _⟩
  case round =>
    obtain ⟨i, j, rfl, rfl, hi, hj, hjn, hbw⟩ := hrel
    have HB := Lib.hid hbw
    clear hbw
    by_cases hlt : i < j
    · have d0 : decide ((i : Int) < (j : Int)) = true := by simp; omega
      obtain ⟨m, hm⟩ : ∃ m, (i + j) / 2 = m := ⟨_, rfl⟩
      obtain ⟨x, hx⟩ : ∃ x, xs[m]? = some x := ⟨_, List.getElem?_eq_getElem (by have := HN.out; omega)⟩
      have C := Lib.hid (CF.out wr HB.out m x hx)
      have hmi : ((i : Int) + (j : Int)) / 2 = (m : Int) := by omega
      have hiff := HFR.out m x hx
      have him : i ≤ m := by omega
      have hmj : m < j := by omega
      clear hm hx
      go_wp2_with fail
      refine (C.out).mono ?_
      rintro e w2 ⟨rfl, hb⟩
      have HB2 := Lib.hid (HB.out.trans (hb.mono HB.out.size))
      clear hb C
      by_cases hpx : p + 1 ≤ en x
      · rw [decide_eq_true hpx]
        go_wp2
        go_roundw
        case rel => exact ⟨i, m, rfl, rfl, hi, hiff.1 hpx, by omega, HB2.out⟩
        case measure => simp only [RowKit.intOf, Int.toNat_natCast]; omega
      · rw [decide_eq_false hpx]
        have hlt2 : m < fr := by
          rcases Nat.lt_or_ge m fr with h | h
          · exact h
          · exact absurd (hiff.2 h) hpx
        go_wp2
        go_roundw
        case rel => exact ⟨m + 1, j, by rw [Int.natCast_succ], rfl, hlt2, hj, hjn, HB2.out⟩
        case measure => simp only [RowKit.intOf, Int.toNat_natCast]; omega
    · have d0 : decide ((i : Int) < (j : Int)) = false := by simp; omega
      obtain rfl : i = fr := by omega
      go_wp2
      go_ret
      exact ⟨rfl, HB.out⟩
end Go.Proofs.Ytbnkiefchbcfgaa.U
/- Rows of bytes: copying. -/
set_option linter.unusedVariables false
set_option linter.unusedSimpArgs false
namespace Go.Proofs.Ytbnkiefchbcfgaa.U
open Go.RowKit Go.Proofs Go.Lib Go.Proofs.YtbnkiefchbcfgaaW.PrintWords

variable {N : Nat → Prop}
theorem infoU8 : (Try.prog.info? 5).map (fun i => (i.zero, i.size, i.bytes)) = some (some (.int .u8 0), 1, 1) := by kernel_rfl
theorem sizeU8 : (Try.prog.info? 5).map (·.size) = some 1 := by kernel_rfl
theorem made_bytes (n : Nat) : madeCells #[Value.int .u8 0] n = (nums .u8 (List.replicate n 0)).toArray := by
  apply Array.ext
  · simp [madeCells, nums]
  · intro i h1 h2
    simp [madeCells, nums, Nat.mod_one]
theorem below_setRow {B g : Nat} {w0 w : World} (h : Below B w0 w) (hB : B ≤ g) (cs : Array Value) : Below B w0 (w.setRow g cs) :=
  ⟨h.os, h.tape, h.output, by have := h.size; show w0.heap.size ≤ (w.heap.modify g _).size; rw [Array.size_modify]; exact this, fun k hk => (setRow_other w g k cs (by omega)).trans (h.block k hk)⟩
theorem nums_len (xs : List Int) : (nums .u8 xs).length = xs.length := by simp [nums]
theorem run_cp (w : World) (t ty : TypeId) (hu : Try.prog.underlying t = some (.slice 5)) (g o : Nat) (A : Option Addr) (c n : Nat) (out bs : List Int) (hR : BR w A c bs) (ho : o ≤ out.length) (hn : n = out.length - o)
    (hg : w.heap[g]? = some (.cells (nums .u8 out).toArray 5 (0, 0))) :
    ∃ w' z, (Builtin.copy_ #[t, t] ty #[.slice (some ⟨g, o, none⟩) n n, .slice A bs.length c]).run Try.prog w = .ok z w' ∧ w'.heap[g]? = some (.cells (nums .u8 (cp out o bs)).toArray 5 (0, 0)) ∧
      (∀ (w0 : World) (B : Nat), Below B w0 w → B ≤ g → Below B w0 w') ∧ ∀ k, k ≠ g → w'.heap[k]? = w.heap[k]? := by
  subst hn
  rcases Nat.eq_zero_or_pos (Nat.min bs.length (out.length - o)) with h0 | h0
  · refine ⟨w, _, run_copy_none (P := Try.prog) w t t ty 5 _ A _ _ bs.length c hu sizeU8 h0, ?_, fun _ _ h _ => h, fun _ _ => rfl⟩
    have e : cp out o bs = out := by
      unfold cp
      rcases Nat.eq_zero_or_pos bs.length with hb | hb
      · obtain rfl : bs = [] := List.eq_nil_of_length_eq_zero hb
        simp
      · have hm : Nat.min bs.length (out.length - o) = min bs.length (out.length - o) := rfl
        have : out.length - o = 0 := by omega
        rw [this, List.take_zero, List.drop_eq_nil_of_le (by omega), List.take_of_length_le (by omega)]
        simp
    rw [e]
    exact hg
  · have hm : Nat.min bs.length (out.length - o) = min bs.length (out.length - o) := rfl
    obtain ⟨b, off, cs, fz, rfl, hh, hc⟩ := hR.2 (by omega)
    have hl : (bs.take (out.length - o)).length = min (out.length - o) bs.length := List.length_take
    have hsrc : ∀ j v, (nums .u8 (bs.take (out.length - o)))[j]? = some v → w.cell? ((⟨b, off, none⟩ : Addr).add j) = some v := by
      intro j v hj
      have hjl : j < (bs.take (out.length - o)).length := by
        have := (List.getElem?_eq_some_iff.1 hj).1
        rwa [nums_len] at this
      have e : (⟨b, off, none⟩ : Addr).add j = ⟨b, off + j, none⟩ := by
        unfold Addr.add
        split
        · rename_i h; subst h; rfl
        · rfl
      rw [e, Lib.cell_of_heap hh]
      unfold nums at hj
      rw [List.getElem?_map, List.getElem?_take, if_pos (by omega)] at hj
      obtain ⟨z, hz, rfl⟩ := Option.map_eq_some_iff.1 hj
      exact hc j z hz
    have h1 : ∀ u ∈ nums .u8 (bs.take (out.length - o)), u.oneCell' = true := by
      intro u hu
      obtain ⟨z, _, rfl⟩ := List.mem_map.1 hu
      rfl
    have hr := run_copy_row (P := Try.prog) w t t ty 5 g o (out.length - o) (out.length - o) ⟨b, off, none⟩ bs.length c (nums .u8 out).toArray 5 (nums .u8 (bs.take (out.length - o))) hu sizeU8 hg (by rw [nums_len, hl, hm]; omega) hsrc (by rw [nums_len, hl]; simp [nums]; omega) h1
    refine ⟨_, _, hr, ?_, fun w0 B hb hB => below_setRow hb hB _, fun k hk => setRow_other w g k _ hk⟩
    rw [setRow_heap w g _ _ _ _ hg, nums_len, hl]
    have e : (nums .u8 out).toArray.toList.take o ++ nums .u8 (bs.take (out.length - o)) ++ (nums .u8 out).toArray.toList.drop (o + min (out.length - o) bs.length) = nums .u8 (cp out o bs) := by
      unfold cp nums
      simp only [List.map_append, List.map_take, List.map_drop, List.toList_toArray]
      congr 1
      rcases Nat.lt_or_ge bs.length (out.length - o) with h | h
      · rw [show o + min (out.length - o) bs.length = o + bs.length by omega]
      · rw [List.drop_eq_nil_of_le (by simp; omega), List.drop_eq_nil_of_le (by simp; omega)]
    rw [e]
theorem wpList_cp {w : World} {ops : Array Oper} {rest : List Oper} {o : Oper} {act : Act} {Q : Exit → Act → World → Prop} (hgd : o.guard = none) (d s : Operand) (t : TypeId)
    (ho : o.op = .call { callee := .builtin .copy, args := #[d, s], argTypes := #[t, t] }) (hu : Try.prog.underlying t = some (.slice 5)) (g k : Nat) (A : Option Addr) (n m c : Nat) (out bs : List Int) (hR : BR w A c bs) (hk : k ≤ out.length) (hn : n = out.length - k) (hm : bs.length = m)
    (hg : w.heap[g]? = some (.cells (nums .u8 out).toArray 5 (0, 0))) (hd : act.eval d = .slice (some ⟨g, k, none⟩) n n) (hx : act.eval s = .slice A m c)
    (h : ∀ w' z, w'.heap[g]? = some (.cells (nums .u8 (cp out k bs)).toArray 5 (0, 0)) → (∀ (w0 : World) (B : Nat), Below B w0 w → B ≤ g → Below B w0 w') → wpList Try.prog ops Q rest (act.put o.dst z) w') : wpList Try.prog ops Q (o :: rest) act w := by
  refine wpList_plain hgd fun K hK => ?_
  subst hm
  obtain ⟨w', z, hr, h2, h3, _⟩ := run_cp w t o.type hu g k A c n out bs hR hk hn hg
  unfold Oper.wp execOp
  simp only [ho, resolve, invoke, builtin, Sem.run_bind, Sem.run_pure, Result.andThen_ok, List.map_toArray, List.map_cons, List.map_nil, hd, hx, hr]
  exact hK _ _ (h w' z h2 h3)

theorem BR.drop {w : World} {A : Option Addr} {c : Nat} {bs : List Int} (h : BR w A c bs) (k : Nat) (hk : ¬ c = k) : BR w (A.map fun a => a.add k) (c - k) (bs.drop k) := by
  obtain ⟨h1, h2⟩ := h
  refine ⟨by rw [List.length_drop]; omega, fun h0 => ?_⟩
  rw [List.length_drop] at h0
  obtain ⟨g, o, cs, fz, rfl, hh, hc⟩ := h2 (by omega)
  refine ⟨g, o + k, cs, fz, ?_, hh, fun j b hj => ?_⟩
  · show some ((⟨g, o, none⟩ : Addr).add k) = _
    unfold Addr.add
    split
    · rename_i h; subst h; rfl
    · rfl
  · rw [List.getElem?_drop] at hj
    rw [Nat.add_assoc]
    exact hc (k + j) b hj
theorem BR.nil (w : World) (A : Option Addr) (c : Nat) : BR w A c [] := ⟨Nat.zero_le _, fun h => absurd h (by decide)⟩
theorem skip_mem {p : Nat} : ∀ {xs : List Ext} {k : Nat}, Ok k xs → ∀ x ∈ skip p xs, p ≤ en x := by
  intro xs
  induction xs with
  | nil => intro k _ x hx; cases hx
  | cons y t ih =>
    intro k h x hx
    rw [skip] at hx
    split at hx
    · exact ih h.2.2 x hx
    · rename_i hc
      rcases List.mem_cons.1 hx with rfl | hx
      · omega
      · have := h.2.2.mem x hx
        have e : en x = x.1 + x.2.length := rfl
        omega
end Go.Proofs.Ytbnkiefchbcfgaa.U
/- slices.Clone of bytes; slices.Insert, slices.Replace behind the last piece. -/
set_option linter.unusedVariables false
set_option linter.unusedSimpArgs false
namespace Go.Proofs.Ytbnkiefchbcfgaa.U
open Go.RowKit Go.Proofs Go.Lib Go.Proofs.YtbnkiefchbcfgaaW.PrintWords

/-- Bytes that are the call's own. -/
theorem BR.of_own {w : World} {base : Nat} {v : Value} {n : Nat} {bs : List Int} (h : w.ownsRow base 5 1 v n (nums .u8 bs)) (h0 : 0 < n) : ∃ O cap, v = .slice (some ⟨O, 0, none⟩) n cap ∧ base ≤ O ∧ BR w (some ⟨O, 0, none⟩) cap bs := by
  obtain ⟨h1, h2⟩ := h
  rw [nums_len, Nat.mul_one] at h1
  rcases h2 with ⟨_, h2⟩ | ⟨g, cap, cur, hv, hg, hh, hc, _, hsz, htk⟩
  · omega
  · refine ⟨g, cap, hv, hg, by omega, fun _ => ⟨g, 0, cur, (0, 0), rfl, hh, fun j b hj => ?_⟩⟩
    have hjl : j < n := by have := (List.getElem?_eq_some_iff.1 hj).1; omega
    have : (cur.toList.take (n * 1))[j]? = some (.int .u8 b) := by
      rw [htk]
      unfold nums
      rw [List.getElem?_map, hj]
      rfl
    rw [List.getElem?_take, if_pos (by omega), Array.getElem?_toList] at this
    rw [Nat.zero_add]
    exact this
theorem BR.cells {w : World} {A : Option Addr} {c : Nat} {bs : List Int} (h : BR w A c bs) (h0 : 0 < bs.length) : ∃ g o, A = some ⟨g, o, none⟩ ∧ g < w.heap.size ∧ ∀ j u, (nums .u8 bs)[j]? = some u → w.cell? ((⟨g, o, none⟩ : Addr).add j) = some u := by
  obtain ⟨g, o, cs, fz, e, hh, hc⟩ := h.2 h0
  refine ⟨g, o, e, (Array.getElem?_eq_some_iff.1 hh).1, fun j u hj => ?_⟩
  have e2 : (⟨g, o, none⟩ : Addr).add j = ⟨g, o + j, none⟩ := by
    unfold Addr.add
    split
    · rename_i h; subst h; rfl
    · rfl
  rw [e2, Lib.cell_of_heap hh]
  unfold nums at hj
  rw [List.getElem?_map] at hj
  obtain ⟨z, hz, rfl⟩ := Option.map_eq_some_iff.1 hj
  exact hc j z hz
/-- Bytes that are read, whatever their block is (an argument's). -/
def BA (w : World) (A : Option Addr) (c : Nat) (bs : List Int) : Prop :=
  bs.length ≤ c ∧ (0 < bs.length → ∃ g o, A = some ⟨g, o, none⟩ ∧ g < w.heap.size ∧ ∀ j u, (nums .u8 bs)[j]? = some u → w.cell? ((⟨g, o, none⟩ : Addr).add j) = some u)
theorem BR.ba {w : World} {A : Option Addr} {c : Nat} {bs : List Int} (h : BR w A c bs) : BA w A c bs := ⟨h.1, fun h0 => h.cells h0⟩
theorem BA.below {w w' : World} {B : Nat} {A : Option Addr} {c : Nat} {bs : List Int} (h : BA w A c bs) (hb : Below B w w') (hB : ∀ g o, A = some ⟨g, o, none⟩ → g < B) : BA w' A c bs := by
  refine ⟨h.1, fun h0 => ?_⟩
  obtain ⟨g, o, rfl, hg, hc⟩ := h.2 h0
  refine ⟨g, o, rfl, Nat.lt_of_lt_of_le hg hb.size, fun j u hj => ?_⟩
  rw [← hc j u hj, Addr.add_lit]
  exact hb.cell (p := ⟨g, o + j, none⟩) (hB g o rfl)
theorem BA.keep {w w' : World} {A : Option Addr} {c : Nat} {bs : List Int} (h : BA w A c bs) (hb : Below w.heap.size w w') : BA w' A c bs := by
  refine ⟨h.1, fun h0 => ?_⟩
  obtain ⟨g, o, rfl, hg, hc⟩ := h.2 h0
  refine ⟨g, o, rfl, Nat.lt_of_lt_of_le hg hb.size, fun j u hj => ?_⟩
  rw [← hc j u hj, Addr.add_lit]
  exact hb.cell (p := ⟨g, o + j, none⟩) hg
theorem nums_one (bs : List Int) : ∀ u ∈ nums .u8 bs, u.oneCell' = true := by
  intro u hu
  obtain ⟨z, _, rfl⟩ := List.mem_map.1 hu
  rfl
theorem below_grown {B : Nat} {w0 w w1 : World} {row : Option Nat} (h : Below B w0 w) (hw : w.grownBy w1 row) (hB : B ≤ w.heap.size) (hr : ∀ k, row = some k → B ≤ k) : Below B w0 w1 := h.grown hw hB hr
set_option maxHeartbeats 4000000 in
set_option maxRecDepth 1000000 in
theorem Clone_calls (A : Option Addr) (c : Nat) (bs : List Int) (w : World) (hR : BA w A c bs) (h0 : 0 < bs.length) (hl : bs.length ≤ 1000000000) :
    Calls Try.prog 39 #[.slice A bs.length c] w fun e w' => ∃ v, e = .returned v ∧ w'.ownsRow w.heap.size 5 1 v bs.length (nums .u8 bs) ∧ Below w.heap.size w w' := by
  obtain ⟨g, o, rfl, hg, hcell⟩ := hR.2 h0
  obtain ⟨i0, hi, hz0, hz1, hz2⟩ := info_parts infoU8
  generalize hn : bs.length = n at *
  have HN := Lib.hid hn
  have HCELL := Lib.hid hcell
  clear hR hn hcell
  have q := fun (w : World) (a : Option Addr) (n c n' c' : Nat) => Lib.run_eql_slice_nil (P := Try.prog) w 22 _ a n c n' c' Try.underlying22
  go_enter Try.func39, Try.ntmps39
  have hb1 : Below w.heap.size w (w.alloc (.cells #[] 5)) := (Below.refl _ _).alloc (Nat.le_refl _) _
  have hown : (w.alloc (.cells #[] 5)).ownsRow w.heap.size 5 1 (.slice (some ⟨w.heap.size, 0, none⟩) 0 0) 0 [] := ⟨rfl, .inr ⟨w.heap.size, 0, #[], rfl, Nat.le_refl _, heap_alloc_new w _, Nat.le_refl _, Nat.zero_le _, rfl, rfl⟩⟩
  go_wp2_with (at_builtin; refine wpList_append_own _ rfl _ _ 22 rfl w.heap.size 5 i0 (.int .u8 0) 1 1 Try.underlying22 hi hz0 hz1 hz2 rfl (by decide) _ 0 [] rfl hown ⟨g, o, none⟩ n c (nums .u8 bs) rfl (by rw [nums_len, HN.out, Nat.mul_one]) (fun j u hj => (hb1.cell (p := (⟨g, o, none⟩ : Addr).add j) (by unfold Addr.add; split <;> exact hg)).trans (HCELL.out j u hj)) (nums_one bs) (by unfold maxLen; omega) (by omega) hb1.size ?_)
  intro v' w2 ho hgr _
  have hbz : Below w.heap.size w w2 := hb1.grown hgr hb1.size (fun k hk => (hown.lt k hk).1)
  go_wp2
  go_ret
  exact ⟨_, rfl, ho, hbz⟩
/-! ### slices.Insert, slices.Replace: behind the last piece -/
theorem infoE : (Try.prog.info? 32).map (fun i => (i.zero, i.size, i.bytes)) = some (some (.agg #[.int .i64 0, .slice none 0 0]), 2, 32) := by kernel_rfl
set_option maxHeartbeats 4000000 in
set_option maxRecDepth 1000000 in
theorem Insert_end (base : Nat) (v : Value) (n : Nat) (xs : List Value) (V : Nat) (a b : Value) (w : World) (hown : w.ownsRow base 32 2 v n xs) (hV : w.heap[V]? = some (.cells #[a, b] 32 (0, 0))) (ha : a.oneCell' = true) (hb' : b.oneCell' = true) (hn : n ≤ 1000000) (hbase : base ≤ w.heap.size) :
    Calls Try.prog 55 #[v, .int .i64 n, .slice (some ⟨V, 0, none⟩) 1 1] w fun e w' => ∃ v', e = .returned v' ∧ w'.ownsRow base 32 2 v' (n + 1) (xs ++ [a, b]) ∧ w.grownBy w' v.ownBlock := by
  obtain ⟨i0, hi, hz0, hz1, hz2⟩ := info_parts infoE
  have hcell : ∀ j u, [a, b][j]? = some u → w.cell? ((⟨V, 0, none⟩ : Addr).add j) = some u := by
    intro j u hj
    have e2 : (⟨V, 0, none⟩ : Addr).add j = ⟨V, j, none⟩ := by
      unfold Addr.add
      split
      · rename_i h; subst h; rfl
      · show (⟨V, 0 + j, none⟩ : Addr) = _
        rw [Nat.zero_add]
    rw [e2, Lib.cell_of_heap hV]
    simpa using hj
  have h1 : ∀ u ∈ [a, b], u.oneCell' = true := by
    intro u hu
    simp only [List.mem_cons, List.not_mem_nil, or_false] at hu
    rcases hu with rfl | rfl
    · exact ha
    · exact hb'
  have hsl : ∃ A c, v = .slice A n c ∧ (A = none → c = 0) ∧ n ≤ c := by
    rcases hown.2 with ⟨rfl, h0⟩ | ⟨g, cap, cur, rfl, _, _, hc, _⟩
    · exact ⟨none, 0, by rw [h0], fun _ => rfl, by omega⟩
    · exact ⟨_, cap, rfl, fun h => (by cases h), hc⟩
  obtain ⟨A, c, rfl, hAc, hnc⟩ := hsl
  have d1 : (n : Int) ≤ (c : Int) := by omega
  have HCELL := Lib.hid hcell
  have HOWN := Lib.hid hown
  clear hcell hown hV
  go_enter Try.func55, Try.ntmps55
  go_wp2_with (at_builtin; refine wpList_append_own _ rfl _ _ 23 rfl base 32 i0 (.agg #[.int .i64 0, .slice none 0 0]) 2 32 Try.underlying23 hi hz0 hz1 hz2 rfl (by decide) _ n xs rfl HOWN.out ⟨V, 0, none⟩ 1 1 [a, b] rfl rfl HCELL.out h1 (by unfold maxLen; omega) (by omega) hbase ?_)
  all_goals
    intro v' w2 ho hg _
    go_wp2
    go_ret
    exact ⟨_, rfl, ho, by cases A <;> exact hg⟩
set_option maxHeartbeats 4000000 in
set_option maxRecDepth 1000000 in
theorem Replace_end (base : Nat) (v : Value) (n : Nat) (xs : List Value) (V : Nat) (a b : Value) (w : World) (hown : w.ownsRow base 32 2 v n xs) (hV : w.heap[V]? = some (.cells #[a, b] 32 (0, 0))) (ha : a.oneCell' = true) (hb' : b.oneCell' = true) (hn : n ≤ 1000000) (hbase : base ≤ w.heap.size) :
    Calls Try.prog 50 #[v, .int .i64 n, .int .i64 n, .slice (some ⟨V, 0, none⟩) 1 1] w fun e w' => ∃ v', e = .returned v' ∧ w'.ownsRow base 32 2 v' (n + 1) (xs ++ [a, b]) ∧ w.grownBy w' v.ownBlock := by
  have cI := Insert_end base v n xs V a b w hown hV ha hb' hn hbase
  have hsl : ∃ A c, v = .slice A n c ∧ (A = none → c = 0) ∧ n ≤ c := by
    rcases hown.2 with ⟨rfl, h0⟩ | ⟨g, cap, cur, rfl, _, _, hc, _⟩
    · exact ⟨none, 0, by rw [h0], fun _ => rfl, by omega⟩
    · exact ⟨_, cap, rfl, fun h => (by cases h), hc⟩
  obtain ⟨A, c, rfl, hAc, hnc⟩ := hsl
  by_cases hcn : c = n
  · subst hcn
    have d1 : (c : Int) ≤ (c : Int) := by omega
    have CI := Lib.hid cI
    clear cI hown hV
    go_enter Try.func50, Try.ntmps50
    go_wp2_with fail
    refine (CI.out).mono ?_
    rintro e w2 ⟨v', rfl, ho, hg⟩
    go_wp2
    go_ret
    exact ⟨_, rfl, ho, by cases A <;> exact hg⟩
  · have hcn2 : ¬ n = c := fun h => hcn h.symm
    have d1 : (n : Int) ≤ (c : Int) := by omega
    have CI := Lib.hid cI
    clear cI hown hV
    go_enter Try.func50, Try.ntmps50
    go_wp2_with fail
    refine (CI.out).mono ?_
    rintro e w2 ⟨v', rfl, ho, hg⟩
    go_wp2
    go_ret
    exact ⟨_, rfl, ho, by cases A <;> exact hg⟩
end Go.Proofs.Ytbnkiefchbcfgaa.U
/- Rows of pieces (two cells each): copying, clearing, appending, as one run each. -/
set_option linter.unusedVariables false
set_option linter.unusedSimpArgs false
namespace Go.Proofs.Ytbnkiefchbcfgaa.U
open Go.RowKit Go.Proofs Go.Lib Go.Proofs.YtbnkiefchbcfgaaW.PrintWords

variable {N : Nat → Prop}
theorem own_form {w : World} {base n : Nat} {v : Value} {xs : List Value} (h : w.ownsRow base 32 2 v (n + 1) xs) :
    ∃ L cap cur, v = .slice (some ⟨L, 0, none⟩) (n + 1) cap ∧ base ≤ L ∧ w.heap[L]? = some (.cells cur 32 (0, 0)) ∧ n + 1 ≤ cap ∧ cur.size = cap * 2 ∧ cur.toList.take ((n + 1) * 2) = xs := by
  rcases h.2 with ⟨_, h⟩ | ⟨L, cc, cur, hv, hL, hhL, hcc, _, hsz, htk⟩
  · omega
  · exact ⟨L, cc, cur, hv, hL, hhL, hcc, hsz, htk⟩
theorem set_cell {w : World} {g j : Nat} {cs : Array Value} {t : TypeId} {fz : Nat × Nat} (h : w.heap[g]? = some (.cells cs t fz)) (v : Value) : (w.setCell ⟨g, j, none⟩ v).heap[g]? = some (.cells (cs.setIfInBounds j v) t fz) := by
  simp only [World.setCell, Array.getElem?_modify, if_true, h, Option.map_some]
  rfl
theorem set_other {w : World} {g j k : Nat} (v : Value) (h : k ≠ g) : (w.setCell ⟨g, j, none⟩ v).heap[k]? = w.heap[k]? := by
  simp only [World.setCell, Array.getElem?_modify]
  rw [if_neg (fun e => h e.symm)]
/-- A row of n elements of two cells: the cells are xs. -/
def RowAt (w : World) (v : Value) (n : Nat) (xs : List Value) : Prop :=
  xs.length = n * 2 ∧ ((v = .slice none 0 0 ∧ n = 0) ∨ ∃ L c sp, v = .slice (some ⟨L, 0, none⟩) n c ∧ w.heap[L]? = some (.cells (xs ++ sp).toArray 32 (0, 0)) ∧ n ≤ c ∧ c * 2 ≤ xs.length + sp.length)
/-- The row's block is the one that it was, or new. -/
def SameOrNew (w : World) (v v' : Value) : Prop := ∀ k, v'.ownBlock = some k → v.ownBlock = some k ∨ w.heap.size ≤ k

theorem run_copyE (w : World) (ty : TypeId) (g o dLen dCap b so sLen sCap : Nat) (cur src : Array Value) (fz : Nat × Nat) (seg : List Value)
    (hg : w.heap[g]? = some (.cells cur 32 (0, 0))) (hb : w.heap[b]? = some (.cells src 32 fz))
    (hl : seg.length = Nat.min sLen dLen * 2) (hs : ∀ j u, seg[j]? = some u → src[so + j]? = some u) (hfit : o + seg.length ≤ cur.size) (h1 : ∀ u ∈ seg, u.oneCell' = true) :
    (Builtin.copy_ #[23, 23] ty #[.slice (some ⟨g, o, none⟩) dLen dCap, .slice (some ⟨b, so, none⟩) sLen sCap]).run Try.prog w =
      .ok (goInt (Nat.min sLen dLen)) (w.setRow g (cur.toList.take o ++ seg ++ cur.toList.drop (o + seg.length)).toArray) := by
  obtain ⟨i0, hi, hz0, hz1, hz2⟩ := info_parts infoE
  have hsrc : ∀ j u, seg[j]? = some u → w.cell? ((⟨b, so, none⟩ : Addr).add j) = some u := by
    intro j u hj
    rw [Addr.add_lit, Lib.cell_of_heap hb]
    exact hs j u hj
  have hld := run_loadCells_list (P := Try.prog) w ⟨b, so, none⟩ seg hsrc
  have hst := run_storeCells_at Try.prog g o 32 seg 0 cur w hg (by simpa using hfit) h1
  rw [hl] at hld
  simp [Builtin.copy_, run_underlying Try.underlying23, Builtin.lenOf, Builtin.firstCells, sizeOf, typeInfo, hi, hz1, hld, hst]
/-- .. behind a first part. -/
theorem run_copyL (w : World) (ty : TypeId) (g o dLen dCap b so sLen sCap : Nat) (l r : List Value) (src : Array Value) (fz : Nat × Nat) (seg : List Value) (ho : o = l.length)
    (hg : w.heap[g]? = some (.cells (l ++ r).toArray 32 (0, 0))) (hb : w.heap[b]? = some (.cells src 32 fz))
    (hl : seg.length = Nat.min sLen dLen * 2) (hs : ∀ j u, seg[j]? = some u → src[so + j]? = some u) (hfit : seg.length ≤ r.length) (h1 : ∀ u ∈ seg, u.oneCell' = true) :
    (Builtin.copy_ #[23, 23] ty #[.slice (some ⟨g, o, none⟩) dLen dCap, .slice (some ⟨b, so, none⟩) sLen sCap]).run Try.prog w =
      .ok (goInt (Nat.min sLen dLen)) (w.setRow g (l ++ seg ++ r.drop seg.length).toArray) := by
  subst ho
  rw [run_copyE w ty g l.length dLen dCap b so sLen sCap _ src fz seg hg hb hl hs (by rw [List.size_toArray, List.length_append]; omega) h1, List.toList_toArray, List.take_left', List.drop_append, List.drop_eq_nil_of_le (by omega), Nat.add_sub_cancel_left, List.nil_append]
  rfl
theorem setRow_frame (w : World) (g : Nat) (cs : Array Value) : w.grownBy (w.setRow g cs) (some g) :=
  ⟨rfl, rfl, rfl, by show w.heap.size ≤ (w.heap.modify g _).size; rw [Array.size_modify]; exact Nat.le_refl _, fun k _ hk => setRow_other w g k cs (fun e => hk (by rw [e]))⟩
theorem zeroCellsE (n : Nat) : (Builtin.zeroCells (Value.agg #[.int .i64 0, .slice none 0 0]).cells n).size = n * 2 := by
  rw [size_zeroCells]
  rfl
theorem zeroCellsE_one (n : Nat) : ∀ u ∈ (Builtin.zeroCells (Value.agg #[.int .i64 0, .slice none 0 0]).cells n).toList, u.oneCell' = true := by
  intro u hu
  obtain ⟨j, hj, e⟩ := List.mem_iff_getElem.1 hu
  rw [← e]
  simp only [Builtin.zeroCells, Array.getElem_toList, Array.getElem_map, Array.getElem_range]
  have h2 : (Value.agg #[.int .i64 0, .slice none 0 0]).cells = #[.int .i64 0, .slice none 0 0] := rfl
  rw [h2]
  have h3 : j % (#[Value.int .i64 0, .slice none 0 0] : Array Value).size = 0 ∨ j % (#[Value.int .i64 0, .slice none 0 0] : Array Value).size = 1 := by
    show j % 2 = 0 ∨ j % 2 = 1
    omega
  rcases h3 with h3 | h3 <;> rw [h3] <;> rfl
theorem run_clearE (w : World) (ty : TypeId) (g o n c : Nat) (cur : Array Value) (hg : w.heap[g]? = some (.cells cur 32 (0, 0))) (hfit : o + n * 2 ≤ cur.size) :
    ∃ zs : List Value, zs.length = n * 2 ∧ (Builtin.clear_ #[23] ty #[.slice (some ⟨g, o, none⟩) n c]).run Try.prog w =
      .ok (.tuple #[]) (w.setRow g (cur.toList.take o ++ zs ++ cur.toList.drop (o + zs.length)).toArray) := by
  obtain ⟨i0, hi, hz0, hz1, hz2⟩ := info_parts infoE
  refine ⟨(Builtin.zeroCells (Value.agg #[.int .i64 0, .slice none 0 0]).cells n).toList, by rw [Array.length_toList, zeroCellsE], ?_⟩
  have hst := run_storeCells_at Try.prog g o 32 (Builtin.zeroCells (Value.agg #[.int .i64 0, .slice none 0 0]).cells n).toList 0 cur w hg (by rw [Array.length_toList, zeroCellsE]; simpa using hfit) (zeroCellsE_one n)
  cases n with
  | zero =>
    have e : (Builtin.zeroCells (Value.agg #[.int .i64 0, .slice none 0 0]).cells 0).toList = [] := List.eq_nil_of_length_eq_zero (by rw [Array.length_toList, zeroCellsE])
    rw [e]
    simp only [List.append_nil, List.length_nil, Nat.add_zero, List.take_append_drop, Array.toArray_toList]
    rw [setRow_self w g cur _ _ hg]
    simp [Builtin.clear_, run_underlying Try.underlying23]
  | succ m => simp [Builtin.clear_, run_underlying Try.underlying23, zeroValue, typeInfo, hi, hz0, hst]
/-- append(s, x) at a row. -/
theorem run_appendE (w : World) (ty : TypeId) (v : Value) (n : Nat) (xs : List Value) (V cV : Nat) (a b : Value) (fz : Nat × Nat) (h : RowAt w v n xs) (hV : w.heap[V]? = some (.cells #[a, b] 32 fz)) (ha : a.oneCell' = true) (hb : b.oneCell' = true) (hn : n ≤ 1000000) (h1 : ∀ u ∈ xs, u.oneCell' = true) :
    ∃ v' w', (Builtin.append_ #[23, 23] ty #[v, .slice (some ⟨V, 0, none⟩) 1 cV]).run Try.prog w = .ok v' w' ∧ RowAt w' v' (n + 1) (xs ++ [a, b]) ∧ w.grownBy w' v.ownBlock ∧ SameOrNew w v v' := by
  obtain ⟨i0, hi, hz0, hz1, hz2⟩ := info_parts infoE
  obtain ⟨hxl, h2⟩ := h
  have hcell : ∀ j u, [a, b][j]? = some u → w.cell? ((⟨V, 0, none⟩ : Addr).add j) = some u := by
    intro j u hj
    rw [Addr.add_lit, Lib.cell_of_heap hV, Nat.zero_add]
    simpa using hj
  have hone : ∀ u ∈ [a, b], u.oneCell' = true := by
    intro u hu
    simp only [List.mem_cons, List.not_mem_nil, or_false] at hu
    rcases hu with rfl | rfl
    · exact ha
    · exact hb
  have hsrc : Src Try.prog i0.size 23 (.slice (some ⟨V, 0, none⟩) 1 cV) 1 [a, b] w := by
    rw [hz1]
    exact Src.ofSlice w Try.underlying23 ⟨V, 0, none⟩ 1 cV [a, b] rfl hcell hone
  have hgrow : ∀ (base : Option Addr) (c : Nat), c < n + 1 → (Builtin.firstCells i0.size n (.slice base n c)).run Try.prog w.drew = .ok xs.toArray w.drew → ∀ row : Option Nat,
      ∃ v' w', (Builtin.append_ #[23, 23] ty #[.slice base n c, .slice (some ⟨V, 0, none⟩) 1 cV]).run Try.prog w = .ok v' w' ∧ RowAt w' v' (n + 1) (xs ++ [a, b]) ∧ w.grownBy w' row ∧ ∀ k, v'.ownBlock = some k → w.heap.size ≤ k := by
    intro base c hc hold row
    have hr := run_append_grow_src w 23 23 ty 32 i0 _ Try.underlying23 hi hz0 base n c xs hold _ 1 [a, b] hsrc (by omega) (by omega) (by rw [hz2]; exact growslice_fits hc (by omega))
    obtain ⟨zs, hza, hzl⟩ : ∃ zs : List Value, zs.toArray = Builtin.zeroCells (Value.agg #[.int .i64 0, .slice none 0 0]).cells (grownCap w (n + 1) c 32 - (n + 1)) ∧ zs.length = (grownCap w (n + 1) c 32 - (n + 1)) * 2 :=
      ⟨_, Array.toArray_toList, by rw [Array.length_toList, zeroCellsE]⟩
    rw [← hza] at hr
    have hge := grownCap_ge w (n + 1) c 32
    have hnew := heap_alloc_new w.drew (.cells ((xs ++ [a, b]).toArray ++ zs.toArray) 32)
    rw [show (xs ++ [a, b]).toArray ++ zs.toArray = (xs ++ [a, b] ++ zs).toArray by apply Array.ext'; simp] at hnew hr
    have hlen : (xs ++ [a, b]).length = (n + 1) * 2 := by
      rw [List.length_append, hxl]
      show n * 2 + 2 = _
      omega
    have hrow : RowAt (w.drew.alloc (.cells (xs ++ [a, b] ++ zs).toArray 32)) (.slice (some ⟨w.heap.size, 0, none⟩) (n + 1) (grownCap w (n + 1) c 32)) (n + 1) (xs ++ [a, b]) :=
      ⟨hlen, .inr ⟨w.heap.size, grownCap w (n + 1) c 32, zs, rfl, hnew, hge, by rw [hlen, hzl]; omega⟩⟩
    refine ⟨_, _, hr, hrow, ⟨rfl, rfl, rfl, by simp, fun k hk _ => heap_alloc_old w.drew _ hk⟩, ?_⟩
    intro k hk
    simp only [Value.ownBlock, Option.some.injEq] at hk
    omega
  rcases h2 with ⟨rfl, rfl⟩ | ⟨L, c, sp, rfl, hL, hnc, hc⟩
  · obtain rfl : xs = [] := List.eq_nil_of_length_eq_zero (by omega)
    obtain ⟨v', w', q1, q2, q3, q4⟩ := hgrow none 0 (by omega) (run_firstCells_none w.drew i0.size 0 0 0) none
    exact ⟨v', w', q1, q2, q3, fun k hk => .inr (q4 k hk)⟩
  · by_cases hroom : n + 1 ≤ c
    · have hr := run_append_room (P := Try.prog) w 23 ty 32 i0 Try.underlying23 hi L n c _ hL ⟨V, 0, none⟩ 1 cV [a, b] (by rw [hz1]; rfl) hcell hone hroom (by rw [hz1]; simp; omega)
      refine ⟨_, _, hr, ⟨by simp [hxl]; omega, .inr ⟨L, c, sp.drop 2, rfl, ?_, hroom, ?_⟩⟩, setRow_frame _ _ _, fun k hk => .inl hk⟩
      · rw [setRow_heap w L _ _ _ _ hL, hz1]
        congr 3
        rw [List.toList_toArray, ← hxl, List.take_left', List.drop_append]
        · simp
        · rfl
      · simp only [List.length_append, List.length_cons, List.length_nil, List.length_drop]
        omega
    · have hlt := (Array.getElem?_eq_some_iff.1 hL).1
      obtain ⟨v', w', q1, q2, q3, q4⟩ := hgrow (some ⟨L, 0, none⟩) c (by omega) (by
        rw [hz1]
        refine run_firstCells_some w.drew 2 n _ n c xs hxl fun j u hj => ?_
        rw [Addr.add_lit, Nat.zero_add]
        have e : w.drew.heap[L]? = some (.cells (xs ++ sp).toArray 32 (0, 0)) := hL
        rw [Lib.cell_of_heap e]
        simp only [List.getElem?_toArray]
        rw [List.getElem?_append_left (List.getElem?_eq_some_iff.1 hj).1]
        exact hj) (some L)
      exact ⟨v', w', q1, q2, q3, fun k hk => .inr (q4 k hk)⟩
end Go.Proofs.Ytbnkiefchbcfgaa.U
/- slices.Insert of one piece, wherever. -/
set_option linter.unusedVariables false
set_option linter.unusedSimpArgs false
namespace Go.Proofs.Ytbnkiefchbcfgaa.U
open Go.RowKit Go.Proofs Go.Lib Go.Proofs.YtbnkiefchbcfgaaW.PrintWords

set_option maxHeartbeats 4000000 in
set_option maxRecDepth 1000000 in
theorem Insert_last (v : Value) (n : Nat) (xs : List Value) (V : Nat) (a b : Value) (w : World) (h : RowAt w v n xs) (hV : w.heap[V]? = some (.cells #[a, b] 32 (0, 0))) (ha : a.oneCell' = true) (hb' : b.oneCell' = true) (hn : n ≤ 1000000) (h1 : ∀ u ∈ xs, u.oneCell' = true) :
    Calls Try.prog 55 #[v, .int .i64 n, .slice (some ⟨V, 0, none⟩) 1 1] w fun e w' => ∃ v', e = .returned v' ∧ RowAt w' v' (n + 1) (xs ++ [a, b]) ∧ w.grownBy w' v.ownBlock ∧ SameOrNew w v v' := by
  obtain ⟨v', w', hr, r1, r2, r3⟩ := run_appendE w 23 v n xs V 1 a b (0, 0) h hV ha hb' hn h1
  have hsl : ∃ A c, v = .slice A n c ∧ (A = none → c = 0) ∧ n ≤ c := by
    rcases h.2 with ⟨rfl, h0⟩ | ⟨g, cap, sp, rfl, _, hc, _⟩
    · exact ⟨none, 0, by rw [h0], fun _ => rfl, by omega⟩
    · exact ⟨_, cap, rfl, fun h => (by cases h), hc⟩
  obtain ⟨A, c, rfl, hAc, hnc⟩ := hsl
  have d1 : (n : Int) ≤ (c : Int) := by omega
  have HRES := Lib.hid (And.intro r1 (And.intro r2 r3))
  have HR := Lib.hid hr
  clear h hV r1 r2 r3 hr
  go_enter Try.func55, Try.ntmps55
  go_wp2_with (at_builtin; refine Lib.wpList_append_run _ rfl _ _ _ _ rfl _ _ rfl rfl _ _ HR.out ?_)
  all_goals
    go_ret
    cases A <;> exact ⟨_, rfl, HRES.out⟩
/-- A row's cells behind a copy into it. -/
theorem splice (xs sp seg : List Value) (o : Nat) (h : o + seg.length ≤ xs.length + sp.length) :
    ((xs ++ sp).toArray.toList.take o ++ seg ++ (xs ++ sp).toArray.toList.drop (o + seg.length)).length = xs.length + sp.length := by
  simp only [List.length_append, List.length_take, List.length_drop, List.toList_toArray]
  omega
theorem insert_eq (xs sp : List Value) (a b : Value) (i n : Nat) (hxl : xs.length = n * 2) (hi : i < n) (hsp : 2 ≤ sp.length) :
    ((xs ++ sp).toArray.toList.take ((i + 1) * 2) ++ xs.drop (i * 2) ++ (xs ++ sp).toArray.toList.drop ((i + 1) * 2 + (xs.drop (i * 2)).length)).toArray.toList.take (i * 2) ++ [a, b] ++
      ((xs ++ sp).toArray.toList.take ((i + 1) * 2) ++ xs.drop (i * 2) ++ (xs ++ sp).toArray.toList.drop ((i + 1) * 2 + (xs.drop (i * 2)).length)).toArray.toList.drop (i * 2 + [a, b].length) =
    xs.take (i * 2) ++ [a, b] ++ xs.drop (i * 2) ++ sp.drop 2 := by
  have t1 : ((xs ++ sp).take ((i + 1) * 2)).length = (i + 1) * 2 := by rw [List.length_take, List.length_append]; omega
  have hdl : (xs.drop (i * 2)).length = (n - i) * 2 := by rw [List.length_drop, hxl]; omega
  have e1 : ((xs ++ sp).take ((i + 1) * 2) ++ xs.drop (i * 2) ++ (xs ++ sp).drop ((i + 1) * 2 + (xs.drop (i * 2)).length)).take (i * 2) = xs.take (i * 2) := by
    rw [List.append_assoc, List.take_append_of_le_length (by rw [t1]; omega), List.take_take, Nat.min_eq_left (by omega), List.take_append_of_le_length (by omega)]
  have e2 : ((xs ++ sp).take ((i + 1) * 2) ++ xs.drop (i * 2) ++ (xs ++ sp).drop ((i + 1) * 2 + (xs.drop (i * 2)).length)).drop (i * 2 + 2) = xs.drop (i * 2) ++ sp.drop 2 := by
    rw [List.append_assoc, List.drop_append, t1, show i * 2 + 2 - (i + 1) * 2 = 0 by omega, List.drop_zero, List.drop_eq_nil_of_le (by rw [t1]; omega), List.nil_append, hdl, List.drop_append, hxl, show (i + 1) * 2 + (n - i) * 2 - n * 2 = 2 by omega, show xs.drop ((i + 1) * 2 + (n - i) * 2) = [] from List.drop_eq_nil_of_le (by omega), List.nil_append]
  simp only [List.toList_toArray, List.length_cons, List.length_nil]
  rw [e1, show i * 2 + (0 + 1 + 1) = i * 2 + 2 from rfl, e2, ← List.append_assoc]
set_option maxHeartbeats 4000000 in
set_option maxRecDepth 1000000 in
theorem Insert_room (L n c i : Nat) (xs sp : List Value) (V : Nat) (a b : Value) (w : World) (hL : w.heap[L]? = some (.cells (xs ++ sp).toArray 32 (0, 0))) (hxl : xs.length = n * 2) (hnc : n + 1 ≤ c) (hc : c * 2 ≤ xs.length + sp.length) (hV : w.heap[V]? = some (.cells #[a, b] 32 (0, 0))) (hVL : V ≠ L) (ha : a.oneCell' = true) (hb' : b.oneCell' = true) (hn : n ≤ 1000000) (hi : i < n) (h1 : ∀ u ∈ xs, u.oneCell' = true) :
    Calls Try.prog 55 #[.slice (some ⟨L, 0, none⟩) n c, .int .i64 i, .slice (some ⟨V, 0, none⟩) 1 1] w fun e w' => e = .returned (.slice (some ⟨L, 0, none⟩) (n + 1) c) ∧ RowAt w' (.slice (some ⟨L, 0, none⟩) (n + 1) c) (n + 1) (xs.take (i * 2) ++ [a, b] ++ xs.drop (i * 2)) ∧ w.grownBy w' (some L) := by
  have hsz : ∀ w, (Go.sizeOf 32).run Try.prog w = .ok 2 w := by
    obtain ⟨i0, hi, hz0, hz1, hz2⟩ := info_parts infoE
    intro w
    simp [sizeOf, typeInfo, hi, hz1]
  have hk0 : (xs ++ sp).toArray.size ≠ 0 := by
    rw [List.size_toArray, List.length_append]
    omega
  have hov : ∀ lb cb, (callFunc 56 #[.slice (some ⟨V, 0, none⟩) 1 1, .slice (some ⟨L, (i + 1) * 2, none⟩) lb cb]).run Try.prog w = .ok (.value (.bool false)) w := fun lb cb => by
    rw [run_callFunc_extern Try.func56 (by kernel_rfl) (by kernel_rfl) (by kernel_rfl) (e := Extern.SlicesOverlaps.overlaps #[23, 23] #[4]) (by kernel_rfl),
      Lib.run_overlaps_apart w 23 4 32 Try.underlying23 2 hsz ⟨V, 0, none⟩ ⟨L, (i + 1) * 2, none⟩ 1 1 lb cb hVL 32 32 2 (xs ++ sp).toArray.size (by simp [World.shape?, hV]) (by simp [World.shape?, hL]) hk0 (Lib.frozen_of_heap hV 0) (Lib.frozen_of_heap hV 2)]
    rfl
  have hdl : (xs.drop (i * 2)).length = (n - i) * 2 := by rw [List.length_drop, hxl]; omega
  have hcp1 := run_copyE w.drew 3 L ((i + 1) * 2) (n + 1 - (i + 1)) (c - (i + 1)) L (i * 2) (n + 1 - i) (c - i) _ _ (0, 0) (xs.drop (i * 2)) hL hL (by rw [hdl, show Nat.min (n + 1 - i) (n + 1 - (i + 1)) = min (n + 1 - i) (n + 1 - (i + 1)) from rfl]; omega)
    (fun j u hj => by
      rw [List.getElem?_drop] at hj
      rw [List.getElem?_toArray, List.getElem?_append_left (List.getElem?_eq_some_iff.1 hj).1]
      exact hj) (by rw [hdl, List.size_toArray, List.length_append]; omega) (fun u hu => h1 u (List.mem_of_mem_drop hu))
  have hl1 := splice xs sp (xs.drop (i * 2)) ((i + 1) * 2) (by rw [hdl]; omega)
  obtain ⟨arr1, harr1⟩ : ∃ arr1, (xs ++ sp).toArray.toList.take ((i + 1) * 2) ++ xs.drop (i * 2) ++ (xs ++ sp).toArray.toList.drop ((i + 1) * 2 + (xs.drop (i * 2)).length) = arr1 := ⟨_, rfl⟩
  rw [harr1] at hcp1 hl1
  have hh1 := setRow_heap w.drew L _ arr1.toArray _ _ hL
  have hg1 := setRow_frame w.drew L arr1.toArray
  obtain ⟨w1, hw1⟩ : ∃ w1, w.drew.setRow L arr1.toArray = w1 := ⟨_, rfl⟩
  rw [hw1] at hcp1 hh1 hg1
  have hV1 : w1.heap[V]? = some (.cells #[a, b] 32 (0, 0)) := (hg1.block V (Array.getElem?_eq_some_iff.1 hV).1 (by simpa using hVL)).trans hV
  have hab : ∀ u ∈ [a, b], u.oneCell' = true := by
    intro u hu
    simp only [List.mem_cons, List.not_mem_nil, or_false] at hu
    rcases hu with rfl | rfl
    · exact ha
    · exact hb'
  have hcp2 := run_copyE w1 3 L (i * 2) (n + 1 - i) (c - i) V 0 1 1 _ _ (0, 0) [a, b] hh1 hV1 (by rw [show Nat.min 1 (n + 1 - i) = min 1 (n + 1 - i) from rfl]; simp; omega) (fun j u hj => by rw [Nat.zero_add]; simpa using hj) (by rw [List.size_toArray, hl1]; simp; omega) hab
  have hh2 := setRow_heap w1 L _ (arr1.toArray.toList.take (i * 2) ++ [a, b] ++ arr1.toArray.toList.drop (i * 2 + [a, b].length)).toArray _ _ hh1
  have hg2 := setRow_frame w1 L (arr1.toArray.toList.take (i * 2) ++ [a, b] ++ arr1.toArray.toList.drop (i * 2 + [a, b].length)).toArray
  have hfin : arr1.toArray.toList.take (i * 2) ++ [a, b] ++ arr1.toArray.toList.drop (i * 2 + [a, b].length) = (xs.take (i * 2) ++ [a, b] ++ xs.drop (i * 2)) ++ sp.drop 2 := by
    rw [← harr1]
    exact insert_eq xs sp a b i n hxl hi (by omega)
  rw [hfin] at hcp2 hh2 hg2
  obtain ⟨w2, hw2⟩ : ∃ w2, w1.setRow L (xs.take (i * 2) ++ [a, b] ++ xs.drop (i * 2) ++ sp.drop 2).toArray = w2 := ⟨_, rfl⟩
  rw [hw2] at hcp2 hh2 hg2
  have HRES : Hid (RowAt w2 (.slice (some ⟨L, 0, none⟩) (n + 1) c) (n + 1) (xs.take (i * 2) ++ [a, b] ++ xs.drop (i * 2)) ∧ w.grownBy w2 (some L)) := by
    refine Lib.hid ⟨⟨?_, .inr ⟨L, c, sp.drop 2, rfl, hh2, hnc, ?_⟩⟩, ?_⟩
    · simp only [List.length_append, List.length_take, hdl, List.length_cons, List.length_nil]
      omega
    · simp only [List.length_append, List.length_take, hdl, List.length_cons, List.length_nil, List.length_drop]
      omega
    · exact ⟨hg2.os.trans hg1.os, hg2.tape.trans hg1.tape, hg2.output.trans hg1.output, Nat.le_trans hg1.size hg2.size, fun k hk hne => (hg2.block k (Nat.lt_of_lt_of_le hk hg1.size) hne).trans (hg1.block k hk hne)⟩
  have HOV := Lib.hid hov
  have HCP1 := Lib.hid hcp1
  have HCP2 := Lib.hid hcp2
  have i0 : (i : Int) ≤ (n : Int) := by omega
  have i1 : (n : Int) ≤ (c : Int) := by omega
  have i2 : (n : Int) + 1 ≤ (c : Int) := by omega
  have i3 : ¬ (c = i) := by omega
  have i4 : ¬ (c = i + 1) := by omega
  have i5 : ((i : Int) == (n : Int)) = false := by simp; omega
  have i6 : ¬ (i = n) := by omega
  have i7 : (i : Int) + 1 ≤ (n : Int) + 1 := by omega
  have i8 : (i : Int) ≤ (n : Int) + 1 := by omega
  have i9 : (0 : Int) ≤ (i : Int) + 1 := by omega
  have mixed : Try.prog.follows .mixedOrders = true := by kernel_rfl
  have w1e : IntKind.i64.wrap ((i : Int) + 1) = (i : Int) + 1 := wrap_small _ (by omega) (by omega)
  have e1 : ((i : Int) + 1).toNat = i + 1 := by omega
  have e2 : ((n : Int) + 1).toNat = n + 1 := by omega
  clear hL hV hh1 hh2 hg1 hg2 hV1 hcp1 hcp2 hfin harr1 hl1 hw1 hw2 h1 hab hdl hk0 hsz hov hc
  go_enter Try.func55, Try.ntmps55
  go_wp2_with (simp only [HOV.out])
  go_region_law_o (refine step_copy_runI rfl _ _ 23 23 rfl _ _ (by simp [Act.eval, Act.put]) (by simp [Act.eval, Act.put]) HCP1.out ?_)
  go_wp2_with (simp only [HCP2.out])
  go_ret
  exact ⟨rfl, HRES.out⟩
set_option maxHeartbeats 4000000 in
set_option maxRecDepth 1000000 in
theorem Insert_grow (L n c i : Nat) (xs sp : List Value) (V : Nat) (a b : Value) (w : World) (hL : w.heap[L]? = some (.cells (xs ++ sp).toArray 32 (0, 0))) (hxl : xs.length = n * 2) (hnc : n ≤ c) (hcn : c < n + 1) (hV : w.heap[V]? = some (.cells #[a, b] 32 (0, 0))) (ha : a.oneCell' = true) (hb' : b.oneCell' = true) (hn : n ≤ 1000000) (hi : i < n) (h1 : ∀ u ∈ xs, u.oneCell' = true) :
    Calls Try.prog 55 #[.slice (some ⟨L, 0, none⟩) n c, .int .i64 i, .slice (some ⟨V, 0, none⟩) 1 1] w fun e w' => ∃ c', e = .returned (.slice (some ⟨w.heap.size, 0, none⟩) (n + 1) c') ∧ RowAt w' (.slice (some ⟨w.heap.size, 0, none⟩) (n + 1) c') (n + 1) (xs.take (i * 2) ++ [a, b] ++ xs.drop (i * 2)) ∧ w.grownBy w' none := by
  obtain ⟨i0, hi0, hz0, hz1, hz2⟩ := info_parts infoE
  have hlt := (Array.getElem?_eq_some_iff.1 hL).1
  have hVlt := (Array.getElem?_eq_some_iff.1 hV).1
  have hold : (Builtin.firstCells i0.size i (.slice (some ⟨L, 0, none⟩) i c)).run Try.prog w.drew = .ok (xs.take (i * 2)).toArray w.drew := by
    rw [hz1]
    refine run_firstCells_some w.drew 2 i _ i c _ (by rw [List.length_take]; omega) fun j u hj => ?_
    rw [Addr.add_lit, Nat.zero_add]
    have e : w.drew.heap[L]? = some (.cells (xs ++ sp).toArray 32 (0, 0)) := hL
    rw [Lib.cell_of_heap e]
    rw [List.getElem?_take] at hj
    split at hj
    · rw [List.getElem?_toArray, List.getElem?_append_left (by omega)]
      exact hj
    · cases hj
  have hk : (n : Int) + 1 - (i : Int) = ((n + 1 - i : Nat) : Int) := by omega
  have hr := run_append_grow_zeros w 23 3 23 32 i0 _ .i64 .i64 Try.underlying23 Try.underlying3 hi0 hz0 (some ⟨L, 0, none⟩) i c _ hold (n + 1 - i) (by omega) (by omega) (by omega) (by omega) (by rw [hz2]; omega) (by rw [hz2]; exact growslice_fits (by omega) (by omega))
  rw [← hk, show i + (n + 1 - i) = n + 1 by omega] at hr
  have hge := grownCap_ge w (n + 1) c 32
  generalize grownCap w (n + 1) c 32 = c' at hr hge
  obtain ⟨zs, hza, hzl⟩ : ∃ zs : List Value, zs.toArray = Builtin.zeroCells (Value.agg #[.int .i64 0, .slice none 0 0]).cells (n + 1 - i) ++ Builtin.zeroCells (Value.agg #[.int .i64 0, .slice none 0 0]).cells (c' - (n + 1)) ∧ zs.length = (n + 1 - i) * 2 + (c' - (n + 1)) * 2 :=
    ⟨_, Array.toArray_toList, by rw [Array.length_toList, Array.size_append, zeroCellsE, zeroCellsE]⟩
  rw [Array.append_assoc, ← hza, show (xs.take (i * 2)).toArray ++ zs.toArray = (xs.take (i * 2) ++ zs).toArray by apply Array.ext'; simp] at hr
  have hh1 := heap_alloc_new w.drew (.cells (xs.take (i * 2) ++ zs).toArray 32)
  have hL1 : (w.drew.alloc (.cells (xs.take (i * 2) ++ zs).toArray 32)).heap[L]? = some (.cells (xs ++ sp).toArray 32 (0, 0)) := (heap_alloc_old w.drew _ hlt).trans hL
  have hV1 : (w.drew.alloc (.cells (xs.take (i * 2) ++ zs).toArray 32)).heap[V]? = some (.cells #[a, b] 32 (0, 0)) := (heap_alloc_old w.drew _ hVlt).trans hV
  have hg1 : w.grownBy (w.drew.alloc (.cells (xs.take (i * 2) ++ zs).toArray 32)) none := ⟨rfl, rfl, rfl, by simp, fun k hk _ => heap_alloc_old w.drew _ hk⟩
  obtain ⟨w1, hw1⟩ : ∃ w1, w.drew.alloc (.cells (xs.take (i * 2) ++ zs).toArray 32) = w1 := ⟨_, rfl⟩
  rw [hw1] at hr hh1 hL1 hV1 hg1
  have hg0 : w.drew.heap.size = w.heap.size := rfl
  rw [hg0] at hh1
  have htl : (xs.take (i * 2)).length = i * 2 := by rw [List.length_take]; omega
  have hab : ∀ u ∈ [a, b], u.oneCell' = true := by
    intro u hu
    simp only [List.mem_cons, List.not_mem_nil, or_false] at hu
    rcases hu with rfl | rfl
    · exact ha
    · exact hb'
  have hcp1 := run_copyL w1 3 w.heap.size (i * 2) (n + 1 - i) (c' - i) V 0 1 1 _ zs _ (0, 0) [a, b] htl.symm hh1 hV1 (by rw [show Nat.min 1 (n + 1 - i) = min 1 (n + 1 - i) from rfl]; simp; omega) (fun j u hj => by rw [Nat.zero_add]; simpa using hj) (by rw [hzl]; simp; omega) hab
  have hh2 := setRow_heap w1 w.heap.size _ (xs.take (i * 2) ++ [a, b] ++ zs.drop [a, b].length).toArray _ _ hh1
  have hg2 := setRow_frame w1 w.heap.size (xs.take (i * 2) ++ [a, b] ++ zs.drop [a, b].length).toArray
  have hL2 : (w1.setRow w.heap.size (xs.take (i * 2) ++ [a, b] ++ zs.drop [a, b].length).toArray).heap[L]? = some (.cells (xs ++ sp).toArray 32 (0, 0)) := (hg2.block L (Nat.lt_of_lt_of_le hlt hg1.size) (by simp; omega)).trans hL1
  obtain ⟨w2, hw2⟩ : ∃ w2, w1.setRow w.heap.size (xs.take (i * 2) ++ [a, b] ++ zs.drop [a, b].length).toArray = w2 := ⟨_, rfl⟩
  rw [hw2] at hcp1 hh2 hg2 hL2
  have hdl : (xs.drop (i * 2)).length = (n - i) * 2 := by rw [List.length_drop, hxl]; omega
  have hh2' : w2.drew.heap[w.heap.size]? = some (.cells (xs.take (i * 2) ++ [a, b] ++ zs.drop [a, b].length).toArray 32 (0, 0)) := hh2
  have hcp2 := run_copyL w2.drew 3 w.heap.size ((i + 1) * 2) (n + 1 - (i + 1)) (c' - (i + 1)) L (i * 2) (n - i) (c - i) _ _ _ (0, 0) (xs.drop (i * 2)) (by rw [List.length_append, htl]; show _ = i * 2 + 2; omega) hh2' hL2 (by rw [hdl, show Nat.min (n - i) (n + 1 - (i + 1)) = min (n - i) (n + 1 - (i + 1)) from rfl]; omega)
    (fun j u hj => by
      rw [List.getElem?_drop] at hj
      rw [List.getElem?_toArray, List.getElem?_append_left (List.getElem?_eq_some_iff.1 hj).1]
      exact hj) (by rw [hdl, List.length_drop, hzl]; simp; omega) (fun u hu => h1 u (List.mem_of_mem_drop hu))
  have hh3 := setRow_heap w2.drew w.heap.size _ (xs.take (i * 2) ++ [a, b] ++ xs.drop (i * 2) ++ (zs.drop [a, b].length).drop (xs.drop (i * 2)).length).toArray _ _ hh2'
  have hg3 := setRow_frame w2.drew w.heap.size (xs.take (i * 2) ++ [a, b] ++ xs.drop (i * 2) ++ (zs.drop [a, b].length).drop (xs.drop (i * 2)).length).toArray
  obtain ⟨w3, hw3⟩ : ∃ w3, w2.drew.setRow w.heap.size (xs.take (i * 2) ++ [a, b] ++ xs.drop (i * 2) ++ (zs.drop [a, b].length).drop (xs.drop (i * 2)).length).toArray = w3 := ⟨_, rfl⟩
  rw [hw3] at hcp2 hh3 hg3
  have HRES : Hid (RowAt w3 (.slice (some ⟨w.heap.size, 0, none⟩) (n + 1) c') (n + 1) (xs.take (i * 2) ++ [a, b] ++ xs.drop (i * 2)) ∧ w.grownBy w3 none) := by
    refine Lib.hid ⟨⟨?_, .inr ⟨w.heap.size, c', _, rfl, hh3, hge, ?_⟩⟩, ?_⟩
    · simp only [List.length_append, htl, hdl, List.length_cons, List.length_nil]
      omega
    · simp only [List.length_append, htl, hdl, List.length_cons, List.length_nil, List.length_drop, hzl]
      omega
    · exact ⟨(hg3.os.trans hg2.os).trans hg1.os, (hg3.tape.trans hg2.tape).trans hg1.tape, (hg3.output.trans hg2.output).trans hg1.output, Nat.le_trans hg1.size (Nat.le_trans hg2.size hg3.size), fun k hk hne => by
        rw [hg3.block k (Nat.lt_of_lt_of_le hk (Nat.le_trans hg1.size hg2.size)) (by simp; omega)]
        exact (hg2.block k (Nat.lt_of_lt_of_le hk hg1.size) (by simp; omega)).trans (hg1.block k hk hne)⟩
  have HR := Lib.hid hr
  have HCP1 := Lib.hid hcp1
  have HCP2 := Lib.hid hcp2
  have i0 : (i : Int) ≤ (n : Int) := by omega
  have i1 : (n : Int) ≤ (c : Int) := by omega
  have i2 : ¬ (n : Int) + 1 ≤ (c : Int) := by omega
  have i2' : (i : Int) ≤ (c : Int) := by omega
  have i2'' : (n : Int) + 1 ≤ (c' : Int) := by omega
  have i3 : ¬ (c = i) := by omega
  have i3' : ¬ (c' = i) := by omega
  have i4 : ¬ (c' = i + 1) := by omega
  have i5 : ((i : Int) == (n : Int)) = false := by simp; omega
  have i6 : ¬ (i = n) := by omega
  have i7 : (i : Int) + 1 ≤ (n : Int) + 1 := by omega
  have i8 : (i : Int) ≤ (n : Int) + 1 := by omega
  have i9 : (0 : Int) ≤ (i : Int) + 1 := by omega
  have mixed : Try.prog.follows .mixedOrders = true := by kernel_rfl
  have w1e : IntKind.i64.wrap ((i : Int) + 1) = (i : Int) + 1 := wrap_small _ (by omega) (by omega)
  have e1 : ((i : Int) + 1).toNat = i + 1 := by omega
  have e2 : ((n : Int) + 1).toNat = n + 1 := by omega
  clear hL hV hh1 hh2 hh2' hh3 hg1 hg2 hg3 hL1 hL2 hV1 hcp1 hcp2 hr hw1 hw2 hw3 h1 hab hdl hold hza hzl hz0 hz1 hz2 hi0 hg0 htl hk hlt hVlt
  go_enter Try.func55, Try.ntmps55
  go_wp2_with (at_builtin; refine Lib.wpList_append_run _ rfl _ _ _ _ rfl _ _ rfl rfl _ _ HR.out ?_)
  go_wp2_with (simp only [HCP1.out])
  go_region_law_o (refine step_copy_runI rfl _ _ 23 23 rfl _ _ (by simp [Act.eval, Act.put]) (by simp [Act.eval, Act.put]) HCP2.out ?_)
  go_wp2
  go_ret
  exact ⟨_, rfl, HRES.out⟩
end Go.Proofs.Ytbnkiefchbcfgaa.U
/- slices.Insert; slices.Replace of nothing by one piece. -/
set_option linter.unusedVariables false
set_option linter.unusedSimpArgs false
namespace Go.Proofs.Ytbnkiefchbcfgaa.U
open Go.RowKit Go.Proofs Go.Lib Go.Proofs.YtbnkiefchbcfgaaW.PrintWords

theorem Insert_calls (v : Value) (n i : Nat) (xs : List Value) (V : Nat) (a b : Value) (w : World) (h : RowAt w v n xs) (hV : w.heap[V]? = some (.cells #[a, b] 32 (0, 0))) (hVL : v.ownBlock ≠ some V) (ha : a.oneCell' = true) (hb' : b.oneCell' = true) (hn : n ≤ 1000000) (hi : i ≤ n) (h1 : ∀ u ∈ xs, u.oneCell' = true) :
    Calls Try.prog 55 #[v, .int .i64 i, .slice (some ⟨V, 0, none⟩) 1 1] w fun e w' => ∃ v', e = .returned v' ∧ RowAt w' v' (n + 1) (xs.take (i * 2) ++ [a, b] ++ xs.drop (i * 2)) ∧ w.grownBy w' v.ownBlock ∧ SameOrNew w v v' := by
  rcases Nat.lt_or_ge i n with hlt | hge
  · rcases h.2 with ⟨_, h0⟩ | ⟨L, c, sp, rfl, hL, hnc, hc⟩
    · omega
    · have hVL2 : V ≠ L := fun e => hVL (by rw [e]; rfl)
      by_cases hr : n + 1 ≤ c
      · refine (Insert_room L n c i xs sp V a b w hL h.1 hr hc hV hVL2 ha hb' hn hlt h1).mono ?_
        rintro e w' ⟨rfl, r1, r2⟩
        exact ⟨_, rfl, r1, r2, fun k hk => .inl hk⟩
      · refine (Insert_grow L n c i xs sp V a b w hL h.1 hnc (by omega) hV ha hb' hn hlt h1).mono ?_
        rintro e w' ⟨c', rfl, r1, r2⟩
        refine ⟨_, rfl, r1, ⟨r2.os, r2.tape, r2.output, r2.size, fun k hk _ => r2.block k hk (by simp)⟩, fun k hk => .inr ?_⟩
        simp only [Value.ownBlock, Option.some.injEq] at hk
        omega
  · obtain rfl : i = n := by omega
    rw [List.take_of_length_le (by rw [h.1]; omega), List.drop_eq_nil_of_le (by rw [h.1]; omega), List.append_nil]
    exact Insert_last v i xs V a b w h hV ha hb' hn h1
set_option maxHeartbeats 4000000 in
set_option maxRecDepth 1000000 in
theorem Replace_none (v : Value) (n i : Nat) (xs : List Value) (V : Nat) (a b : Value) (w : World) (h : RowAt w v n xs) (hV : w.heap[V]? = some (.cells #[a, b] 32 (0, 0))) (hVL : v.ownBlock ≠ some V) (ha : a.oneCell' = true) (hb' : b.oneCell' = true) (hn : n ≤ 1000000) (hi : i ≤ n) (h1 : ∀ u ∈ xs, u.oneCell' = true) :
    Calls Try.prog 50 #[v, .int .i64 i, .int .i64 i, .slice (some ⟨V, 0, none⟩) 1 1] w fun e w' => ∃ v', e = .returned v' ∧ RowAt w' v' (n + 1) (xs.take (i * 2) ++ [a, b] ++ xs.drop (i * 2)) ∧ w.grownBy w' v.ownBlock ∧ SameOrNew w v v' := by
  have cI := Insert_calls v n i xs V a b w h hV hVL ha hb' hn hi h1
  have hsl : ∃ A c, v = .slice A n c ∧ (A = none → c = 0) ∧ n ≤ c := by
    rcases h.2 with ⟨rfl, h0⟩ | ⟨g, cap, cur, rfl, _, hc, _⟩
    · exact ⟨none, 0, by rw [h0], fun _ => rfl, by omega⟩
    · exact ⟨_, cap, rfl, fun h => (by cases h), hc⟩
  obtain ⟨A, c, rfl, hAc, hnc⟩ := hsl
  have d3 : (i : Int) ≤ (c : Int) := by omega
  have CI := Lib.hid cI
  clear cI h hV hVL h1
  by_cases hci : c = i
  · obtain rfl : n = i := by omega
    subst hci
    clear d3 hnc hi
    have d3 : (c : Int) ≤ (c : Int) := by omega
    go_enter Try.func50, Try.ntmps50
    go_wp2_with fail
    refine (CI.out).mono ?_
    rintro e w2 ⟨v', rfl, ho⟩
    go_wp2
    go_ret
    cases A <;> exact ⟨_, rfl, ho⟩
  · have hci2 : ¬ i = c := fun h => hci h.symm
    have d1 : (i : Int) ≤ (n : Int) := by omega
    clear hnc hi
    go_enter Try.func50, Try.ntmps50
    go_wp2_with fail
    refine (CI.out).mono ?_
    rintro e w2 ⟨v', rfl, ho⟩
    go_wp2
    go_ret
    cases A <;> exact ⟨_, rfl, ho⟩
end Go.Proofs.Ytbnkiefchbcfgaa.U
/- slices.Replace of a part by one piece. -/
set_option linter.unusedVariables false
set_option linter.unusedSimpArgs false
namespace Go.Proofs.Ytbnkiefchbcfgaa.U
open Go.RowKit Go.Proofs Go.Lib Go.Proofs.YtbnkiefchbcfgaaW.PrintWords

set_option maxHeartbeats 4000000 in
set_option maxRecDepth 1000000 in
theorem Replace_tail (L n c i : Nat) (xs sp : List Value) (V : Nat) (a b : Value) (w : World) (hL : w.heap[L]? = some (.cells (xs ++ sp).toArray 32 (0, 0))) (hxl : xs.length = n * 2) (hnc : n ≤ c) (hc : c * 2 ≤ xs.length + sp.length) (hV : w.heap[V]? = some (.cells #[a, b] 32 (0, 0))) (ha : a.oneCell' = true) (hb' : b.oneCell' = true) (hn : n ≤ 1000000) (hi : i < n) :
    Calls Try.prog 50 #[.slice (some ⟨L, 0, none⟩) n c, .int .i64 i, .int .i64 n, .slice (some ⟨V, 0, none⟩) 1 1] w fun e w' => e = .returned (.slice (some ⟨L, 0, none⟩) (i + 1) c) ∧ RowAt w' (.slice (some ⟨L, 0, none⟩) (i + 1) c) (i + 1) (xs.take (i * 2) ++ [a, b]) ∧ w.grownBy w' (some L) := by
  obtain ⟨i0, hi0, hz0, hz1, hz2⟩ := info_parts infoE
  have hcell : ∀ j u, [a, b][j]? = some u → w.cell? ((⟨V, 0, none⟩ : Addr).add j) = some u := by
    intro j u hj
    rw [Addr.add_lit, Lib.cell_of_heap hV, Nat.zero_add]
    simpa using hj
  have hone : ∀ u ∈ [a, b], u.oneCell' = true := by
    intro u hu
    simp only [List.mem_cons, List.not_mem_nil, or_false] at hu
    rcases hu with rfl | rfl
    · exact ha
    · exact hb'
  have hr := run_append_room (P := Try.prog) w 23 23 32 i0 Try.underlying23 hi0 L i c _ hL ⟨V, 0, none⟩ 1 1 [a, b] (by rw [hz1]; rfl) hcell hone (by omega) (by rw [hz1]; simp; omega)
  rw [hz1, List.toList_toArray, List.take_append_of_le_length (by omega)] at hr
  have htl : (xs.take (i * 2)).length = i * 2 := by rw [List.length_take]; omega
  obtain ⟨r1, hr1⟩ : ∃ r1, (xs ++ sp).drop (i * 2 + [a, b].length) = r1 := ⟨_, rfl⟩
  have hrl : r1.length = xs.length + sp.length - (i * 2 + 2) := by rw [← hr1, List.length_drop, List.length_append]; rfl
  rw [hr1] at hr
  have hh1 := setRow_heap w L _ (xs.take (i * 2) ++ [a, b] ++ r1).toArray _ _ hL
  have hg1 := setRow_frame w L (xs.take (i * 2) ++ [a, b] ++ r1).toArray
  obtain ⟨w1, hw1⟩ : ∃ w1, w.setRow L (xs.take (i * 2) ++ [a, b] ++ r1).toArray = w1 := ⟨_, rfl⟩
  rw [hw1] at hr hh1 hg1
  have hyl : (xs.take (i * 2) ++ [a, b]).length = (i + 1) * 2 := by rw [List.length_append, htl]; show i * 2 + 2 = _; omega
  obtain ⟨zs, hzl, hcl⟩ := run_clearE w1 0 L ((i + 1) * 2) (n - (i + 1)) (c - (i + 1)) _ hh1 (by rw [List.size_toArray, List.length_append, hyl]; omega)
  rw [List.toList_toArray, ← hyl, List.take_left', List.append_assoc (xs.take (i * 2) ++ [a, b]), hyl] at hcl
  · obtain ⟨r2, hr2⟩ : ∃ r2, zs ++ (xs.take (i * 2) ++ [a, b] ++ r1).drop ((i + 1) * 2 + zs.length) = r2 := ⟨_, rfl⟩
    have hr2l : r2.length = r1.length := by
      rw [← hr2, List.length_append, List.length_drop, List.length_append, hyl, hzl]
      omega
    rw [hr2] at hcl
    have hh2 := setRow_heap w1 L _ (xs.take (i * 2) ++ [a, b] ++ r2).toArray _ _ hh1
    have hg2 := setRow_frame w1 L (xs.take (i * 2) ++ [a, b] ++ r2).toArray
    obtain ⟨w2, hw2⟩ : ∃ w2, w1.setRow L (xs.take (i * 2) ++ [a, b] ++ r2).toArray = w2 := ⟨_, rfl⟩
    rw [hw2] at hcl hh2 hg2
    have R1 : Hid (RowAt w1 (.slice (some ⟨L, 0, none⟩) (i + 1) c) (i + 1) (xs.take (i * 2) ++ [a, b]) ∧ w.grownBy w1 (some L)) := Lib.hid ⟨⟨hyl, .inr ⟨L, c, r1, rfl, hh1, by omega, by rw [hyl, hrl]; omega⟩⟩, hg1⟩
    have R2 : Hid (RowAt w2 (.slice (some ⟨L, 0, none⟩) (i + 1) c) (i + 1) (xs.take (i * 2) ++ [a, b]) ∧ w.grownBy w2 (some L)) := Lib.hid ⟨⟨hyl, .inr ⟨L, c, r2, rfl, hh2, by omega, by rw [hyl, hr2l, hrl]; omega⟩⟩,
      ⟨hg2.os.trans hg1.os, hg2.tape.trans hg1.tape, hg2.output.trans hg1.output, Nat.le_trans hg1.size hg2.size, fun k hk hne => (hg2.block k (Nat.lt_of_lt_of_le hk hg1.size) hne).trans (hg1.block k hk hne)⟩⟩
    have HR := Lib.hid hr
    have HCL := Lib.hid hcl
    have j0 : (i : Int) ≤ (n : Int) := by omega
    have j1 : (n : Int) ≤ (c : Int) := by omega
    have j2 : (i : Int) ≤ (c : Int) := by omega
    have j3 : ¬ (c = i) := by omega
    have j5 : ((i : Int) == (n : Int)) = false := by simp; omega
    have j6 : ¬ (i = n) := by omega
    have j7 : (i : Int) + 1 ≤ (n : Int) := by omega
    have j8 : (i : Int) + 1 ≤ (c : Int) := by omega
    clear hL hV hh1 hh2 hg1 hg2 hr hcl hw1 hw2 hr1 hr2 hone hcell hz0 hz1 hz2 hi0 hrl hyl htl hzl hr2l hc
    by_cases hin : i + 1 < n
    · have j9 : ¬ (c = i + 1) := by omega
      have j10 : decide ((i : Int) + 1 < (n : Int)) = true := by simp; omega
      have e1 : ((i : Int) + 1).toNat = i + 1 := by omega
      go_enter Try.func50, Try.ntmps50
      go_wp2_with (at_builtin; refine Lib.wpList_append_run _ rfl _ _ _ _ rfl _ _ rfl rfl _ _ HR.out ?_)
      go_wp2_with (simp only [HCL.out])
      go_ret
      exact ⟨rfl, R2.out⟩
    · have j10 : decide ((i : Int) + 1 < (n : Int)) = false := by simp; omega
      go_enter Try.func50, Try.ntmps50
      go_wp2_with (at_builtin; refine Lib.wpList_append_run _ rfl _ _ _ _ rfl _ _ rfl rfl _ _ HR.out ?_)
      go_ret
      exact ⟨rfl, R1.out⟩
  · rfl
set_option maxHeartbeats 4000000 in
set_option maxRecDepth 1000000 in
theorem Replace_mid (L n c i j m : Nat) (xs sp : List Value) (V : Nat) (a b : Value) (w : World) (hL : w.heap[L]? = some (.cells (xs ++ sp).toArray 32 (0, 0))) (hxl : xs.length = n * 2) (hnc : n ≤ c) (hc : c * 2 ≤ xs.length + sp.length) (hV : w.heap[V]? = some (.cells #[a, b] 32 (0, 0))) (ha : a.oneCell' = true) (hb' : b.oneCell' = true) (hn : n ≤ 1000000) (hi : i < j) (hj : j < n) (hm : m = i + 1 + (n - j)) (hVL : V ≠ L) (h1 : ∀ u ∈ xs, u.oneCell' = true) :
    Calls Try.prog 50 #[.slice (some ⟨L, 0, none⟩) n c, .int .i64 i, .int .i64 j, .slice (some ⟨V, 0, none⟩) 1 1] w fun e w' => e = .returned (.slice (some ⟨L, 0, none⟩) m c) ∧ RowAt w' (.slice (some ⟨L, 0, none⟩) m c) m (xs.take (i * 2) ++ [a, b] ++ xs.drop (j * 2)) ∧ w.grownBy w' (some L) := by
  have hab : ∀ u ∈ [a, b], u.oneCell' = true := by
    intro u hu
    simp only [List.mem_cons, List.not_mem_nil, or_false] at hu
    rcases hu with rfl | rfl
    · exact ha
    · exact hb'
  have htl : (xs.take (i * 2)).length = i * 2 := by rw [List.length_take]; omega
  have hdl : (xs.drop (j * 2)).length = (n - j) * 2 := by rw [List.length_drop, hxl]; omega
  have hsplit : xs ++ sp = xs.take (i * 2) ++ (xs.drop (i * 2) ++ sp) := by rw [← List.append_assoc, List.take_append_drop]
  have hL' : w.drew.heap[L]? = some (.cells (xs ++ sp).toArray 32 (0, 0)) := hL
  have hVd : w.drew.heap[V]? = some (.cells #[a, b] 32 (0, 0)) := hV
  have hLd := hL'
  rw [hsplit] at hL'
  obtain ⟨r1, hr1⟩ : ∃ r1, (xs.drop (i * 2) ++ sp).drop [a, b].length = r1 := ⟨_, rfl⟩
  have hr1l : r1.length = xs.length + sp.length - (i * 2 + 2) := by
    rw [← hr1, List.length_drop, List.length_append, List.length_drop]
    simp only [List.length_cons, List.length_nil]
    omega
  have hcp1 := run_copyL w.drew 3 L (i * 2) (m - i) (c - i) V 0 1 1 _ _ _ (0, 0) [a, b] htl.symm hL' hVd (by rw [show Nat.min 1 (m - i) = min 1 (m - i) from rfl]; simp; omega) (fun j u hj => by rw [Nat.zero_add]; simpa using hj) (by rw [List.length_append, List.length_drop]; simp; omega) hab
  rw [hr1] at hcp1
  have hh1 := setRow_heap w.drew L _ (xs.take (i * 2) ++ [a, b] ++ r1).toArray _ _ hLd
  have hg1 := setRow_frame w.drew L (xs.take (i * 2) ++ [a, b] ++ r1).toArray
  obtain ⟨w1, hw1⟩ : ∃ w1, w.drew.setRow L (xs.take (i * 2) ++ [a, b] ++ r1).toArray = w1 := ⟨_, rfl⟩
  rw [hw1] at hcp1 hh1 hg1
  have hyl : (xs.take (i * 2) ++ [a, b]).length = (i + 1) * 2 := by rw [List.length_append, htl]; show i * 2 + 2 = _; omega
  have hsrc : ∀ k u, (xs.drop (j * 2))[k]? = some u → (xs.take (i * 2) ++ [a, b] ++ r1).toArray[j * 2 + k]? = some u := by
    intro k u hk
    rw [List.getElem?_toArray, List.getElem?_append_right (by rw [hyl]; omega), hyl, ← hr1, List.getElem?_drop]
    have hk' := (List.getElem?_eq_some_iff.1 hk).1
    rw [hdl] at hk'
    rw [List.getElem?_append_left (by rw [List.length_drop]; simp only [List.length_cons, List.length_nil]; omega), List.getElem?_drop]
    rw [List.getElem?_drop] at hk
    rw [← hk]
    congr 1
    simp only [List.length_cons, List.length_nil]
    omega
  have hh1' : w1.drew.heap[L]? = some (.cells (xs.take (i * 2) ++ [a, b] ++ r1).toArray 32 (0, 0)) := hh1
  have hcp2 := run_copyL w1.drew 3 L ((i + 1) * 2) (m - (i + 1)) (c - (i + 1)) L (j * 2) (n - j) (c - j) _ _ _ (0, 0) (xs.drop (j * 2)) hyl.symm hh1' hh1' (by rw [hdl, show Nat.min (n - j) (m - (i + 1)) = min (n - j) (m - (i + 1)) from rfl]; omega) hsrc (by rw [hdl, hr1l]; omega) (fun u hu => h1 u (List.mem_of_mem_drop hu))
  obtain ⟨r2, hr2⟩ : ∃ r2, r1.drop (xs.drop (j * 2)).length = r2 := ⟨_, rfl⟩
  have hr2l : r2.length = r1.length - (n - j) * 2 := by rw [← hr2, List.length_drop, hdl]
  rw [hr2] at hcp2
  have hh2 := setRow_heap w1.drew L _ (xs.take (i * 2) ++ [a, b] ++ xs.drop (j * 2) ++ r2).toArray _ _ hh1'
  have hg2 := setRow_frame w1.drew L (xs.take (i * 2) ++ [a, b] ++ xs.drop (j * 2) ++ r2).toArray
  obtain ⟨w2, hw2⟩ : ∃ w2, w1.drew.setRow L (xs.take (i * 2) ++ [a, b] ++ xs.drop (j * 2) ++ r2).toArray = w2 := ⟨_, rfl⟩
  rw [hw2] at hcp2 hh2 hg2
  have hzl0 : (xs.take (i * 2) ++ [a, b] ++ xs.drop (j * 2)).length = m * 2 := by rw [List.length_append, hyl, hdl]; omega
  have hg12 : w.grownBy w2 (some L) := ⟨hg2.os.trans hg1.os, hg2.tape.trans hg1.tape, hg2.output.trans hg1.output, Nat.le_trans hg1.size hg2.size, fun k hk hne => (hg2.block k (Nat.lt_of_lt_of_le hk hg1.size) hne).trans (hg1.block k hk hne)⟩
  have R2 : Hid (RowAt w2 (.slice (some ⟨L, 0, none⟩) m c) m (xs.take (i * 2) ++ [a, b] ++ xs.drop (j * 2)) ∧ w.grownBy w2 (some L)) := Lib.hid ⟨⟨hzl0, .inr ⟨L, c, r2, rfl, hh2, by omega, by rw [hzl0, hr2l, hr1l]; omega⟩⟩, hg12⟩
  obtain ⟨zs, hzl, hcl⟩ := run_clearE w2 0 L (m * 2) (n - m) (c - m) _ hh2 (by rw [List.size_toArray, List.length_append, hzl0, hr2l, hr1l]; omega)
  rw [List.toList_toArray, ← hzl0, List.take_left' rfl, List.append_assoc (xs.take (i * 2) ++ [a, b] ++ xs.drop (j * 2)), hzl0] at hcl
  obtain ⟨r3, hr3⟩ : ∃ r3, zs ++ (xs.take (i * 2) ++ [a, b] ++ xs.drop (j * 2) ++ r2).drop (m * 2 + zs.length) = r3 := ⟨_, rfl⟩
  have hr3l : r3.length = r2.length := by
    rw [← hr3, List.length_append, List.length_drop, List.length_append, hzl0, hzl, hr2l, hr1l]
    omega
  rw [hr3] at hcl
  have hh3 := setRow_heap w2 L _ (xs.take (i * 2) ++ [a, b] ++ xs.drop (j * 2) ++ r3).toArray _ _ hh2
  have hg3 := setRow_frame w2 L (xs.take (i * 2) ++ [a, b] ++ xs.drop (j * 2) ++ r3).toArray
  obtain ⟨w3, hw3⟩ : ∃ w3, w2.setRow L (xs.take (i * 2) ++ [a, b] ++ xs.drop (j * 2) ++ r3).toArray = w3 := ⟨_, rfl⟩
  rw [hw3] at hcl hh3 hg3
  have R3 : Hid (RowAt w3 (.slice (some ⟨L, 0, none⟩) m c) m (xs.take (i * 2) ++ [a, b] ++ xs.drop (j * 2)) ∧ w.grownBy w3 (some L)) := Lib.hid ⟨⟨hzl0, .inr ⟨L, c, r3, rfl, hh3, by omega, by rw [hzl0, hr3l, hr2l, hr1l]; omega⟩⟩,
    ⟨hg3.os.trans hg12.os, hg3.tape.trans hg12.tape, hg3.output.trans hg12.output, Nat.le_trans hg12.size hg3.size, fun k hk hne => (hg3.block k (Nat.lt_of_lt_of_le hk hg12.size) hne).trans (hg12.block k hk hne)⟩⟩
  have HCP1 := Lib.hid hcp1
  have HCP2 := Lib.hid hcp2
  have HCL := Lib.hid hcl
  have hme : (i : Int) + 1 + ((n : Int) - (j : Int)) = (m : Int) := by omega
  have j0 : (i : Int) ≤ (j : Int) := by omega
  have j1 : (j : Int) ≤ (n : Int) := by omega
  have j1' : (j : Int) ≤ (c : Int) := by omega
  have j2 : (i : Int) ≤ (c : Int) := by omega
  have j3 : ¬ (c = i) := by omega
  have j4 : ¬ (c = j) := by omega
  have j5 : ((i : Int) == (j : Int)) = false := by simp; omega
  have j6 : ¬ (i = j) := by omega
  have j5' : ((j : Int) == (n : Int)) = false := by simp; omega
  have j6' : ¬ (j = n) := by omega
  have j7 : (i : Int) + 1 ≤ (m : Int) := by omega
  have j8 : (m : Int) ≤ (c : Int) := by omega
  have j9 : ¬ (c = i + 1) := by omega
  have j10 : (m : Int) ≤ (n : Int) := by omega
  have j11 : decide ((c : Int) < (m : Int)) = false := by simp; omega
  have j12 : (i : Int) + 1 ≤ (j : Int) := by omega
  have j13 : (0 : Int) ≤ (i : Int) + 1 := by omega
  have j14 : (i : Int) ≤ (m : Int) := by omega
  have w2e : IntKind.i64.wrap (m : Int) = (m : Int) := wrap_small _ (by omega) (by omega)
  have hnj : ((n - j : Nat) : Int) = (n : Int) - (j : Int) := by omega
  have e1 : ((i : Int) + 1).toNat = i + 1 := by omega
  have mixed : Try.prog.follows .mixedOrders = true := by kernel_rfl
  have w1e : IntKind.i64.wrap ((i : Int) + 1) = (i : Int) + 1 := wrap_small _ (by omega) (by omega)
  clear hL hL' hLd hV hVd hh1 hh1' hh2 hh3 hg1 hg2 hg3 hg12 hcp1 hcp2 hcl hw1 hw2 hw3 hr1 hr2 hr3 hab htl hdl hsplit hr1l hr2l hr3l hyl hzl0 hzl hsrc h1 hc hm
  go_enter Try.func50, Try.ntmps50
  go_wp2_with fail
  go_region_held3 (fun _ => True) (exact trivial) (fail)
  go_wp2_with (simp only [HCP1.out])
  go_region_law_o (refine step_copy_runI rfl _ _ 23 23 rfl _ _ (by simp [Act.eval, Act.put]) (by simp [Act.eval, Act.put]) HCP2.out ?_)
  by_cases hcm : c = m
  · have hcl0 : (Builtin.clear_ #[23] 0 #[.slice (some ⟨L, 0, none⟩) (n - m) 0]).run Try.prog w2 = .ok (.tuple #[]) w2 := by
      rw [show n - m = 0 by omega]
      simp [Builtin.clear_, run_underlying Try.underlying23]
    go_wp2_with (simp only [hcl0])
    go_ret
    exact ⟨rfl, R2.out⟩
  · go_wp2_with (simp only [HCL.out])
    go_ret
    exact ⟨rfl, R3.out⟩
theorem Replace_calls (v : Value) (n i j : Nat) (xs : List Value) (V : Nat) (a b : Value) (w : World) (h : RowAt w v n xs) (hV : w.heap[V]? = some (.cells #[a, b] 32 (0, 0))) (hVL : v.ownBlock ≠ some V) (ha : a.oneCell' = true) (hb' : b.oneCell' = true) (hn : n ≤ 1000000) (hij : i ≤ j) (hj : j ≤ n) (h1 : ∀ u ∈ xs, u.oneCell' = true) :
    Calls Try.prog 50 #[v, .int .i64 i, .int .i64 j, .slice (some ⟨V, 0, none⟩) 1 1] w fun e w' => ∃ v', e = .returned v' ∧ RowAt w' v' (i + 1 + (n - j)) (xs.take (i * 2) ++ [a, b] ++ xs.drop (j * 2)) ∧ w.grownBy w' v.ownBlock ∧ SameOrNew w v v' := by
  rcases Nat.eq_or_lt_of_le hij with rfl | hlt
  · rw [show i + 1 + (n - i) = n + 1 by omega]
    exact Replace_none v n i xs V a b w h hV hVL ha hb' hn hj h1
  · rcases h.2 with ⟨_, h0⟩ | ⟨L, c, sp, rfl, hL, hnc, hc⟩
    · omega
    · have hVL2 : V ≠ L := fun e => hVL (by rw [e]; rfl)
      rcases Nat.eq_or_lt_of_le hj with rfl | hjn
      · refine (Replace_tail L j c i xs sp V a b w hL h.1 hnc hc hV ha hb' hn hlt).mono ?_
        rintro e w' ⟨rfl, r1, r2⟩
        rw [List.drop_eq_nil_of_le (by rw [h.1]; exact Nat.le_refl _), List.append_nil, Nat.sub_self, Nat.add_zero]
        exact ⟨_, rfl, r1, r2, fun k hk => .inl hk⟩
      · refine (Replace_mid L n c i j _ xs sp V a b w hL h.1 hnc hc hV ha hb' hn hlt hjn rfl hVL2 h1).mono ?_
        rintro e w' ⟨rfl, r1, r2⟩
        exact ⟨_, rfl, r1, r2, fun k hk => .inl hk⟩
end Go.Proofs.Ytbnkiefchbcfgaa.U
/- cache: what a call on a cache may change; rows of pieces beside it. -/
set_option linter.unusedVariables false
set_option linter.unusedSimpArgs false
namespace Go.Proofs.Ytbnkiefchbcfgaa.U
open Go.RowKit Go.Proofs Go.Lib Go.Proofs.YtbnkiefchbcfgaaW.PrintWords
variable {N : Nat → Prop}

/-- What a call on a cache may change: its own blocks, and new ones. -/
structure FrC (w w' : World) (C : Nat) (lA oA : Option Addr) : Prop where
  os : w'.os = w.os
  tape : w'.tape = w.tape
  output : w'.output = w.output
  size : w.heap.size ≤ w'.heap.size
  block : ∀ k : Nat, k < w.heap.size → k ≠ C → (∀ o, lA ≠ some ⟨k, o, none⟩) → (∀ o, oA ≠ some ⟨k, o, none⟩) → w'.heap[k]? = w.heap[k]?
/-- The list's block is the one that it was, or new. -/
def SameL (w : World) (lA lA' : Option Addr) : Prop := ∀ L o, lA' = some ⟨L, o, none⟩ → (∃ o', lA = some ⟨L, o', none⟩) ∨ w.heap.size ≤ L
theorem SameL.refl (w : World) (lA : Option Addr) : SameL w lA lA := fun _ o h => .inl ⟨o, h⟩
theorem FrC.refl (w : World) (C : Nat) (lA oA : Option Addr) : FrC w w C lA oA := ⟨rfl, rfl, rfl, Nat.le_refl _, fun _ _ _ _ _ => rfl⟩
theorem FrC.of_below {w w' : World} (h : Below w.heap.size w w') (C : Nat) (lA oA : Option Addr) : FrC w w' C lA oA := ⟨h.os, h.tape, h.output, h.size, fun k hk _ _ _ => h.block k hk⟩
theorem FrC.below {w w' : World} {C : Nat} {lA oA : Option Addr} (h : FrC w w' C lA oA) {B : Nat} {w0 : World} (h0 : Below B w0 w) (hB : B ≤ w0.heap.size) (hC : B ≤ C) (hL : ∀ L o, lA = some ⟨L, o, none⟩ → B ≤ L) (hO : ∀ L o, oA = some ⟨L, o, none⟩ → B ≤ L) : Below B w0 w' :=
  ⟨h.os.trans h0.os, h.tape.trans h0.tape, h.output.trans h0.output, Nat.le_trans h0.size h.size, fun k hk =>
    (h.block k (Nat.lt_of_lt_of_le hk (Nat.le_trans hB h0.size)) (by omega) (fun o e => by have := hL k o e; omega) (fun o e => by have := hO k o e; omega)).trans (h0.block k hk)⟩
theorem FrC.more {w w' : World} {C : Nat} {lA : Option Addr} (h : FrC w w' C lA none) (oA : Option Addr) : FrC w w' C lA oA := ⟨h.os, h.tape, h.output, h.size, fun k hk h1 h2 _ => h.block k hk h1 h2 (fun o e => by cases e)⟩
theorem FrC.grown {w w1 w2 : World} {C : Nat} {lA oA : Option Addr} {row : Option Nat} (h : FrC w w1 C lA oA) (hg : w1.grownBy w2 row) (hr : ∀ k, row = some k → (∃ o, lA = some ⟨k, o, none⟩) ∨ (∃ o, oA = some ⟨k, o, none⟩) ∨ w.heap.size ≤ k) : FrC w w2 C lA oA :=
  ⟨hg.os.trans h.os, hg.tape.trans h.tape, hg.output.trans h.output, Nat.le_trans h.size hg.size, fun k hk h1 h2 h3 =>
    (hg.block k (Nat.lt_of_lt_of_le hk h.size) (fun e => by
      rcases hr k e.symm with ⟨o, h4⟩ | ⟨o, h4⟩ | h4
      · exact h2 o h4
      · exact h3 o h4
      · omega)).trans (h.block k hk h1 h2 h3)⟩
theorem FrC.set {w w1 : World} {C : Nat} {lA oA : Option Addr} (h : FrC w w1 C lA oA) (j : Nat) (v : Value) : FrC w (w1.setCell ⟨C, j, none⟩ v) C lA oA :=
  ⟨h.os, h.tape, h.output, by show w.heap.size ≤ (w1.heap.modify C _).size; rw [Array.size_modify]; exact h.size, fun k hk h1 h2 h3 => (set_other v h1).trans (h.block k hk h1 h2 h3)⟩
/-- Two in a row: the blocks of the second are those of the first, or new. -/
theorem FrC.trans {w w1 w2 : World} {C : Nat} {lA oA lA1 oA1 : Option Addr} (h : FrC w w1 C lA oA) (h' : FrC w1 w2 C lA1 oA1) (hl : SameL w lA lA1) (ho : SameL w oA oA1) : FrC w w2 C lA oA :=
  ⟨h'.os.trans h.os, h'.tape.trans h.tape, h'.output.trans h.output, Nat.le_trans h.size h'.size, fun k hk h1 h2 h3 =>
    (h'.block k (Nat.lt_of_lt_of_le hk h.size) h1 (fun o e => by
      rcases hl k o e with ⟨o', h4⟩ | h4
      · exact h2 o' h4
      · omega) (fun o e => by
      rcases ho k o e with ⟨o', h4⟩ | h4
      · exact h3 o' h4
      · omega)).trans (h.block k hk h1 h2 h3)⟩
theorem SameL.trans {w w1 : World} {a b c : Option Addr} (h : SameL w a b) (h' : SameL w1 b c) (hs : w.heap.size ≤ w1.heap.size) : SameL w a c := fun L o e => by
  rcases h' L o e with ⟨o', h1⟩ | h1
  · exact h L o' h1
  · exact .inr (Nat.le_trans hs h1)
theorem RowAt.below {w w' : World} {v : Value} {n : Nat} {l : List Value} (h : RowAt w v n l) (hb : Below w.heap.size w w') : RowAt w' v n l := by
  refine ⟨h.1, ?_⟩
  rcases h.2 with h2 | ⟨L, c, sp, e, hL, r⟩
  · exact .inl h2
  · exact .inr ⟨L, c, sp, e, kept_below hb _ _ hL, r⟩
theorem RowAt.slice {w : World} {v : Value} {n : Nat} {l : List Value} (h : RowAt w v n l) : ∃ A c, v = .slice A n c := by
  rcases h.2 with ⟨rfl, rfl⟩ | ⟨L, c, sp, rfl, _⟩
  · exact ⟨none, 0, rfl⟩
  · exact ⟨_, c, rfl⟩
theorem own_slice {lA : Option Addr} {n c k : Nat} (h : (Value.slice lA n c).ownBlock = some k) (hl : lA = none ∨ ∃ L, lA = some ⟨L, 0, none⟩) : lA = some ⟨k, 0, none⟩ := by
  rcases hl with rfl | ⟨L, rfl⟩
  · cases h
  · simp only [Value.ownBlock, Option.some.injEq] at h
    rw [h]
theorem ok_len : ∀ (xs : List Ext) (k m : Nat), Ok k xs → (∀ x ∈ xs, en x ≤ m) → k ≤ m → xs.length + k ≤ m + 1 := by
  intro xs
  induction xs with
  | nil => intro k m _ _ h; simp; omega
  | cons x t ih =>
    intro k m h hm hk
    have e : en x = x.1 + x.2.length := rfl
    have h1 := h.1
    have h2 := h.2.1
    have h3 := hm x List.mem_cons_self
    rw [List.length_cons]
    rcases Nat.lt_or_ge m (en x + 1) with h4 | h4
    · have ht : t = [] := by
        cases t with
        | nil => rfl
        | cons y u =>
          have h5 := h.2.2.1
          have h6 := h.2.2.2.1
          have h7 := hm y (List.mem_cons_of_mem _ List.mem_cons_self)
          have e7 : en y = y.1 + y.2.length := rfl
          omega
      rw [ht]
      simp
      omega
    · have := ih _ m h.2.2 (fun y hy => hm y (List.mem_cons_of_mem _ hy)) h4
      omega
theorem ok_len' {xs : List Ext} {m : Nat} (h : Ok 0 xs) (hm : ∀ x ∈ xs, en x ≤ m) : xs.length ≤ m + 1 := ok_len xs 0 m h hm (Nat.zero_le _)
/-- Writing, in the program's own steps. -/
theorem wr_from (p : Nat) (b : List Int) : ∀ xs : List Ext, wr p b xs = xs.take (frN p xs) ++ mg (p + b.length) (p, b) (xs.drop (frN p xs)) := by
  intro xs
  induction xs with
  | nil => rfl
  | cons o t ih =>
    rw [wr, frN]
    by_cases h : en o < p
    · rw [if_pos h, if_pos h, List.take_succ_cons, List.drop_succ_cons, List.cons_append, ih]
    · rw [if_neg h, if_neg h]
      rfl
/-! ### Rows -/
theorem own_below {w w' : World} {base : Nat} {e : TypeId} {size n : Nat} {v : Value} {xs : List Value} (h : w.ownsRow base e size v n xs) (hb : Below w.heap.size w w') : w'.ownsRow base e size v n xs :=
  h.kept (row := none) ⟨hb.os, hb.tape, hb.output, hb.size, fun k hk _ => hb.block k hk⟩ (Classical.em _)
theorem own_mono {w : World} {base base' : Nat} {e : TypeId} {size n : Nat} {v : Value} {xs : List Value} (h : w.ownsRow base e size v n xs) (hb : base' ≤ base) : w.ownsRow base' e size v n xs := by
  refine ⟨h.1, ?_⟩
  rcases h.2 with h2 | ⟨g, cap, cur, hv, hg, r⟩
  · exact .inl h2
  · exact .inr ⟨g, cap, cur, hv, Nat.le_trans hb hg, r⟩
theorem EC.row {w : World} {cs : Array Value} {xs : List Ext} (h : EC w N cs xs) (hc : xs.length * 2 ≤ cs.size) : ∃ l sp : List Value, cs = (l ++ sp).toArray ∧ l.length = xs.length * 2 ∧ EC w N l.toArray xs ∧ ∀ u ∈ l, u.oneCell' = true := by
  refine ⟨cs.toList.take (xs.length * 2), cs.toList.drop (xs.length * 2), by rw [List.take_append_drop], by rw [List.length_take, show cs.toList.length = cs.size from Array.length_toList]; omega, ?_, ?_⟩
  · intro j x hj
    obtain ⟨A, c, h1, h2, h3⟩ := h j x hj
    have hlt := (List.getElem?_eq_some_iff.1 hj).1
    exact ⟨A, c, by rw [List.getElem?_toArray, List.getElem?_take, if_pos (by omega), Array.getElem?_toList]; exact h1, by rw [List.getElem?_toArray, List.getElem?_take, if_pos (by omega), Array.getElem?_toList]; exact h2, h3⟩
  · intro u hu
    obtain ⟨i, hi⟩ := List.mem_iff_getElem?.1 hu
    have hil := (List.getElem?_eq_some_iff.1 hi).1
    rw [List.length_take] at hil
    rw [List.getElem?_take, if_pos (by omega), Array.getElem?_toList] at hi
    have hlt : i / 2 < xs.length := by omega
    obtain ⟨A, c, h1, h2, _⟩ := h (i / 2) xs[i / 2] (List.getElem?_eq_getElem hlt)
    rcases Nat.mod_two_eq_zero_or_one i with h0 | h0
    · rw [show i / 2 * 2 = i by omega, hi] at h1
      injection h1 with h1
      rw [h1]
      rfl
    · rw [show i / 2 * 2 + 1 = i by omega, hi] at h2
      injection h2 with h2
      rw [h2]
      rfl
theorem EC.more {w : World} {l sp : List Value} {xs : List Ext} (h : EC w N l.toArray xs) (hl : l.length = xs.length * 2) : EC w N (l ++ sp).toArray xs := by
  intro j x hj
  obtain ⟨A, c, h1, h2, h3⟩ := h j x hj
  have hlt := (List.getElem?_eq_some_iff.1 hj).1
  rw [List.getElem?_toArray] at h1 h2
  exact ⟨A, c, by rw [List.getElem?_toArray, List.getElem?_append_left (by omega)]; exact h1, by rw [List.getElem?_toArray, List.getElem?_append_left (by omega)]; exact h2, h3⟩
theorem EC.replace {w : World} {l : List Value} {xs : List Ext} (h : EC w N l.toArray xs) (hl : l.length = xs.length * 2) {i j : Nat} (hi : i ≤ j) (hj : j ≤ xs.length) (x : Ext) (A : Option Addr) (c : Nat) (hB : BR w A c x.2) (hA : ∀ g o, A = some ⟨g, o, none⟩ → ¬ N g) :
    EC w N (l.take (i * 2) ++ [Value.int .i64 (x.1 : Int), Value.slice A x.2.length c] ++ l.drop (j * 2)).toArray (xs.take i ++ x :: xs.drop j) := by
  intro k y hk
  have htl : (l.take (i * 2)).length = i * 2 := by rw [List.length_take]; omega
  have hxl : (xs.take i).length = i := by rw [List.length_take]; omega
  have hab : (l.take (i * 2) ++ [Value.int .i64 (x.1 : Int), .slice A x.2.length c]).length = i * 2 + 2 := by rw [List.length_append, htl]; rfl
  rcases Nat.lt_trichotomy k i with h1 | h1 | h1
  · rw [List.getElem?_append_left (by omega), List.getElem?_take, if_pos h1] at hk
    obtain ⟨A', c', q1, q2, q3⟩ := h k y hk
    rw [List.getElem?_toArray] at q1 q2
    refine ⟨A', c', ?_, ?_, q3⟩
    · rw [List.getElem?_toArray, List.append_assoc, List.getElem?_append_left (by omega), List.getElem?_take, if_pos (by omega)]
      exact q1
    · rw [List.getElem?_toArray, List.append_assoc, List.getElem?_append_left (by omega), List.getElem?_take, if_pos (by omega)]
      exact q2
  · subst h1
    rw [List.getElem?_append_right (by omega), hxl, Nat.sub_self, List.getElem?_cons_zero] at hk
    injection hk with hk
    subst hk
    refine ⟨A, c, ?_, ?_, hB, hA⟩
    · rw [List.getElem?_toArray, List.append_assoc, List.getElem?_append_right (by omega), htl, Nat.sub_self]
      rfl
    · rw [List.getElem?_toArray, List.append_assoc, List.getElem?_append_right (by omega), htl, Nat.add_sub_cancel_left]
      rfl
  · rw [List.getElem?_append_right (by omega), hxl, show k - i = (k - i - 1) + 1 by omega, List.getElem?_cons_succ, List.getElem?_drop] at hk
    obtain ⟨A', c', q1, q2, q3⟩ := h _ y hk
    rw [List.getElem?_toArray] at q1 q2
    refine ⟨A', c', ?_, ?_, q3⟩
    · rw [List.getElem?_toArray, List.getElem?_append_right (by omega), hab, List.getElem?_drop, ← q1]
      congr 1
      omega
    · rw [List.getElem?_toArray, List.getElem?_append_right (by omega), hab, List.getElem?_drop, ← q2]
      congr 1
      omega
/-- The row of what is known, as a row. -/
theorem KnownAt.row {w : World} {xs : List Ext} {lA : Option Addr} {c : Nat} (h : KnownAt w N lA c xs) : ∃ l : List Value, RowAt w (.slice lA xs.length c) xs.length l ∧ EC w N l.toArray xs ∧ ∀ u ∈ l, u.oneCell' = true := by
  rcases h with ⟨rfl, rfl, rfl⟩ | ⟨L, cs, rfl, hL, hs, hc, he⟩
  · exact ⟨[], ⟨rfl, .inl ⟨rfl, rfl⟩⟩, fun j x hj => by simp at hj, fun u hu => by cases hu⟩
  · obtain ⟨l, sp, rfl, hl, h1, h2⟩ := he.row (by omega)
    refine ⟨l, ⟨hl, .inr ⟨L, c, sp, rfl, hL, hc, ?_⟩⟩, h1, h2⟩
    rw [List.size_toArray, List.length_append] at hs
    exact hs
theorem BR.of_own' {w : World} {base O n cap : Nat} {bs : List Int} (h : w.ownsRow base 5 1 (.slice (some ⟨O, 0, none⟩) n cap) n (nums .u8 bs)) (h0 : 0 < n) : BR w (some ⟨O, 0, none⟩) cap bs := by
  obtain ⟨O', cap', e, _, hb⟩ := BR.of_own h h0
  injection e with e1 _ e3
  injection e1 with e1
  injection e1 with e1
  subst e1 e3
  exact hb
theorem ne_block {w : World} {g k : Nat} {cs ks : Array Value} {t t' : TypeId} {f f' : Nat × Nat} (h : w.heap[g]? = some (.cells cs t f)) (h' : w.heap[k]? = some (.cells ks t' f')) (hne : t ≠ t') : g ≠ k := by
  rintro rfl
  rw [h] at h'
  injection h' with h'
  injection h' with _ e
  exact hne e
theorem set_grown (w : World) (g j : Nat) (v : Value) : w.grownBy (w.setCell ⟨g, j, none⟩ v) (some g) :=
  ⟨rfl, rfl, rfl, by show w.heap.size ≤ (w.heap.modify g _).size; rw [Array.size_modify]; exact Nat.le_refl _, fun k _ hk => set_other v (fun e => hk (by rw [e]))⟩
theorem BR_row {w : World} {O : Nat} {bs : List Int} {fz : Nat × Nat} (h : w.heap[O]? = some (.cells (nums .u8 bs).toArray 5 fz)) : BR w (some ⟨O, 0, none⟩) bs.length bs := by
  refine ⟨Nat.le_refl _, fun _ => ⟨O, 0, _, fz, rfl, h, fun j b hj => ?_⟩⟩
  rw [Nat.zero_add]
  unfold nums
  rw [List.getElem?_toArray, List.getElem?_map, hj]
  rfl
theorem KnownAt.head {w : World} {xs : List Ext} {lA : Option Addr} {c : Nat} (h : KnownAt w N lA c xs) : lA = none ∨ ∃ L, lA = some ⟨L, 0, none⟩ := by
  rcases h with ⟨h, _⟩ | ⟨L, _, h, _⟩
  · exact .inl h
  · exact .inr ⟨L, h⟩
theorem KnownAt.at_ {w : World} {xs : List Ext} {lA : Option Addr} {c L o : Nat} (h : KnownAt w N lA c xs) (e : lA = some ⟨L, o, none⟩) : o = 0 ∧ L < w.heap.size ∧ ∃ cs, w.heap[L]? = some (.cells cs 32 (0, 0)) := by
  rcases h with ⟨h2, _⟩ | ⟨L', cs, h2, hL, _⟩
  · rw [h2] at e; cases e
  · rw [h2] at e
    injection e with e
    injection e with e e2
    subst e
    exact ⟨e2.symm, (Array.getElem?_eq_some_iff.1 hL).1, cs, hL⟩
theorem OpenAt.at_ {w : World} {os : List Ext} {oA : Option Addr} {c L o : Nat} (h : OpenAt w N oA c os) (e : oA = some ⟨L, o, none⟩) : L < w.heap.size ∧ ∃ cs, w.heap[L]? = some (.cells cs 32 (0, 0)) := by
  rcases h with ⟨h2, _⟩ | ⟨L', k, cs, h2, hL, _⟩
  · rw [h2] at e; cases e
  · rw [h2] at e
    injection e with e
    injection e with e e2
    subst e
    exact ⟨(Array.getElem?_eq_some_iff.1 hL).1, cs, hL⟩
/-- The row of the open ones stands where its block and the bytes stand. -/
theorem OpenAt.kept {w w' : World} {oA : Option Addr} {oc : Nat} {os : List Ext} (h : OpenAt w N oA oc os) (hO : ∀ O o, oA = some ⟨O, o, none⟩ → w'.heap[O]? = w.heap[O]?) (hk : ∀ (g : Nat) (cs : Array Value) (fz : Nat × Nat), w.heap[g]? = some (Obj.cells cs 5 fz) → w'.heap[g]? = some (Obj.cells cs 5 fz)) : OpenAt w' N oA oc os := by
  rcases h with h2 | ⟨L, k, cs, e, hL, hs, hc, he⟩
  · exact .inl h2
  · exact .inr ⟨L, k, cs, e, (hO L _ e).trans hL, hs, hc, he.kept hk⟩
theorem KnownAt.kept {w w' : World} {lA : Option Addr} {c : Nat} {xs : List Ext} (h : KnownAt w N lA c xs) (hL : ∀ L o, lA = some ⟨L, o, none⟩ → w'.heap[L]? = w.heap[L]?) (hk : ∀ (g : Nat) (cs : Array Value) (fz : Nat × Nat), w.heap[g]? = some (Obj.cells cs 5 fz) → w'.heap[g]? = some (Obj.cells cs 5 fz)) : KnownAt w' N lA c xs := by
  rcases h with h2 | ⟨L, cs, e, hh, hs, hc, he⟩
  · exact .inl h2
  · exact .inr ⟨L, cs, e, (hL L _ e).trans hh, hs, hc, he.kept hk⟩
theorem RowAt.known {w : World} {v : Value} {l : List Value} {xs : List Ext} (hr : RowAt w v xs.length l) (he : EC w N l.toArray xs) : ∃ lA c, v = .slice lA xs.length c ∧ KnownAt w N lA c xs := by
  rcases hr.2 with ⟨rfl, h0⟩ | ⟨L, c, sp, rfl, hL, hnc, hc⟩
  · obtain rfl : xs = [] := List.eq_nil_of_length_eq_zero h0
    exact ⟨none, 0, rfl, .inl ⟨rfl, rfl, rfl⟩⟩
  · exact ⟨_, c, rfl, .inr ⟨L, _, rfl, hL, by rw [List.size_toArray, List.length_append]; exact hc, hnc, he.more hr.1⟩⟩
/-- The end of lay. -/
theorem lay_end {w1 wv w5 : World} {C lvl size O2 cap2 fr j nn n5 : Nat} {lA A5 oA : Option Addr} {cl c5 oc : Nat} {x : Ext} {xs ys os : List Ext} {l : List Value} (hd : CacheAt w1 N C lvl size xs os lA cl oA oc) (hb : Below w1.heap.size w1 wv) (hN : ∀ k, N k → k < w1.heap.size)
    (hec : EC w1 N l.toArray xs) (hl : l.length = xs.length * 2) (hall : wv.heap[O2]? = some (.cells (nums .u8 x.2).toArray 5 (0, 0))) (hcap : cap2 = x.2.length) (hO : w1.heap.size ≤ O2)
    (hg : wv.grownBy w5 (Value.slice lA nn cl).ownBlock) (hs : SameOrNew wv (.slice lA nn cl) (.slice A5 n5 c5))
    (hr : RowAt w5 (.slice A5 n5 c5) n5 (l.take (fr * 2) ++ [Value.int .i64 (x.1 : Int), Value.slice (some ⟨O2, 0, none⟩) cap2 cap2] ++ l.drop (j * 2))) (hn5 : n5 = fr + 1 + (nn - j)) (hnn : xs.length = nn) (hfj : fr ≤ j) (hjn : j ≤ nn) (hys : xs.take fr ++ x :: xs.drop j = ys) :
    ∃ c', CacheAt (w5.setCell ⟨C, 3, none⟩ (.slice A5 n5 c5)) N C lvl size ys os A5 c' oA oc ∧ FrC w1 (w5.setCell ⟨C, 3, none⟩ (.slice A5 n5 c5)) C lA none ∧ SameL w1 lA A5 := by
  subst hnn hys hcap
  have hown : ∀ k, (Value.slice lA xs.length cl).ownBlock = some k → lA = some ⟨k, 0, none⟩ := fun k e => own_slice e hd.known.head
  -- what stands
  have hst : ∀ (k : Nat) (ob : Obj), w1.heap[k]? = some ob → lA ≠ some ⟨k, 0, none⟩ → w5.heap[k]? = some ob := fun k ob hh hne => by
    have hlt := (Array.getElem?_eq_some_iff.1 hh).1
    rw [hg.block k (Nat.lt_of_lt_of_le hlt hb.size) (fun e => hne (hown k e.symm)), hb.block k hlt]
    exact hh
  have hnt : ∀ (t : TypeId) (k : Nat) (cs : Array Value) (fz : Nat × Nat), w1.heap[k]? = some (.cells cs t fz) → t ≠ 32 → lA ≠ some ⟨k, 0, none⟩ := fun t k cs fz hh hne e => by
    obtain ⟨_, _, cs', hL⟩ := hd.known.at_ e
    rw [hh] at hL
    injection hL with hL
    injection hL with _ hL _
    exact hne hL
  have hk : ∀ (g : Nat) (cs : Array Value) (fz : Nat × Nat), w1.heap[g]? = some (Obj.cells cs 5 fz) → w5.heap[g]? = some (Obj.cells cs 5 fz) := fun g cs fz hh => hst g _ hh (hnt _ g cs fz hh (by decide))
  have hC5 := hst C _ hd.head (hnt _ C _ _ hd.head (by decide))
  have hO2 : w5.heap[O2]? = some (.cells (nums .u8 x.2).toArray 5 (0, 0)) := by
    rw [hg.block O2 (Array.getElem?_eq_some_iff.1 hall).1 (fun e => by
      obtain ⟨_, h1, _⟩ := hd.known.at_ (hown _ e.symm)
      omega)]
    exact hall
  have he5 := (hec.kept hk).replace hl hfj hjn x (some ⟨O2, 0, none⟩) x.2.length (BR_row hO2) (fun g o e hg => by
    injection e with e
    injection e with e
    have := hN g hg
    omega)
  have hlen : n5 = (xs.take fr ++ x :: xs.drop j).length := by
    rw [List.length_append, List.length_cons, List.length_take, List.length_drop]
    omega
  subst hlen
  obtain ⟨lA', c', e, hkn⟩ := hr.known he5
  injection e with e1 e2 e3
  subst e1 e3
  have hks : ∀ (g : Nat) (cs : Array Value) (fz : Nat × Nat), w5.heap[g]? = some (Obj.cells cs 5 fz) → (w5.setCell ⟨C, 3, none⟩ (.slice A5 (xs.take fr ++ x :: xs.drop j).length c5)).heap[g]? = some (Obj.cells cs 5 fz) := fun g cs fz hh => by
    rw [set_other _ (ne_block hh hC5 (by decide))]
    exact hh
  have hsame : SameL w1 lA A5 := fun L o eL => by
    obtain ⟨e0, _⟩ := hkn.at_ eL
    subst e0
    rcases hs L (by rw [eL]; rfl) with h1 | h1
    · exact .inl ⟨0, hown _ h1⟩
    · exact .inr (Nat.le_trans hb.size h1)
  refine ⟨c5, ⟨?_, ?_, ?_, fun L O o eL eO e => ?_⟩, ?_, hsame⟩
  · rw [set_cell hC5]
    rfl
  · refine hkn.kept (fun L o e => ?_) hks
    obtain ⟨_, _, cs, hL⟩ := hkn.at_ e
    exact set_other _ (ne_block hL hC5 (by decide))
  · refine (hd.opn.kept (fun O o e => ?_) hk).kept (fun O o e => ?_) hks
    · obtain ⟨hlt, cs, hh⟩ := hd.opn.at_ e
      rw [hst O _ hh (fun e2 => hd.apart O O o e2 e rfl), hh]
    · obtain ⟨hlt, cs, hh⟩ := hd.opn.at_ e
      exact set_other _ (ne_block (hst O _ hh (fun e2 => hd.apart O O o e2 e rfl)) hC5 (by decide))
  · subst e
    obtain ⟨hlt, _⟩ := hd.opn.at_ eO
    rcases hsame L 0 eL with ⟨o', h1⟩ | h1
    · obtain ⟨e0, _⟩ := hd.known.at_ h1
      subst e0
      exact hd.apart L L o h1 eO rfl
    · omega
  · exact (((FrC.of_below hb C lA none).grown hg fun k e => .inl ⟨0, hown k e⟩).set 3 _)
end Go.Proofs.Ytbnkiefchbcfgaa.U
/- cache: what lay does, in plain words: the pieces that are touched become one. -/
set_option linter.unusedVariables false
set_option linter.unusedSimpArgs false
namespace Go.Proofs.Ytbnkiefchbcfgaa.U

/-- How many pieces begin at a limit or ahead of it; their least place, their last end. -/
def tkN (lim : Nat) : List Ext → Nat
  | [] => 0
  | x :: t => if x.1 ≤ lim then tkN lim t + 1 else 0
def lowR (lim : Nat) : Nat → List Ext → Nat
  | a, [] => a
  | a, x :: t => if x.1 ≤ lim then lowR lim (min a x.1) t else a
def highR (lim : Nat) : Nat → List Ext → Nat
  | a, [] => a
  | a, x :: t => if x.1 ≤ lim then highR lim (max a (en x)) t else a
/-- Pieces are copied into a row that begins at low. -/
def cpF (low : Nat) : List Int → List Ext → List Int
  | out, [] => out
  | out, x :: t => cpF low (cp out (x.1 - low) x.2) t

theorem tkN_le (lim : Nat) : ∀ xs : List Ext, tkN lim xs ≤ xs.length := by
  intro xs
  induction xs with
  | nil => exact Nat.le_refl _
  | cons x t ih =>
    rw [tkN]
    split
    · rw [List.length_cons]; omega
    · exact Nat.zero_le _
theorem lowR_le (lim : Nat) : ∀ (xs : List Ext) (a : Nat), lowR lim a xs ≤ a := by
  intro xs
  induction xs with
  | nil => intro a; exact Nat.le_refl _
  | cons x t ih =>
    intro a
    rw [lowR]
    split
    · have := ih (min a x.1); omega
    · exact Nat.le_refl _
theorem highR_le (lim : Nat) : ∀ (xs : List Ext) (a : Nat), a ≤ highR lim a xs := by
  intro xs
  induction xs with
  | nil => intro a; exact Nat.le_refl _
  | cons x t ih =>
    intro a
    rw [highR]
    split
    · have := ih (max a (en x)); omega
    · exact Nat.le_refl _
theorem highR_top (lim m : Nat) : ∀ (xs : List Ext) (a : Nat), a ≤ m → (∀ x ∈ xs, en x ≤ m) → highR lim a xs ≤ m := by
  intro xs
  induction xs with
  | nil => intro a h _; exact h
  | cons x t ih =>
    intro a h hx
    rw [highR]
    split
    · exact ih _ (by have := hx x List.mem_cons_self; omega) (fun y hy => hx y (List.mem_cons_of_mem _ hy))
    · exact h
theorem tk_in (lim : Nat) : ∀ (xs : List Ext) (lo hi : Nat), ∀ x ∈ xs.take (tkN lim xs), lowR lim lo xs ≤ x.1 ∧ en x ≤ highR lim hi xs := by
  intro xs
  induction xs with
  | nil => intro lo hi x hx; simp at hx
  | cons y t ih =>
    intro lo hi x hx
    rw [tkN] at hx
    rw [lowR, highR]
    by_cases h : y.1 ≤ lim
    · rw [if_pos h] at hx ⊢
      rw [if_pos h]
      rw [List.take_succ_cons] at hx
      rcases List.mem_cons.1 hx with rfl | hx
      · have h1 := lowR_le lim t (min lo x.1)
        have h2 := highR_le lim t (max hi (en x))
        omega
      · exact ih _ _ x hx
    · rw [if_neg h] at hx
      simp at hx
/-- One piece out of all that are touched. -/
theorem mg_fold (lim : Nat) : ∀ (xs : List Ext) (x : Ext) (k : Nat), Ok k xs → 0 < x.2.length → lim ≤ en x → x.1 ≤ lim → (∀ o ∈ xs, x.1 ≤ en o) →
    ∃ y : Ext, mg lim x xs = y :: xs.drop (tkN lim xs) ∧ y.1 = lowR lim x.1 xs ∧ en y = highR lim (en x) xs ∧ ∀ i, y.1 ≤ i → i < en y → y.2[i - y.1]? = if x.1 ≤ i ∧ i < en x then x.2[i - x.1]? else look (xs.take (tkN lim xs)) i := by
  intro xs
  induction xs with
  | nil => intro x k _ _ _ _ _; exact ⟨x, rfl, rfl, rfl, fun i h1 h2 => by rw [if_pos ⟨h1, h2⟩]⟩
  | cons o t ih =>
    intro x k hok h1 h2 h3 h5
    rw [mg, tkN, lowR, highR]
    by_cases ho : o.1 ≤ lim
    · rw [if_pos ho, if_pos ho, if_pos ho, if_pos ho]
      have hx := h5 o List.mem_cons_self
      have hox : o.1 ≤ en x := by omega
      have hen := merge_en hx hox
      have hat := merge_at x o
      have hlen : 0 < (merge x o).2.length := by
        have e : en (merge x o) = (merge x o).1 + (merge x o).2.length := rfl
        have e2 : en x = x.1 + x.2.length := rfl
        omega
      obtain ⟨y, r1, r2, r3, r4⟩ := ih (merge x o) (en o + 1) hok.2.2 hlen (by omega) (by omega) (fun o' ho' => by
        have := (hok.2.2.mem o' ho').1
        have e : en o' = o'.1 + o'.2.length := rfl
        omega)
      refine ⟨y, by rw [r1, List.drop_succ_cons], by rw [r2, hat], by rw [r3, hen], fun i hi1 hi2 => ?_⟩
      rw [r4 i hi1 hi2, List.take_succ_cons]
      by_cases hi : (merge x o).1 ≤ i ∧ i < en (merge x o)
      · rw [if_pos hi, merge_look hx hox i hi.1 hi.2]
        by_cases hxi : x.1 ≤ i ∧ i < en x
        · rw [if_pos hxi, if_pos hxi]
        · rw [if_neg hxi, if_neg hxi, look_in (by omega) (by omega)]
      · rw [if_neg hi, if_neg (by omega), look_out (by omega)]
    · rw [if_neg ho, if_neg ho, if_neg ho, if_neg ho]
      exact ⟨x, rfl, rfl, rfl, fun i h1 h2 => by rw [if_pos ⟨h1, h2⟩]⟩
theorem cpF_length (low : Nat) : ∀ (T : List Ext) (out : List Int), (∀ x ∈ T, x.1 - low ≤ out.length) → (cpF low out T).length = out.length := by
  intro T
  induction T with
  | nil => intro out _; rfl
  | cons x t ih =>
    intro out h
    have hl := cp_length out (x.1 - low) x.2 (h x List.mem_cons_self)
    rw [cpF, ih _ (fun y hy => by rw [hl]; exact h y (List.mem_cons_of_mem _ hy)), hl]
theorem cpF_get (low : Nat) : ∀ (T : List Ext) (k : Nat) (out : List Int), Ok k T → (∀ x ∈ T, low ≤ x.1 ∧ en x ≤ low + out.length) → ∀ j, j < out.length → (cpF low out T)[j]? = match look T (low + j) with | some b => some b | none => out[j]? := by
  intro T
  induction T with
  | nil => intro k out _ _ j _; rfl
  | cons x t ih =>
    intro k out hok h j hj
    have hx := h x List.mem_cons_self
    have ex : en x = x.1 + x.2.length := rfl
    have hl := cp_length out (x.1 - low) x.2 (by omega)
    rw [cpF, ih _ _ hok.2.2 (fun y hy => by rw [hl]; exact h y (List.mem_cons_of_mem _ hy)) j (by rw [hl]; exact hj), cp_get _ _ _ (by omega) j hj]
    by_cases h1 : x.1 ≤ low + j ∧ low + j < en x
    · rw [look_low t _ _ hok.2.2 (by omega), look_in h1.1 h1.2, if_pos (by omega)]
      obtain ⟨b, hb⟩ := look_some h1.1 h1.2
      rw [show j - (x.1 - low) = low + j - x.1 by omega, hb]
    · rw [look_out h1, if_neg (by omega)]
theorem Ok.drop : ∀ {xs : List Ext} {k : Nat} (j : Nat), Ok k xs → Ok k (xs.drop j) := by
  intro xs
  induction xs with
  | nil => intro k j _; rw [List.drop_nil]; trivial
  | cons x t ih =>
    intro k j h
    cases j with
    | zero => exact h
    | succ j =>
      rw [List.drop_succ_cons]
      exact (ih j h.2.2).anti (by have := h.1; unfold en; omega)
theorem Ok.take : ∀ {xs : List Ext} {k : Nat} (j : Nat), Ok k xs → Ok k (xs.take j) := by
  intro xs
  induction xs with
  | nil => intro k j _; rw [List.take_nil]; trivial
  | cons x t ih =>
    intro k j h
    cases j with
    | zero => trivial
    | succ j =>
      rw [List.take_succ_cons]
      exact ⟨h.1, h.2.1, ih j h.2.2⟩
/-- What lay makes. -/
theorem lay_spec {xs : List Ext} (hok : Ok 0 xs) (p : Nat) (b : List Int) (hb : 0 < b.length) (hmem : ∀ x ∈ xs.drop (frN p xs), p ≤ en x) :
    wr p b xs = xs.take (frN p xs) ++ (lowR (p + b.length) p (xs.drop (frN p xs)), cp (cpF (lowR (p + b.length) p (xs.drop (frN p xs))) (List.replicate (highR (p + b.length) (p + b.length) (xs.drop (frN p xs)) - lowR (p + b.length) p (xs.drop (frN p xs))) 0) ((xs.drop (frN p xs)).take (tkN (p + b.length) (xs.drop (frN p xs))))) (p - lowR (p + b.length) p (xs.drop (frN p xs))) b) :: xs.drop (frN p xs + tkN (p + b.length) (xs.drop (frN p xs))) := by
  rw [wr_from, ← List.drop_drop]
  have hR := hok.drop (frN p xs)
  generalize xs.drop (frN p xs) = R at *
  obtain ⟨y, r1, r2, r3, r4⟩ := mg_fold (p + b.length) R (p, b) 0 hR hb (Nat.le_refl _) (Nat.le_add_right _ _) hmem
  have r3' : en y = highR (p + b.length) (p + b.length) R := r3
  have r2' : y.1 = lowR (p + b.length) p R := r2
  rw [r1]
  congr 2
  have hin := tk_in (p + b.length) R p (p + b.length)
  have h1 := lowR_le (p + b.length) R p
  have h2 := highR_le (p + b.length) R (p + b.length)
  have hT := hR.take (tkN (p + b.length) R)
  generalize lowR (p + b.length) p R = low at *
  generalize highR (p + b.length) (p + b.length) R = high at *
  generalize R.take (tkN (p + b.length) R) = T at *
  have hrl : (List.replicate (high - low) (0 : Int)).length = high - low := List.length_replicate
  have hcl := cpF_length low T (List.replicate (high - low) 0) (fun x hx => by
    have := hin x hx
    have e : en x = x.1 + x.2.length := rfl
    rw [hrl]
    omega)
  rw [hrl] at hcl
  have hyl : y.2.length = high - low := by
    have e : en y = y.1 + y.2.length := rfl
    omega
  refine Prod.ext r2' ?_
  apply List.ext_getElem?
  intro j
  by_cases hj : j < high - low
  · have h4 := r4 (low + j) (by omega) (by omega)
    rw [r2', Nat.add_sub_cancel_left] at h4
    rw [h4, cp_get _ _ _ (by rw [hcl]; omega) j (by rw [hcl]; exact hj)]
    have epb : en (p, b) = p + b.length := rfl
    by_cases hpj : p ≤ low + j ∧ low + j < p + b.length
    · rw [if_pos ⟨hpj.1, by rw [epb]; exact hpj.2⟩, if_pos (by omega)]
      show b[low + j - p]? = _
      congr 1
      omega
    · rw [if_neg (by rw [epb]; exact hpj), if_neg (by omega), cpF_get low T 0 _ hT (fun x hx => by
        have := hin x hx
        rw [hrl]
        omega) j (by rw [hrl]; exact hj)]
      -- every place is in the bytes or in a piece
      cases hlk : look T (low + j) with
      | some z => rfl
      | none =>
        rw [if_neg (by rw [epb]; exact hpj), hlk] at h4
        rw [List.getElem?_eq_none_iff] at h4
        omega
  · rw [List.getElem?_eq_none (by omega), List.getElem?_eq_none (by rw [cp_length _ _ _ (by rw [hcl]; omega), hcl]; omega)]
end Go.Proofs.Ytbnkiefchbcfgaa.U
/- cache: does a piece touch? -/
set_option linter.unusedVariables false
set_option linter.unusedSimpArgs false
namespace Go.Proofs.Ytbnkiefchbcfgaa.U
open Go.RowKit Go.Proofs Go.Lib Go.Proofs.YtbnkiefchbcfgaaW.PrintWords

set_option maxHeartbeats 4000000 in
set_option maxRecDepth 1000000 in
theorem touch_calls (p n b1 b2 c' cb : Nat) (x : Ext) (A Ab : Option Addr) (w : World) (hp : p ≤ en x) (hx : en x ≤ 65536) (hn : p + n ≤ 65536)
    (h1 : w.cell? ⟨b1, 0, none⟩ = some (.int .i64 (p : Int))) (h2 : w.cell? ⟨b2, 0, none⟩ = some (.slice Ab n cb)) (hb1 : b1 < w.heap.size) (hb2 : b2 < w.heap.size) :
    Calls Try.prog 48 #[.agg #[.int .i64 (x.1 : Int), .slice A x.2.length c'], .pointer (some ⟨b1, 0, none⟩), .pointer (some ⟨b2, 0, none⟩)] w fun e w' => e = .returned (.bool (decide (x.1 ≤ p + n))) ∧ Below w.heap.size w w' := by
  have ex : en x = x.1 + x.2.length := rfl
  have cE := fun W => end_calls x.1 x.2.length c' A W (by omega)
  have CE := Lib.hid cE
  have hdec : decide ((x.1 : Int) ≤ (p : Int) + (n : Int)) = decide (x.1 ≤ p + n) := decide_eq_decide.2 (by omega)
  have HDEC := Lib.hid hdec
  have hwr : IntKind.i64.wrap ((p : Int) + (n : Int)) = (p : Int) + (n : Int) := wrap_small _ (by omega) (by omega)
  have d1 : decide ((p : Int) ≤ (x.1 : Int) + (x.2.length : Int)) = true := by simp; omega
  have d2 : decide ((p : Int) ≤ ((x.1 + x.2.length : Nat) : Int)) = true := by simp; omega
  have hba : Below w.heap.size w (w.alloc (.cells #[.int .i64 (x.1 : Int), .slice A x.2.length c'] 32)) := (Below.refl _ _).alloc (Nat.le_refl _) _
  have hOa := heap_alloc_new w (.cells #[.int .i64 (x.1 : Int), .slice A x.2.length c'] 32)
  obtain ⟨wa, hwa⟩ : ∃ wa, w.alloc (.cells #[.int .i64 (x.1 : Int), .slice A x.2.length c'] 32) = wa := ⟨_, rfl⟩
  rw [hwa] at hba hOa
  have q1 : wa.cell? ⟨w.heap.size, 0, none⟩ = some (.int .i64 (x.1 : Int)) := by rw [Lib.cell_of_heap hOa]; rfl
  have q2 : wa.cell? ⟨w.heap.size, 1, none⟩ = some (.slice A x.2.length c') := by rw [Lib.cell_of_heap hOa]; rfl
  have q3 := (hba.cell (p := ⟨b1, 0, none⟩) hb1).trans h1
  have q4 := (hba.cell (p := ⟨b2, 0, none⟩) hb2).trans h2
  have hrw : w.heap.size < wa.heap.size := (Array.getElem?_eq_some_iff.1 hOa).1
  have HBA := Lib.hid hba
  have hl1 := Nat.lt_of_lt_of_le hb1 hba.size
  have hl2 := Nat.lt_of_lt_of_le hb2 hba.size
  have hKS : ∀ w', Below wa.heap.size wa w' → w'.cell? ⟨w.heap.size, 0, none⟩ = some (.int .i64 (x.1 : Int)) ∧ w'.cell? ⟨w.heap.size, 1, none⟩ = some (.slice A x.2.length c') ∧ w'.cell? ⟨b1, 0, none⟩ = some (.int .i64 (p : Int)) ∧ w'.cell? ⟨b2, 0, none⟩ = some (.slice Ab n cb) := fun w' h =>
    ⟨(h.cell (p := ⟨w.heap.size, 0, none⟩) hrw).trans q1, (h.cell (p := ⟨w.heap.size, 1, none⟩) hrw).trans q2, (h.cell (p := ⟨b1, 0, none⟩) hl1).trans q3, (h.cell (p := ⟨b2, 0, none⟩) hl2).trans q4⟩
  have KS := Lib.hid hKS
  clear cE hdec hba hOa hKS q1 q2 q3 q4 h1 h2
  go_enter Try.func48, Try.ntmps48
  go_wp2_with fail
  clear hwa
  have hS0 := KS.out _ (below_drew1 (Below.refl wa.heap.size wa))
  refine AnyL.start (fun w' => w'.cell? ⟨w.heap.size, 0, none⟩ = some (.int .i64 (x.1 : Int)) ∧ w'.cell? ⟨w.heap.size, 1, none⟩ = some (.slice A x.2.length c') ∧ w'.cell? ⟨b1, 0, none⟩ = some (.int .i64 (p : Int)) ∧ w'.cell? ⟨b2, 0, none⟩ = some (.slice Ab n cb)) 99 (by kernel_rfl) hS0 (fun hHeld => ?_)
  refine AnyL.take (i := 0) (v := ?va0) rfl (by kernel_rfl) (by kernel_rfl) (by kernel_rfl) (by kernel_rfl) (fun _ _ _ h => h) (by assumption) (Or.inl ⟨by rfl, ?a0⟩) ?ra0
  case a0 => (intro w hSw; (try dsimp only at hSw); go_simp; try with_reducible rfl)
  try simp only [Act.put, List.setIfInBounds_toArray, List.set_cons_zero, List.set_cons_succ]
  refine AnyL.take (i := 2) (v := ?va2) rfl (by kernel_rfl) (by kernel_rfl) (by kernel_rfl) (by kernel_rfl) (fun _ _ _ h => h) (by assumption) (Or.inl ⟨by rfl, ?a2⟩) ?ra2
  case a2 => (intro w hSw; (try dsimp only at hSw); go_simp; try with_reducible rfl)
  try simp only [Act.put, List.setIfInBounds_toArray, List.set_cons_zero, List.set_cons_succ]
  refine AnyL.one (i := 1) (by kernel_rfl) rfl (fun K hK => ?_)
  go_simp
  refine (CE.out _).mono ?_
  rintro e w5 ⟨rfl, hb5⟩
  have hb6 := (below_drew1 (Below.refl wa.heap.size wa)).trans hb5
  refine hK.out _ _ (.inr (KS.out _ hb6)) ?_
  clear hHeld
  have hHeld := KS.out _ hb6
  clear hK K
  try simp only [Act.put, List.setIfInBounds_toArray, List.set_cons_zero, List.set_cons_succ]
  refine AnyL.take (i := 3) (v := ?vb3) rfl (by kernel_rfl) (by kernel_rfl) (by kernel_rfl) (by kernel_rfl) (fun _ _ _ h => h) (by assumption) (Or.inl ⟨by rfl, ?b3⟩) ?rb3
  case b3 => (intro w hSw; (try dsimp only at hSw); go_simp; try with_reducible rfl)
  try simp only [Act.put, List.setIfInBounds_toArray, List.set_cons_zero, List.set_cons_succ]
  refine AnyL.take (i := 4) (v := ?vb4) rfl (by kernel_rfl) (by kernel_rfl) (by kernel_rfl) (by kernel_rfl) (fun _ _ _ h => h) (by assumption) (Or.inl ⟨by rfl, ?b4⟩) ?rb4
  case b4 => (intro w hSw; (try dsimp only at hSw); go_simp; try with_reducible rfl)
  try simp only [Act.put, List.setIfInBounds_toArray, List.set_cons_zero, List.set_cons_succ]
  refine AnyL.take (i := 5) (v := ?vb5) rfl (by kernel_rfl) (by kernel_rfl) (by kernel_rfl) (by kernel_rfl) (fun _ _ _ h => h) (by assumption) (Or.inl ⟨by rfl, ?b5⟩) ?rb5
  case b5 => (intro w hSw; (try dsimp only at hSw); go_simp; try with_reducible rfl)
  try simp only [Act.put, List.setIfInBounds_toArray, List.set_cons_zero, List.set_cons_succ]
  refine AnyL.take (i := 6) (v := ?vb6) rfl (by kernel_rfl) (by kernel_rfl) (by kernel_rfl) (by kernel_rfl) (fun _ _ _ h => h) (by assumption) (Or.inl ⟨by rfl, ?b6⟩) ?rb6
  case b6 => (intro w hSw; (try dsimp only at hSw); go_simp; try with_reducible rfl)
  try simp only [Act.put, List.setIfInBounds_toArray, List.set_cons_zero, List.set_cons_succ]
  refine AnyL.take (i := 7) (v := ?vb7) rfl (by kernel_rfl) (by kernel_rfl) (by kernel_rfl) (by kernel_rfl) (fun _ _ _ h => h) (by assumption) (Or.inl ⟨by rfl, ?b7⟩) ?rb7
  case b7 => (intro w hSw; (try dsimp only at hSw); go_simp; try with_reducible rfl)
  try simp only [Act.put, List.setIfInBounds_toArray, List.set_cons_zero, List.set_cons_succ]
  refine AnyL.take (i := 8) (v := ?vb8) rfl (by kernel_rfl) (by kernel_rfl) (by kernel_rfl) (by kernel_rfl) (fun _ _ _ h => h) (by assumption) (Or.inl ⟨by rfl, ?b8⟩) ?rb8
  case b8 => (intro w hSw; (try dsimp only at hSw); go_simp; try with_reducible rfl)
  try simp only [Act.put, List.setIfInBounds_toArray, List.set_cons_zero, List.set_cons_succ]
  refine AnyL.take (i := 9) (v := ?vb9) rfl (by kernel_rfl) (by kernel_rfl) (by kernel_rfl) (by kernel_rfl) (fun _ _ _ h => h) (by assumption) (Or.inl ⟨by rfl, ?b9⟩) ?rb9
  case b9 => (intro w hSw; (try dsimp only at hSw); go_simp; try with_reducible rfl)
  try simp only [Act.put, List.setIfInBounds_toArray, List.set_cons_zero, List.set_cons_succ]
  refine AnyL.take (i := 10) (v := ?vb10) rfl (by kernel_rfl) (by kernel_rfl) (by kernel_rfl) (by kernel_rfl) (fun _ _ _ h => h) (by assumption) (Or.inl ⟨by rfl, ?b10⟩) ?rb10
  case b10 => (intro w hSw; (try dsimp only at hSw); go_simp; try with_reducible rfl)
  try simp only [Act.put, List.setIfInBounds_toArray, List.set_cons_zero, List.set_cons_succ]
  refine AnyL.take (i := 11) (v := ?vb11) rfl (by kernel_rfl) (by kernel_rfl) (by kernel_rfl) (by kernel_rfl) (fun _ _ _ h => h) (by assumption) (Or.inl ⟨by rfl, ?b11⟩) ?rb11
  case b11 => (intro w hSw; (try dsimp only at hSw); go_simp; try with_reducible rfl)
  try simp only [Act.put, List.setIfInBounds_toArray, List.set_cons_zero, List.set_cons_succ]
  refine AnyL.take (i := 12) (v := ?vb12) rfl (by kernel_rfl) (by kernel_rfl) (by kernel_rfl) (by kernel_rfl) (fun _ _ _ h => h) (by assumption) (Or.inl ⟨by rfl, ?b12⟩) ?rb12
  case b12 => (intro w hSw; (try dsimp only at hSw); go_simp; try with_reducible rfl)
  try simp only [Act.put, List.setIfInBounds_toArray, List.set_cons_zero, List.set_cons_succ]
  refine AnyL.take (i := 13) (v := ?vb13) rfl (by kernel_rfl) (by kernel_rfl) (by kernel_rfl) (by kernel_rfl) (fun _ _ _ h => h) (by assumption) (Or.inl ⟨by rfl, ?b13⟩) ?rb13
  case b13 => (intro w hSw; (try dsimp only at hSw); go_simp; try with_reducible rfl)
  try simp only [Act.put, List.setIfInBounds_toArray, List.set_cons_zero, List.set_cons_succ]
  refine AnyL.done (by kernel_rfl) ?_ _
  have HB6 := Lib.hid (HBA.out.trans (hb6.mono HBA.out.size))
  clear hHeld hb6 hb5 CE KS hS0
  go_wp2
  go_ret
  exact ⟨by rw [← HDEC.out]; rfl, HB6.out⟩
end Go.Proofs.Ytbnkiefchbcfgaa.U
/- cache: lay. -/
set_option linter.unusedVariables false
set_option linter.unusedSimpArgs false
set_option pp.deepTerms true
set_option pp.maxSteps 200000
namespace Go.Proofs.Ytbnkiefchbcfgaa.U
open Go.RowKit Go.Proofs Go.Lib Go.Proofs.YtbnkiefchbcfgaaW.PrintWords
variable {N : Nat → Prop}

/-- copy into a row of bytes, from bytes that lie in whatever block. -/
theorem run_cpA (w : World) (t ty : TypeId) (hu : Try.prog.underlying t = some (.slice 5)) (g o : Nat) (A : Option Addr) (c n : Nat) (out bs : List Int) (hR : BA w A c bs) (ho : o ≤ out.length) (hn : n = out.length - o)
    (hg : w.heap[g]? = some (.cells (nums .u8 out).toArray 5 (0, 0))) :
    ∃ w' z, (Builtin.copy_ #[t, t] ty #[.slice (some ⟨g, o, none⟩) n n, .slice A bs.length c]).run Try.prog w = .ok z w' ∧ w'.heap[g]? = some (.cells (nums .u8 (cp out o bs)).toArray 5 (0, 0)) ∧
      (∀ (w0 : World) (B : Nat), Below B w0 w → B ≤ g → Below B w0 w') ∧ ∀ k, k ≠ g → w'.heap[k]? = w.heap[k]? := by
  subst hn
  rcases Nat.eq_zero_or_pos (Nat.min bs.length (out.length - o)) with h0 | h0
  · refine ⟨w, _, run_copy_none (P := Try.prog) w t t ty 5 _ A _ _ bs.length c hu sizeU8 h0, ?_, fun _ _ h _ => h, fun _ _ => rfl⟩
    have e : cp out o bs = out := by
      unfold cp
      rcases Nat.eq_zero_or_pos bs.length with hb | hb
      · obtain rfl : bs = [] := List.eq_nil_of_length_eq_zero hb
        simp
      · have hm : Nat.min bs.length (out.length - o) = min bs.length (out.length - o) := rfl
        have : out.length - o = 0 := by omega
        rw [this, List.take_zero, List.drop_eq_nil_of_le (by omega), List.take_of_length_le (by omega)]
        simp
    rw [e]
    exact hg
  · have hm : Nat.min bs.length (out.length - o) = min bs.length (out.length - o) := rfl
    obtain ⟨b, off, rfl, hlt, hc⟩ := hR.2 (by omega)
    have hl : (bs.take (out.length - o)).length = min (out.length - o) bs.length := List.length_take
    have hsrc : ∀ j v, (nums .u8 (bs.take (out.length - o)))[j]? = some v → w.cell? ((⟨b, off, none⟩ : Addr).add j) = some v := by
      intro j v hj
      refine hc j v ?_
      unfold nums at hj ⊢
      rw [List.getElem?_map] at hj ⊢
      obtain ⟨z, hz, rfl⟩ := Option.map_eq_some_iff.1 hj
      rw [List.getElem?_take] at hz
      split at hz
      · rw [hz]; rfl
      · cases hz
    have hr := run_copy_row (P := Try.prog) w t t ty 5 g o (out.length - o) (out.length - o) ⟨b, off, none⟩ bs.length c (nums .u8 out).toArray 5 (nums .u8 (bs.take (out.length - o))) hu sizeU8 hg (by rw [nums_len, hl, hm]; omega) hsrc (by rw [nums_len, hl]; simp [nums]; omega) (nums_one _)
    refine ⟨_, _, hr, ?_, fun w0 B hb hB => below_setRow hb hB _, fun k hk => setRow_other w g k _ hk⟩
    rw [setRow_heap w g _ _ _ _ hg, nums_len, hl]
    have e : (nums .u8 out).toArray.toList.take o ++ nums .u8 (bs.take (out.length - o)) ++ (nums .u8 out).toArray.toList.drop (o + min (out.length - o) bs.length) = nums .u8 (cp out o bs) := by
      unfold cp nums
      simp only [List.map_append, List.map_take, List.map_drop, List.toList_toArray]
      congr 1
      rcases Nat.lt_or_ge bs.length (out.length - o) with h | h
      · rw [show o + min (out.length - o) bs.length = o + bs.length by omega]
      · rw [List.drop_eq_nil_of_le (by simp; omega), List.drop_eq_nil_of_le (by simp; omega)]
    rw [e]
/-- A part of a row of pieces. -/
def segA (A : Option Addr) (c i : Nat) : Option Addr := if c = i then A else A.map fun a => a.add (i * 2)
theorem run_seg (A : Option Addr) (n c i j : Nat) (hij : i ≤ j) (hj : j ≤ c) (W : World) :
    (Instr.slice 23 (.slice A n c) (some (.int .i64 (i : Int))) (some (.int .i64 (j : Int))) none).run Try.prog W = .ok (.slice (segA A c i) (j - i) (c - i)) W := by
  obtain ⟨i0, hi0, hz0, hz1, hz2⟩ := info_parts infoE
  have he : Try.prog.elem 23 = 32 := by kernel_rfl
  rw [run_slice_lh W 23 A n c (by rw [he]; exact Try.underlying23) .i64 .i64 (i : Int) (j : Int) (by omega) (by omega) (by omega), he]
  simp [sizeOf, typeInfo, hi0, hz1, sliced, segA]
theorem step_copy_run {P : Program} (w : World) {ops : Array Oper} {o : Oper} {a : Act} {K : Act → World → Prop} {Q : Exit → Act → World → Prop} {E : Prop} (hgd : o.guard = none) (d s : Operand) (t : TypeId)
    (ho : o.op = .call { callee := .builtin .copy, args := #[d, s], argTypes := #[t, t] }) (vd vs : Value) (hd : a.eval d = vd) (hs : a.eval s = vs)
    (v' : Value) (w' : World) (hr : (Builtin.copy_ #[t, t] o.type #[vd, vs]).run P w = .ok v' w') (h : K (a.put o.dst v') w') : if Region.wanted o (yielded ops a.tmps) = true then Oper.wp P o a w K Q else E := by
  have hw : Region.wanted o (yielded ops a.tmps) = true := by simp [Region.wanted, hgd]
  rw [if_pos hw]
  unfold Oper.wp execOp
  simp only [ho, resolve, invoke, builtin, Sem.run_bind, Sem.run_pure, Result.andThen_ok, List.map_toArray, List.map_cons, List.map_nil, hd, hs, hr]
  exact h
attribute [local go_sem ↓] Go.wp_at_zero Go.wp_at_succ
set_option maxHeartbeats 16000000 in
set_option maxRecDepth 1000000 in
theorem lay_calls (C lvl size p : Nat) (A : Option Addr) (c : Nat) (bs : List Int) (xs os : List Ext) (lA oA : Option Addr) (cl oc : Nat) (w : World) (h : CacheAt w N C lvl size xs os lA cl oA oc) (hok : Ok 0 xs) (hN : ∀ k, N k → k < w.heap.size) (hx : ∀ x ∈ xs, en x ≤ size) (hs : size ≤ 65536) (hR : BA w A c bs) (h0 : 0 < bs.length) (hb : p + bs.length ≤ size) :
    Calls Try.prog 38 #[.pointer (some ⟨C, 0, none⟩), .int .i64 (p : Int), .slice A bs.length c] w fun e w' => e = .returned (.tuple #[]) ∧ ∃ lA' c', CacheAt w' N C lvl size (wr p bs xs) os lA' c' oA oc ∧ FrC w w' C lA none ∧ SameL w lA lA' := by
  have hlen := ok_len' hok hx
  have hfl := frN_le p xs
  have hmem : ∀ x ∈ xs.drop (frN p xs), p ≤ en x := by rw [frN_skip]; exact skip_mem hok
  have hspec := lay_spec hok p bs h0 hmem
  have htk := tkN_le (p + bs.length) (xs.drop (frN p xs))
  have hlo := lowR_le (p + bs.length) (xs.drop (frN p xs)) p
  have hhi := highR_le (p + bs.length) (xs.drop (frN p xs)) (p + bs.length)
  have hht := highR_top (p + bs.length) size (xs.drop (frN p xs)) (p + bs.length) hb (fun x hm => hx x (List.mem_of_mem_drop hm))
  have hin := tk_in (p + bs.length) (xs.drop (frN p xs)) p (p + bs.length)
  have hB1 := (Below.refl w.heap.size w).alloc (Nat.le_refl _) (.cells #[.pointer (some ⟨C, 0, none⟩)] 24)
  have hH0 := heap_alloc_new w (.cells #[.pointer (some ⟨C, 0, none⟩)] 24)
  obtain ⟨w1, hw1⟩ : ∃ w1, w.alloc (.cells #[.pointer (some ⟨C, 0, none⟩)] 24) = w1 := ⟨_, rfl⟩
  rw [hw1] at hB1 hH0
  have hB2 := (Below.refl w1.heap.size w1).alloc (Nat.le_refl _) (.cells #[.int .i64 (p : Int)] 3)
  have hH1 := heap_alloc_new w1 (.cells #[.int .i64 (p : Int)] 3)
  obtain ⟨w2, hw2⟩ : ∃ w2, w1.alloc (.cells #[.int .i64 (p : Int)] 3) = w2 := ⟨_, rfl⟩
  rw [hw2] at hB2 hH1
  obtain ⟨n, hn⟩ : ∃ n, bs.length = n := ⟨_, rfl⟩
  obtain ⟨nn, hnn⟩ : ∃ nn, xs.length = nn := ⟨_, rfl⟩
  have hB3 := (Below.refl w2.heap.size w2).alloc (Nat.le_refl _) (.cells #[.slice A n c] 22)
  have hH2 := heap_alloc_new w2 (.cells #[.slice A n c] 22)
  obtain ⟨wB, hwB⟩ : ∃ wB, w2.alloc (.cells #[.slice A n c] 22) = wB := ⟨_, rfl⟩
  rw [hwB] at hB3 hH2
  have l0 := (Array.getElem?_eq_some_iff.1 hH0).1
  have l1 := (Array.getElem?_eq_some_iff.1 hH1).1
  have l2 := (Array.getElem?_eq_some_iff.1 hH2).1
  have hBB := (hB1.trans (hB2.mono hB1.size)).trans (hB3.mono (Nat.le_trans hB1.size hB2.size))
  have k0 : wB.cell? ⟨w.heap.size, 0, none⟩ = some (.pointer (some ⟨C, 0, none⟩)) := by rw [Lib.cell_of_heap (((hB2.trans (hB3.mono hB2.size)).block _ l0).trans hH0)]; rfl
  have k1 : wB.cell? ⟨w1.heap.size, 0, none⟩ = some (.int .i64 (p : Int)) := by rw [Lib.cell_of_heap ((hB3.block _ l1).trans hH1)]; rfl
  have k2 : wB.cell? ⟨w2.heap.size, 0, none⟩ = some (.slice A n c) := by rw [Lib.cell_of_heap hH2]; rfl
  have hDB := h.below hBB
  have k3 := hDB.c3
  have hCl := hDB.lt
  have m0 : w.heap.size < wB.heap.size := by have := hB2.size; omega
  have m1 : w1.heap.size < wB.heap.size := by omega
  have hKS : ∀ w', Below wB.heap.size wB w' → w'.cell? ⟨w.heap.size, 0, none⟩ = some (.pointer (some ⟨C, 0, none⟩)) ∧ w'.cell? ⟨w1.heap.size, 0, none⟩ = some (.int .i64 (p : Int)) ∧ w'.cell? ⟨w2.heap.size, 0, none⟩ = some (.slice A n c) ∧ w'.cell? ⟨C, 3, none⟩ = some (.slice lA nn cl) := fun w' h => by
    refine ⟨(h.cell (p := ⟨w.heap.size, 0, none⟩) m0).trans k0, (h.cell (p := ⟨w1.heap.size, 0, none⟩) m1).trans k1, (h.cell (p := ⟨w2.heap.size, 0, none⟩) l2).trans k2, ?_⟩
    rw [← hnn]
    exact (h.cell (p := ⟨C, 3, none⟩) hCl).trans k3
  have hRB := hR.keep hBB
  have cS := laySearch_calls C p w.heap.size w1.heap.size xs lA cl wB hDB.known k3 hCl hok (by omega) (fun x hm => by have := hx x hm; omega) (by omega) k0 k1 m0 m1
  rw [hn] at hspec htk hlo hhi hht hin h0 hb
  rw [hnn] at hfl hlen k3 cS
  rw [hn]
  generalize hfr : frN p xs = fr at *
  obtain ⟨jf, hjf⟩ : ∃ jf, fr + tkN (p + n) (xs.drop fr) = jf := ⟨_, rfl⟩
  obtain ⟨T, hT⟩ : ∃ T, (xs.drop fr).take (tkN (p + n) (xs.drop fr)) = T := ⟨_, rfl⟩
  have hTl : T.length = jf - fr := by rw [← hT, List.length_take]; omega
  have hTx : ∀ i x, T[i]? = some x → xs[fr + i]? = some x := fun i x hi => by
    rw [← hT, List.getElem?_take] at hi
    split at hi
    · rw [List.getElem?_drop] at hi
      exact hi
    · cases hi
  obtain ⟨low, hlow⟩ : ∃ low, lowR (p + n) p (xs.drop fr) = low := ⟨_, rfl⟩
  obtain ⟨high, hhigh⟩ : ∃ high, highR (p + n) (p + n) (xs.drop fr) = high := ⟨_, rfl⟩
  rw [hjf, hT, hlow, hhigh] at hspec
  rw [hlow] at hlo
  rw [hhigh] at hhi hht
  rw [hT, hlow, hhigh] at hin
  have hjn : jf ≤ nn := by rw [List.length_drop] at htk; omega
  have hfj : fr ≤ jf := by omega
  have HT := Lib.hid hTx
  have HTL := Lib.hid hTl
  have HLW := Lib.hid hlow
  have HHG := Lib.hid hhigh
  have HJF := Lib.hid hjf
  clear hT hTl hTx hlow hhigh hjf htk
  have HSPEC := Lib.hid hspec
  have HMEM := Lib.hid hmem
  have HIN := Lib.hid hin
  have HX := Lib.hid hx
  have HOK := Lib.hid hok
  have HNK := Lib.hid hN
  have HD := Lib.hid h
  have HDB := Lib.hid hDB
  have HBB := Lib.hid hBB
  have HRB := Lib.hid hRB
  have HN_ := Lib.hid hn
  have HNN := Lib.hid hnn
  have KS := Lib.hid hKS
  have CS := Lib.hid cS
  have d0 : ((n : Int) == 0) = false := by simp; omega
  clear hspec hmem hin hx hok hN h hDB hBB hRB hn hnn hKS cS hR hH0 hH1 hH2 hB1 hB2 hB3 hfr
  go_enter Try.func38, Try.ntmps38
  go_wp2_with fail
  refine (CS.out).mono ?_
  rintro e w3 ⟨rfl, hb3⟩
  clear hw1 hw2 hwB k0 k1 k2 k3 CS
  have hB3 := HBB.out.trans (hb3.mono HBB.out.size)
  have hS0 := KS.out _ (below_drew1 hb3)
  have hwn : IntKind.i64.wrap ((p : Int) + (n : Int)) = (p : Int) + (n : Int) := wrap_small _ (by omega) (by omega)
  go_wp2_with fail
  refine AnyL.start (fun w' => w'.cell? ⟨w.heap.size, 0, none⟩ = some (.pointer (some ⟨C, 0, none⟩)) ∧ w'.cell? ⟨w1.heap.size, 0, none⟩ = some (.int .i64 (p : Int)) ∧ w'.cell? ⟨w2.heap.size, 0, none⟩ = some (.slice A n c) ∧ w'.cell? ⟨C, 3, none⟩ = some (.slice lA nn cl)) 99 (by kernel_rfl) hS0 (fun hHeld => ?_)
  refine AnyL.take (i := 0) (v := ?va0) rfl (by kernel_rfl) (by kernel_rfl) (by kernel_rfl) (by kernel_rfl) (fun _ _ _ h => h) (by assumption) (Or.inl ⟨by rfl, ?a0⟩) ?ra0
  case a0 => (intro w hSw; (try dsimp only at hSw); go_simp; try with_reducible rfl)
  try simp only [Act.put, List.setIfInBounds_toArray, List.set_cons_zero, List.set_cons_succ]
  refine AnyL.take (i := 1) (v := ?va1) rfl (by kernel_rfl) (by kernel_rfl) (by kernel_rfl) (by kernel_rfl) (fun _ _ _ h => h) (by assumption) (Or.inl ⟨by rfl, ?a1⟩) ?ra1
  case a1 => (intro w hSw; (try dsimp only at hSw); go_simp; try with_reducible rfl)
  try simp only [Act.put, List.setIfInBounds_toArray, List.set_cons_zero, List.set_cons_succ]
  refine AnyL.take (i := 2) (v := ?va2) rfl (by kernel_rfl) (by kernel_rfl) (by kernel_rfl) (by kernel_rfl) (fun _ _ _ h => h) (by assumption) (Or.inl ⟨by rfl, ?a2⟩) ?ra2
  case a2 => (intro w hSw; (try dsimp only at hSw); go_simp; try with_reducible rfl)
  try simp only [Act.put, List.setIfInBounds_toArray, List.set_cons_zero, List.set_cons_succ]
  refine AnyL.take (i := 3) (v := ?va3) rfl (by kernel_rfl) (by kernel_rfl) (by kernel_rfl) (by kernel_rfl) (fun _ _ _ h => h) (by assumption) (Or.inl ⟨by rfl, ?a3⟩) ?ra3
  case a3 => (intro w hSw; (try dsimp only at hSw); go_simp; try with_reducible rfl)
  try simp only [Act.put, List.setIfInBounds_toArray, List.set_cons_zero, List.set_cons_succ]
  refine AnyL.take (i := 4) (v := ?va4) rfl (by kernel_rfl) (by kernel_rfl) (by kernel_rfl) (by kernel_rfl) (fun _ _ _ h => h) (by assumption) (Or.inl ⟨by rfl, ?a4⟩) ?ra4
  case a4 => (intro w hSw; (try dsimp only at hSw); go_simp; try with_reducible rfl)
  try simp only [Act.put, List.setIfInBounds_toArray, List.set_cons_zero, List.set_cons_succ]
  refine AnyL.take (i := 5) (v := ?va5) rfl (by kernel_rfl) (by kernel_rfl) (by kernel_rfl) (by kernel_rfl) (fun _ _ _ h => h) (by assumption) (Or.inl ⟨by rfl, ?a5⟩) ?ra5
  case a5 => (intro w hSw; (try dsimp only at hSw); go_simp; try with_reducible rfl)
  try simp only [Act.put, List.setIfInBounds_toArray, List.set_cons_zero, List.set_cons_succ]
  refine AnyL.take (i := 6) (v := ?va6) rfl (by kernel_rfl) (by kernel_rfl) (by kernel_rfl) (by kernel_rfl) (fun _ _ _ h => h) (by assumption) (Or.inl ⟨by rfl, ?a6⟩) ?ra6
  case a6 => (intro w hSw; (try dsimp only at hSw); go_simp; try with_reducible rfl)
  try simp only [Act.put, List.setIfInBounds_toArray, List.set_cons_zero, List.set_cons_succ]
  refine AnyL.done (by kernel_rfl) ?_ _
  have HB3 := Lib.hid (show Below wB.heap.size wB w3.drew from below_drew1 hb3)
  clear hHeld hS0 hb3 hB3
  go_wp2_with fail
  go_loopg [8, 9, 10] (nn - fr) (fun g v8 v9 v10 wr => ∃ j lo hi : Nat, v8 = .int .i64 (j : Int) ∧ v9 = .int .i64 (lo : Int) ∧ v10 = .int .i64 (hi : Int) ∧ fr ≤ j ∧ j + g = nn ∧ lowR (p + n) lo (xs.drop j) = low ∧ highR (p + n) hi (xs.drop j) = high ∧ j + tkN (p + n) (xs.drop j) = jf ∧ lo ≤ p ∧ hi ≤ size ∧ Below wB.heap.size wB wr)
  case atStart => exact ⟨fr, p, p + n, rfl, rfl, by rw [Int.natCast_add], Nat.le_refl _, by omega, HLW.out, HHG.out, HJF.out, Nat.le_refl _, hb, HB3.out⟩
  case round =>
    clear HB3
    obtain ⟨j, lo, hi, rfl, rfl, rfl, hj, hjg, hl, hh, ht, hlp, hhs, hbw⟩ := hrel
    have HBW := Lib.hid hbw
    obtain ⟨k0, k1, k2, k3⟩ := KS.out _ hbw
    have hm0 := Nat.lt_of_lt_of_le m1 hbw.size
    have hm1 := Nat.lt_of_lt_of_le l2 hbw.size
    by_cases hgo : ∃ x, xs[j]? = some x ∧ x.1 ≤ p + n
    · obtain ⟨x, hxi, hxl⟩ := hgo
      have hjn2 : j < nn := by have := (List.getElem?_eq_some_iff.1 hxi).1; have := HNN.out; omega
      have hdx : xs.drop j = x :: xs.drop (j + 1) := by
        obtain ⟨hb', he⟩ := List.getElem?_eq_some_iff.1 hxi
        rw [List.drop_eq_getElem_cons hb', he]
      rw [hdx, lowR, if_pos hxl] at hl
      rw [hdx, highR, if_pos hxl] at hh
      rw [hdx, tkN, if_pos hxl] at ht
      have hpe : p ≤ en x := HMEM.out x (List.mem_of_getElem? (i := j - fr) (by rw [List.getElem?_drop, show fr + (j - fr) = j by omega]; exact hxi))
      have hxe := HX.out x (List.mem_of_getElem? hxi)
      have ex : en x = x.1 + x.2.length := rfl
      obtain ⟨L, Ax, cx, rfl, hLs, q9, q10, hBRx⟩ := (HDB.out.known.below hbw).piece hxi
      have d5 : decide ((j : Int) < (nn : Int)) = true := by simp; omega
      have d6 : decide (x.1 ≤ p + n) = true := by simp; omega
      have CT := Lib.hid (touch_calls p n w1.heap.size w2.heap.size cx c x Ax A wr hpe (by omega) (by omega) k1 k2 hm0 hm1)
      have i1 : (j : Int) < (nn : Int) := by omega
      have HLO := Lib.hid hl
      have HHI := Lib.hid hh
      have HTK := Lib.hid ht
      clear hl hh ht hdx hxi hBRx hbw
      go_wp2_with fail
      refine (CT.out).mono ?_
      rintro e wt ⟨rfl, hbt⟩
      rw [d6]
      have hb8 := hbt
      have hKS8 : ∀ w', Below wt.heap.size wt w' → (w'.cell? ⟨w.heap.size, 0, none⟩ = some (.pointer (some ⟨C, 0, none⟩)) ∧ w'.cell? ⟨C, 3, none⟩ = some (.slice (some ⟨L, 0, none⟩) nn cl)) ∧ w'.cell? ⟨L, j * 2, none⟩ = some (.int .i64 (x.1 : Int)) ∧ w'.cell? ⟨L, j * 2 + 1, none⟩ = some (.slice Ax x.2.length cx) := fun w' h => by
        have hrw := hbt.trans (h.mono hbt.size)
        obtain ⟨e0, _, _, e3⟩ := KS.out _ (HBW.out.trans (hrw.mono HBW.out.size))
        exact ⟨⟨e0, e3⟩, (hrw.cell (p := ⟨L, j * 2, none⟩) hLs).trans q9, (hrw.cell (p := ⟨L, j * 2 + 1, none⟩) hLs).trans q10⟩
      have KS8 := Lib.hid hKS8
      have cE := fun W => end_calls x.1 x.2.length cx Ax W (by omega)
      have CE := Lib.hid cE
      have HBT := Lib.hid (HBW.out.trans (hbt.mono HBW.out.size))
      have hmn : (if (x.1 : Int) < (lo : Int) then (x.1 : Int) else (lo : Int)) = ((min lo x.1 : Nat) : Int) := by split <;> omega
      have hmn2 : min (lo : Int) (x.1 : Int) = ((min lo x.1 : Nat) : Int) := by omega
      have hmx : (if (hi : Int) < ((x.1 + x.2.length : Nat) : Int) then ((x.1 + x.2.length : Nat) : Int) else (hi : Int)) = ((max hi (en x) : Nat) : Int) := by split <;> omega
      have hmx2 : max (hi : Int) ((x.1 + x.2.length : Nat) : Int) = ((max hi (en x) : Nat) : Int) := by omega
      clear cE hKS8 CT d5 k0 k1 k2 k3 q9 q10 hb8
      go_wp2_with fail
      have hS8 := KS8.out _ (below_drew1 (Below.refl wt.heap.size wt))
      refine AnyL.start (fun w' => (w'.cell? ⟨w.heap.size, 0, none⟩ = some (.pointer (some ⟨C, 0, none⟩)) ∧ w'.cell? ⟨C, 3, none⟩ = some (.slice (some ⟨L, 0, none⟩) nn cl)) ∧ w'.cell? ⟨L, j * 2, none⟩ = some (.int .i64 (x.1 : Int)) ∧ w'.cell? ⟨L, j * 2 + 1, none⟩ = some (.slice Ax x.2.length cx)) 99 (by kernel_rfl) hS8 (fun hHeld => ?_)
      refine AnyL.take (i := 0) (v := ?vb0) rfl (by kernel_rfl) (by kernel_rfl) (by kernel_rfl) (by kernel_rfl) (fun _ _ _ h => h) (by assumption) (Or.inl ⟨by rfl, ?b0⟩) ?rb0
      case b0 => (intro w hSw; (try dsimp only at hSw); go_simp; try with_reducible rfl)
      try simp only [Act.put, List.setIfInBounds_toArray, List.set_cons_zero, List.set_cons_succ]
      refine AnyL.take (i := 1) (v := ?vb1) rfl (by kernel_rfl) (by kernel_rfl) (by kernel_rfl) (by kernel_rfl) (fun _ _ _ h => h) (by assumption) (Or.inl ⟨by rfl, ?b1⟩) ?rb1
      case b1 => (intro w hSw; (try dsimp only at hSw); go_simp; try with_reducible rfl)
      try simp only [Act.put, List.setIfInBounds_toArray, List.set_cons_zero, List.set_cons_succ]
      refine AnyL.take (i := 2) (v := ?vb2) rfl (by kernel_rfl) (by kernel_rfl) (by kernel_rfl) (by kernel_rfl) (fun _ _ _ h => h) (by assumption) (Or.inl ⟨by rfl, ?b2⟩) ?rb2
      case b2 => (intro w hSw; (try dsimp only at hSw); go_simp; try with_reducible rfl)
      try simp only [Act.put, List.setIfInBounds_toArray, List.set_cons_zero, List.set_cons_succ]
      refine AnyL.take (i := 3) (v := ?vb3) rfl (by kernel_rfl) (by kernel_rfl) (by kernel_rfl) (by kernel_rfl) (fun _ _ _ h => h) (by assumption) (Or.inl ⟨by rfl, ?b3⟩) ?rb3
      case b3 => (intro w hSw; (try dsimp only at hSw); go_simp; try with_reducible rfl)
      try simp only [Act.put, List.setIfInBounds_toArray, List.set_cons_zero, List.set_cons_succ]
      refine AnyL.take (i := 4) (v := ?vb4) rfl (by kernel_rfl) (by kernel_rfl) (by kernel_rfl) (by kernel_rfl) (fun _ _ _ h => h) (by assumption) (Or.inl ⟨by rfl, ?b4⟩) ?rb4
      case b4 => (intro w hSw; (try dsimp only at hSw); go_simp; try with_reducible rfl)
      try simp only [Act.put, List.setIfInBounds_toArray, List.set_cons_zero, List.set_cons_succ]
      refine AnyL.take (i := 5) (v := ?vb5) rfl (by kernel_rfl) (by kernel_rfl) (by kernel_rfl) (by kernel_rfl) (fun _ _ _ h => h) (by assumption) (Or.inl ⟨by rfl, ?b5⟩) ?rb5
      case b5 => (intro w hSw; (try dsimp only at hSw); go_simp; try with_reducible rfl)
      try simp only [Act.put, List.setIfInBounds_toArray, List.set_cons_zero, List.set_cons_succ]
      refine AnyL.take (i := 6) (v := ?vb6) rfl (by kernel_rfl) (by kernel_rfl) (by kernel_rfl) (by kernel_rfl) (fun _ _ _ h => h) (by assumption) (Or.inl ⟨by rfl, ?b6⟩) ?rb6
      case b6 => (intro w hSw; (try dsimp only at hSw); go_simp; try with_reducible rfl)
      try simp only [Act.put, List.setIfInBounds_toArray, List.set_cons_zero, List.set_cons_succ]
      refine AnyL.take (i := 7) (v := ?vb7) rfl (by kernel_rfl) (by kernel_rfl) (by kernel_rfl) (by kernel_rfl) (fun _ _ _ h => h) (by assumption) (Or.inl ⟨by rfl, ?b7⟩) ?rb7
      case b7 => (intro w hSw; (try dsimp only at hSw); go_simp; try with_reducible rfl)
      try simp only [Act.put, List.setIfInBounds_toArray, List.set_cons_zero, List.set_cons_succ]
      refine AnyL.take (i := 8) (v := ?vb8) rfl (by kernel_rfl) (by kernel_rfl) (by kernel_rfl) (by kernel_rfl) (fun _ _ _ h => h) (by assumption) (Or.inl ⟨by rfl, ?b8⟩) ?rb8
      case b8 => (intro w hSw; (try dsimp only at hSw); go_simp; try with_reducible rfl)
      try simp only [Act.put, List.setIfInBounds_toArray, List.set_cons_zero, List.set_cons_succ]
      refine AnyL.take (i := 9) (v := ?vb9) rfl (by kernel_rfl) (by kernel_rfl) (by kernel_rfl) (by kernel_rfl) (fun _ _ _ h => h) (by assumption) (Or.inl ⟨by rfl, ?b9⟩) ?rb9
      case b9 => (intro w hSw; (try dsimp only at hSw); go_simp; try with_reducible rfl)
      try simp only [Act.put, List.setIfInBounds_toArray, List.set_cons_zero, List.set_cons_succ]
      refine AnyL.take (i := 10) (v := ?vb10) rfl (by kernel_rfl) (by kernel_rfl) (by kernel_rfl) (by kernel_rfl) (fun _ _ _ h => h) (by assumption) (Or.inl ⟨by rfl, ?b10⟩) ?rb10
      case b10 => (intro w hSw; (try dsimp only at hSw); go_simp; try with_reducible rfl)
      try simp only [Act.put, List.setIfInBounds_toArray, List.set_cons_zero, List.set_cons_succ]
      refine AnyL.take (i := 11) (v := ?vb11) rfl (by kernel_rfl) (by kernel_rfl) (by kernel_rfl) (by kernel_rfl) (fun _ _ _ h => h) (by assumption) (Or.inl ⟨by rfl, ?b11⟩) ?rb11
      case b11 => (intro w hSw; (try dsimp only at hSw); go_simp; try with_reducible rfl)
      try simp only [Act.put, List.setIfInBounds_toArray, List.set_cons_zero, List.set_cons_succ]
      refine AnyL.take (i := 12) (v := ?vb12) rfl (by kernel_rfl) (by kernel_rfl) (by kernel_rfl) (by kernel_rfl) (fun _ _ _ h => h) (by assumption) (Or.inl ⟨by rfl, ?b12⟩) ?rb12
      case b12 => (intro w hSw; (try dsimp only at hSw); go_simp; try with_reducible rfl)
      try simp only [Act.put, List.setIfInBounds_toArray, List.set_cons_zero, List.set_cons_succ]
      refine AnyL.take (i := 13) (v := ?vb13) rfl (by kernel_rfl) (by kernel_rfl) (by kernel_rfl) (by kernel_rfl) (fun _ _ _ h => h) (by assumption) (Or.inl ⟨by rfl, ?b13⟩) ?rb13
      case b13 => (intro w hSw; (try dsimp only at hSw); go_simp; try with_reducible rfl)
      try simp only [Act.put, List.setIfInBounds_toArray, List.set_cons_zero, List.set_cons_succ]
      refine AnyL.take (i := 14) (v := ?vb14) rfl (by kernel_rfl) (by kernel_rfl) (by kernel_rfl) (by kernel_rfl) (fun _ _ _ h => h) (by assumption) (Or.inl ⟨by rfl, ?b14⟩) ?rb14
      case b14 => (intro w hSw; (try dsimp only at hSw); go_simp; try with_reducible rfl)
      try simp only [Act.put, List.setIfInBounds_toArray, List.set_cons_zero, List.set_cons_succ]
      refine AnyL.take (i := 15) (v := ?vb15) rfl (by kernel_rfl) (by kernel_rfl) (by kernel_rfl) (by kernel_rfl) (fun _ _ _ h => h) (by assumption) (Or.inl ⟨by rfl, ?b15⟩) ?rb15
      case b15 => (intro w hSw; (try dsimp only at hSw); go_simp; try with_reducible rfl)
      try simp only [Act.put, List.setIfInBounds_toArray, List.set_cons_zero, List.set_cons_succ]
      refine AnyL.take (i := 16) (v := ?vb16) rfl (by kernel_rfl) (by kernel_rfl) (by kernel_rfl) (by kernel_rfl) (fun _ _ _ h => h) (by assumption) (Or.inl ⟨by rfl, ?b16⟩) ?rb16
      case b16 => (intro w hSw; (try dsimp only at hSw); go_simp; try with_reducible rfl)
      try simp only [Act.put, List.setIfInBounds_toArray, List.set_cons_zero, List.set_cons_succ]
      refine AnyL.take (i := 17) (v := ?vb17) rfl (by kernel_rfl) (by kernel_rfl) (by kernel_rfl) (by kernel_rfl) (fun _ _ _ h => h) (by assumption) (Or.inl ⟨by rfl, ?b17⟩) ?rb17
      case b17 => (intro w hSw; (try dsimp only at hSw); go_simp; try with_reducible rfl)
      try simp only [Act.put, List.setIfInBounds_toArray, List.set_cons_zero, List.set_cons_succ]
      refine AnyL.one (i := 18) (by kernel_rfl) rfl (fun K hK => ?_)
      go_simp
      refine (CE.out _).mono ?_
      rintro e w8 ⟨rfl, hb8⟩
      have hb9 := (below_drew1 (Below.refl wt.heap.size wt)).trans hb8
      refine hK.out _ _ (.inr (KS8.out _ hb9)) ?_
      clear hHeld
      have hHeld := KS8.out _ hb9
      clear hK K
      try simp only [Act.put, List.setIfInBounds_toArray, List.set_cons_zero, List.set_cons_succ]
      refine AnyL.take (i := 19) (v := ?vc19) rfl (by kernel_rfl) (by kernel_rfl) (by kernel_rfl) (by kernel_rfl) (fun _ _ _ h => h) (by assumption) (Or.inl ⟨by rfl, ?c19⟩) ?rc19
      case c19 => (intro w hSw; (try dsimp only at hSw); go_simp; try with_reducible rfl)
      try simp only [Act.put, List.setIfInBounds_toArray, List.set_cons_zero, List.set_cons_succ]
      refine AnyL.take (i := 20) (v := ?vc20) rfl (by kernel_rfl) (by kernel_rfl) (by kernel_rfl) (by kernel_rfl) (fun _ _ _ h => h) (by assumption) (Or.inl ⟨by rfl, ?c20⟩) ?rc20
      case c20 => (intro w hSw; (try dsimp only at hSw); go_simp; try with_reducible rfl)
      try simp only [Act.put, List.setIfInBounds_toArray, List.set_cons_zero, List.set_cons_succ]
      refine AnyL.take (i := 21) (v := ?vc21) rfl (by kernel_rfl) (by kernel_rfl) (by kernel_rfl) (by kernel_rfl) (fun _ _ _ h => h) (by assumption) (Or.inl ⟨by rfl, ?c21⟩) ?rc21
      case c21 => (intro w hSw; (try dsimp only at hSw); go_simp; try with_reducible rfl)
      try simp only [Act.put, List.setIfInBounds_toArray, List.set_cons_zero, List.set_cons_succ]
      refine AnyL.done (by kernel_rfl) ?_ _
      have HB8 := Lib.hid (HBT.out.trans (hb9.mono HBT.out.size))
      clear hHeld hb9 hb8 hS8 hbt KS8 CE HBT HBW
      have hgm : gk - 1 < gk := by omega
      go_wp2_with fail
      go_roundg (gk - 1)
      case measure => exact hgm
      case rel => exact ⟨j + 1, min lo x.1, max hi (en x), by rw [Int.natCast_succ], rfl, by rw [show max (hi : Int) ((x.1 : Int) + (x.2.length : Int)) = ((max hi (en x) : Nat) : Int) by omega], by omega, by omega, HLO.out, HHI.out, by have := HTK.out; omega, by omega, by omega, HB8.out⟩
    · have hno : ∀ o t, xs.drop j = o :: t → ¬ o.1 ≤ p + n := fun o t hd ho => by
        refine hgo ⟨o, ?_, ho⟩
        have := congrArg (fun l => l[0]?) hd
        simp only [List.getElem?_drop, Nat.add_zero, List.getElem?_cons_zero] at this
        exact this
      have hdone : lo = low ∧ hi = high ∧ j = jf := by
        cases hd : xs.drop j with
        | nil =>
          rw [hd] at hl hh ht
          exact ⟨hl, hh, ht⟩
        | cons o t =>
          have := hno o t hd
          rw [hd, lowR, if_neg this] at hl
          rw [hd, highR, if_neg this] at hh
          rw [hd, tkN, if_neg this] at ht
          exact ⟨hl, hh, ht⟩
      have hc2 : (∃ x, xs[j]? = some x ∧ ¬ x.1 ≤ p + n) ∨ nn ≤ j := by
        rcases Nat.lt_or_ge j nn with h | h
        · have hjx : j < xs.length := by have := HNN.out; omega
          exact .inl ⟨xs[j], List.getElem?_eq_getElem hjx, fun h2 => hgo ⟨xs[j], List.getElem?_eq_getElem hjx, h2⟩⟩
        · exact .inr h
      clear hl hh ht hgo hno
      obtain ⟨rfl, rfl, rfl⟩ := hdone
      rcases hc2 with ⟨x, hxi, hxl⟩ | hnj
      case inl =>
        have hjn2 : j < nn := by have := (List.getElem?_eq_some_iff.1 hxi).1; have := HNN.out; omega
        have hpe : p ≤ en x := HMEM.out x (List.mem_of_getElem? (i := j - fr) (by rw [List.getElem?_drop, show fr + (j - fr) = j by omega]; exact hxi))
        have hxe := HX.out x (List.mem_of_getElem? hxi)
        have hbw2 := hbw
        obtain ⟨L, Ax, cx, rfl, hLs, q9, q10, hBRx⟩ := (HDB.out.known.below hbw2).piece hxi
        have d5 : decide ((j : Int) < (nn : Int)) = true := by simp; omega
        have d6 : decide (x.1 ≤ p + n) = false := by simp; omega
        have CT := Lib.hid (touch_calls p n w1.heap.size w2.heap.size cx c x Ax A wr hpe (by omega) (by omega) k1 k2 hm0 hm1)
        have i1 : (j : Int) < (nn : Int) := by omega
        clear hxi hBRx hbw hbw2
        go_wp2_with fail
        refine (CT.out).mono ?_
        rintro e wt ⟨rfl, hbt⟩
        rw [d6]
        have HBX := Lib.hid (HBW.out.trans (hbt.mono HBW.out.size))
        obtain ⟨lA, hlA⟩ : ∃ lA, lA = (some (⟨L, 0, none⟩ : Addr)) := ⟨_, rfl⟩
        rw [← hlA] at HDB HD KS ⊢
        have HLA := Lib.hid hlA
        clear hbt CT d5 d6 i1 q9 q10 hlA hLs
        clear k0 k1 k2 k3 HBW
        obtain ⟨m, hm⟩ : ∃ m, hi - lo = m := ⟨_, rfl⟩
        have hsub : IntKind.i64.wrap ((hi : Int) - (lo : Int)) = (m : Int) := by
          rw [show (hi : Int) - (lo : Int) = (m : Int) by omega]
          exact wrap_small _ (by omega) (by omega)
        have hsub2 : (hi : Int) - (lo : Int) = (m : Int) := by omega
        have hsub3 : IntKind.i64.wrap (m : Int) = (m : Int) := wrap_small _ (by omega) (by omega)
        have hmk := print_make_int (P := Try.prog) 22 5 (.int .u8 0) 1 Try.underlying22 infoU8 rfl (by decide) (m : Int) (by omega) (by omega)
        rw [Int.toNat_natCast, made_bytes] at hmk
        have hmk2 := hmk wt
        have hb2 : Below wt.heap.size wt (wt.alloc (.cells (nums .u8 (List.replicate m 0)).toArray 5)) := (Below.refl _ _).alloc (Nat.le_refl _) _
        have hO := heap_alloc_new wt (.cells (nums .u8 (List.replicate m 0)).toArray 5)
        obtain ⟨wm, hwm⟩ : ∃ wm, wt.alloc (.cells (nums .u8 (List.replicate m 0)).toArray 5) = wm := ⟨_, rfl⟩
        rw [hwm] at hb2 hO hmk2
        have HBM := Lib.hid (HBX.out.trans (hb2.mono HBX.out.size))
        have HO := Lib.hid hO
        have hOw : wB.heap.size ≤ wt.heap.size := HBX.out.size
        have hcl : nn ≤ cl := by
          rcases HDB.out.known with ⟨_, h2, h3⟩ | ⟨_, _, _, _, _, h4, _⟩
          · have := HNN.out; rw [h2] at this; rw [← this]; exact Nat.zero_le _
          · have := HNN.out; omega
        have hseg := fun W => run_seg lA nn cl fr j (by omega) (by omega) W
        obtain ⟨SA, hSA⟩ : ∃ SA, segA lA cl fr = SA := ⟨_, rfl⟩
        obtain ⟨kk, hkk⟩ : ∃ kk, j - fr = kk := ⟨_, rfl⟩
        rw [hSA, hkk] at hseg
        have HSA := Lib.hid hSA
        obtain ⟨O, hOO⟩ : ∃ O, wt.heap.size = O := ⟨_, rfl⟩
        obtain ⟨k0, k1, k2, k3⟩ := KS.out _ HBM.out
        rw [hOO] at HO hOw hmk2
        clear hmk hb2 hO hwm hSA HBX
        go_wp2_with fail
        obtain ⟨fin, hfin⟩ : ∃ fin, cpF lo (List.replicate m 0) T = fin := ⟨_, rfl⟩
        have hbO : wB.heap.size ≤ O := hOw
        have HFIN := Lib.hid hfin
        go_loopw [83] (fun v83 wr => ∃ (i : Nat) (out : List Int), v83 = .int .i64 (i : Int) ∧ i ≤ kk ∧ out.length = m ∧ wr.heap[O]? = some (.cells (nums .u8 out).toArray 5 (0, 0)) ∧ Below wB.heap.size wB wr ∧ cpF lo out (T.drop i) = fin) (fun v83 _ => kk - (RowKit.intOf v83).toNat)
        case atStart => exact ⟨0, List.replicate m 0, rfl, Nat.zero_le _, List.length_replicate, HO.out, HBM.out, hfin⟩
        case round =>
          clear HO HBM hmk2 k0 k1 k2 k3 hfin hOO
          obtain ⟨i, out, rfl, hi_, hol, ho, hbr, hcp⟩ := hrel
          have HBR := Lib.hid hbr
          have HOR := Lib.hid ho
          have HCP := Lib.hid hcp
          clear hcp ho
          by_cases hik : i < kk
          · obtain ⟨x, hxi⟩ : ∃ x, T[i]? = some x := ⟨_, List.getElem?_eq_getElem (by have := HTL.out; omega)⟩
            have hx2 := HT.out i x hxi
            have hinx := HIN.out x (List.mem_of_getElem? hxi)
            have ex : en x = x.1 + x.2.length := rfl
            have hx0 := (HOK.out.mem x (List.mem_of_getElem? hx2)).2
            have hfi : fr + i < nn := by have := (List.getElem?_eq_some_iff.1 hx2).1; have := HNN.out; omega
            obtain ⟨L, Ax, cx, rfl, hLs, q9, q10, hBRx⟩ := (HDB.out.known.below hbr).piece hx2
            have hSA : SA = some ⟨L, fr * 2, none⟩ := by
              rw [← HSA.out]
              unfold segA
              rw [if_neg (by omega)]
              show some ((⟨L, 0, none⟩ : Addr).add (fr * 2)) = _
              rw [Addr.add_lit, Nat.zero_add]
            clear HSA
            subst hSA
            rw [show (fr + i) * 2 = fr * 2 + i * 2 by omega] at q9 q10
            have hdx : T.drop i = x :: T.drop (i + 1) := by
              obtain ⟨hb', he⟩ := List.getElem?_eq_some_iff.1 hxi
              rw [List.drop_eq_getElem_cons hb', he]
            have hcp := HCP.out
            rw [hdx, cpF] at hcp
            obtain ⟨k, hk⟩ : ∃ k, x.1 - lo = k := ⟨_, rfl⟩
            rw [hk] at hcp
            have d5 : decide ((i : Int) < (kk : Int)) = true := by simp; omega
            have i1 : (i : Int) < (kk : Int) := by omega
            have e1 : (x.1 : Int) - (lo : Int) = (k : Int) := by omega
            have e2 : IntKind.i64.wrap (k : Int) = (k : Int) := wrap_small _ (by omega) (by omega)
            have e3 : IntKind.i64.wrap ((x.1 : Int) - (lo : Int)) = (k : Int) := by rw [e1, e2]
            have i2 : (k : Int) ≤ (m : Int) := by omega
            have n2 : ¬ m = k := by omega
            have hba : Below wr.heap.size wr (wr.alloc (.cells #[.int .i64 (x.1 : Int), .slice Ax x.2.length cx] 32)) := (Below.refl _ _).alloc (Nat.le_refl _) _
            have hOa := heap_alloc_new wr (.cells #[.int .i64 (x.1 : Int), .slice Ax x.2.length cx] 32)
            have hOlt := (Array.getElem?_eq_some_iff.1 HOR.out).1
            obtain ⟨wa, hwa⟩ : ∃ wa, wr.alloc (.cells #[.int .i64 (x.1 : Int), .slice Ax x.2.length cx] 32) = wa := ⟨_, rfl⟩
            rw [hwa] at hba hOa
            have hrw : wr.heap.size < wa.heap.size := (Array.getElem?_eq_some_iff.1 hOa).1
            have s0 : wa.drew.cell? ⟨wr.heap.size, 0, none⟩ = some (.int .i64 (x.1 : Int)) ∧ wa.drew.cell? ⟨wr.heap.size, 1, none⟩ = some (.slice Ax x.2.length cx) := by
              have h1 : wa.drew.heap[wr.heap.size]? = some (.cells #[.int .i64 (x.1 : Int), .slice Ax x.2.length cx] 32 (0, 0)) := hOa
              exact ⟨by rw [Lib.cell_of_heap h1]; rfl, by rw [Lib.cell_of_heap h1]; rfl⟩
            have hbd : Below wr.heap.size wr wa.drew := below_drew1 hba
            obtain ⟨wc, zc, hrun, hrow, hbc, hoth⟩ := run_cpA wa.drew 22 3 Try.underlying22 O k Ax cx (m - k) out x.2 (hBRx.ba.keep hbd) (by omega) (by omega) ((hbd.block O hOlt).trans HOR.out)
            have s1 : wc.cell? ⟨wr.heap.size, 0, none⟩ = some (.int .i64 (x.1 : Int)) ∧ wc.cell? ⟨wr.heap.size, 1, none⟩ = some (.slice Ax x.2.length cx) := by
              have h1 := hoth wr.heap.size (by omega)
              exact ⟨(World.cell?_of_block (a := ⟨wr.heap.size, 0, none⟩) h1).trans s0.1, (World.cell?_of_block (a := ⟨wr.heap.size, 1, none⟩) h1).trans s0.2⟩
            have hbe := hbc wB wB.heap.size (below_drew1 (HBR.out.trans (hba.mono HBR.out.size))) hbO
            have hcl2 : (cp out k x.2).length = m := by rw [cp_length _ _ _ (by omega), hol]
            have HCP2 := Lib.hid hcp
            have HROW := Lib.hid hrow
            have HBE := Lib.hid hbe
            have HRUN := Lib.hid hrun
            have HCL2 := Lib.hid hcl2
            clear hcp hrow hbe hrun hbc hoth hba hOa hbd hBRx hdx hxi hx2 hcl2 hol HCP HOR hbr
            go_wp2_with fail
            clear hwa q9 q10
            refine AnyL.start (fun w' => w'.cell? ⟨wr.heap.size, 0, none⟩ = some (.int .i64 (x.1 : Int)) ∧ w'.cell? ⟨wr.heap.size, 1, none⟩ = some (.slice Ax x.2.length cx)) 99 (by kernel_rfl) s0 (fun hHeld => ?_)
            refine AnyL.take (i := 0) (v := ?vdl0) rfl (by kernel_rfl) (by kernel_rfl) (by kernel_rfl) (by kernel_rfl) (fun _ _ _ h => h) (by assumption) (Or.inl ⟨by rfl, ?dl0⟩) ?rdl0
            case dl0 => (intro w hSw; (try dsimp only at hSw); go_simp; try with_reducible rfl)
            try simp only [Act.put, List.setIfInBounds_toArray, List.set_cons_zero, List.set_cons_succ]
            refine AnyL.take (i := 1) (v := ?vdl1) rfl (by kernel_rfl) (by kernel_rfl) (by kernel_rfl) (by kernel_rfl) (fun _ _ _ h => h) (by assumption) (Or.inl ⟨by rfl, ?dl1⟩) ?rdl1
            case dl1 => (intro w hSw; (try dsimp only at hSw); go_simp; try with_reducible rfl)
            try simp only [Act.put, List.setIfInBounds_toArray, List.set_cons_zero, List.set_cons_succ]
            refine AnyL.take (i := 2) (v := ?vdl2) rfl (by kernel_rfl) (by kernel_rfl) (by kernel_rfl) (by kernel_rfl) (fun _ _ _ h => h) (by assumption) (Or.inl ⟨by rfl, ?dl2⟩) ?rdl2
            case dl2 => (intro w hSw; (try dsimp only at hSw); go_simp; try with_reducible rfl)
            try simp only [Act.put, List.setIfInBounds_toArray, List.set_cons_zero, List.set_cons_succ]
            refine AnyL.take (i := 3) (v := ?vdl3) rfl (by kernel_rfl) (by kernel_rfl) (by kernel_rfl) (by kernel_rfl) (fun _ _ _ h => h) (by assumption) (Or.inl ⟨by rfl, ?dl3⟩) ?rdl3
            case dl3 => (intro w hSw; (try dsimp only at hSw); go_simp; try with_reducible rfl)
            try simp only [Act.put, List.setIfInBounds_toArray, List.set_cons_zero, List.set_cons_succ]
            refine AnyL.take (i := 4) (v := ?vdl4) rfl (by kernel_rfl) (by kernel_rfl) (by kernel_rfl) (by kernel_rfl) (fun _ _ _ h => h) (by assumption) (Or.inl ⟨by rfl, ?dl4⟩) ?rdl4
            case dl4 => (intro w hSw; (try dsimp only at hSw); go_simp; try with_reducible rfl)
            try simp only [Act.put, List.setIfInBounds_toArray, List.set_cons_zero, List.set_cons_succ]
            refine AnyL.take (i := 5) (v := ?vdl5) rfl (by kernel_rfl) (by kernel_rfl) (by kernel_rfl) (by kernel_rfl) (fun _ _ _ h => h) (by assumption) (Or.inl ⟨by rfl, ?dl5⟩) ?rdl5
            case dl5 => (intro w hSw; (try dsimp only at hSw); go_simp; try with_reducible rfl)
            try simp only [Act.put, List.setIfInBounds_toArray, List.set_cons_zero, List.set_cons_succ]
            refine AnyL.take (i := 6) (v := ?vdl6) rfl (by kernel_rfl) (by kernel_rfl) (by kernel_rfl) (by kernel_rfl) (fun _ _ _ h => h) (by assumption) (Or.inl ⟨by rfl, ?dl6⟩) ?rdl6
            case dl6 => (intro w hSw; (try dsimp only at hSw); go_simp; try with_reducible rfl)
            try simp only [Act.put, List.setIfInBounds_toArray, List.set_cons_zero, List.set_cons_succ]
            refine AnyL.take (i := 7) (v := ?vdl7) rfl (by kernel_rfl) (by kernel_rfl) (by kernel_rfl) (by kernel_rfl) (fun _ _ _ h => h) (by assumption) (Or.inl ⟨by rfl, ?dl7⟩) ?rdl7
            case dl7 => (intro w hSw; (try dsimp only at hSw); go_simp; try with_reducible rfl)
            try simp only [Act.put, List.setIfInBounds_toArray, List.set_cons_zero, List.set_cons_succ]
            refine AnyL.one (i := 8) (by kernel_rfl) rfl (fun K hK => ?_)
            refine step_copy_run _ (by rfl) _ _ 22 (by rfl) (.slice (some ⟨O, k, none⟩) (m - k) (m - k)) (.slice Ax x.2.length cx) (by rfl) (by rfl) zc wc HRUN.out ?_
            refine hK.out _ _ (.inr s1) ?_
            clear hK K
            try simp only [Act.put, List.setIfInBounds_toArray, List.set_cons_zero, List.set_cons_succ]
            refine AnyL.done (by kernel_rfl) ?_ _
            clear hHeld s0 s1 d5 HRUN
            go_wp2_with fail
            go_roundw
            case rel => exact ⟨i + 1, cp out k x.2, by rw [Int.natCast_succ], hik, HCL2.out, HROW.out, HBE.out, HCP2.out⟩
            case measure => simp only [RowKit.intOf, Int.toNat_natCast]; omega
          · obtain rfl : i = kk := by omega
            have hof : out = fin := by
              have h1 := HCP.out
              rw [List.drop_eq_nil_of_le (by have := HTL.out; omega)] at h1
              exact h1
            obtain ⟨k, hk⟩ : ∃ k, p - lo = k := ⟨_, rfl⟩
            have d5 : decide ((i : Int) < (i : Int)) = false := by simp
            have e1 : (p : Int) - (lo : Int) = (k : Int) := by omega
            have e2 : IntKind.i64.wrap (k : Int) = (k : Int) := wrap_small _ (by omega) (by omega)
            have e3 : IntKind.i64.wrap ((p : Int) - (lo : Int)) = (k : Int) := by rw [e1, e2]
            have i2 : (k : Int) ≤ (m : Int) := by omega
            have n2 : ¬ m = k := by omega
            have hbd : Below wB.heap.size wB wr.drew := below_drew1 hbr
            obtain ⟨_, s01, s02, _⟩ := KS.out _ hbd
            have s0 := And.intro s01 s02
            have hnb := HN_.out
            obtain ⟨wc, zc, hrun, hrow, hbc, hoth⟩ := run_cpA wr.drew 22 3 Try.underlying22 O k A c (m - k) out bs (HRB.out.keep hbd) (by omega) (by omega) HOR.out
            rw [hnb] at hrun
            have hbe := hbc wB wB.heap.size hbd hbO
            obtain ⟨_, s11, s12, _⟩ := KS.out _ hbe
            have s1 := And.intro s11 s12
            have hal : (cp out k bs).length = m := by rw [cp_length _ _ _ (by omega), hol]
            obtain ⟨al, hale⟩ : ∃ al, cp out k bs = al := ⟨_, rfl⟩
            rw [hale] at hrow hal
            have hys : xs.take fr ++ (lo, al) :: xs.drop j = U.wr p bs xs := by rw [HSPEC.out, hm, HFIN.out, ← hof, hk, hale]
            have HRUN := Lib.hid hrun
            have HYS := Lib.hid hys
            -- the row, and what Replace makes of it
            obtain ⟨l, hrow0, hec, hone⟩ := HD.out.known.row
            have hBw : Below w.heap.size w wc := HBB.out.trans (hbe.mono HBB.out.size)
            have hbv : Below wc.heap.size wc (wc.drew.alloc (.cells #[.int .i64 (lo : Int), .slice (some ⟨O, 0, none⟩) m m] 32)) := (below_drew1 (Below.refl _ _)).alloc (Nat.le_refl _) _
            have hV := heap_alloc_new wc.drew (.cells #[.int .i64 (lo : Int), .slice (some ⟨O, 0, none⟩) m m] 32)
            have hBv := hBw.trans (hbv.mono hBw.size)
            have hOc := (Array.getElem?_eq_some_iff.1 hrow).1
            have hrowv := (hbv.block O hOc).trans hrow
            have hwc : w.heap.size ≤ wc.heap.size := hBw.size
            have hown : ∀ b, (Value.slice lA nn cl).ownBlock = some b → b < w.heap.size ∧ b ≠ C := fun b e => by
              have h1 := own_slice e HD.out.known.head
              obtain ⟨_, h2, cs, h3⟩ := HD.out.known.at_ h1
              exact ⟨h2, ne_block h3 HD.out.head (by decide)⟩
            have hr0 := hrow0
            rw [HNN.out] at hr0
            have cR := Replace_calls _ _ fr j l wc.heap.size (.int .i64 (lo : Int)) (.slice (some ⟨O, 0, none⟩) m m) _ (hr0.below hBv) hV (fun e => by have := (hown _ e).1; omega) rfl rfl (by omega) hj (by omega) hone
            obtain ⟨n5, hn5⟩ : ∃ n5, fr + 1 + (nn - j) = n5 := ⟨_, rfl⟩
            rw [hn5] at cR
            obtain ⟨wv, hwv⟩ : ∃ wv, wc.drew.alloc (.cells #[.int .i64 (lo : Int), .slice (some ⟨O, 0, none⟩) m m] 32) = wv := ⟨_, rfl⟩
            rw [hwv] at cR hbv hBv hrowv
            obtain ⟨t00, _, _, t03⟩ := KS.out _ (below_drew1 hbe)
            have t0 := And.intro t00 t03
            obtain ⟨t10, _, _, t13⟩ := KS.out _ (hbe.trans (hbv.mono hbe.size))
            have t1 := And.intro t10 t13
            have hCv : wv.heap[C]? = w.heap[C]? := hBv.block C HD.out.lt
            have CR := Lib.hid cR
            have HEC := Lib.hid hec
            have HR0 := Lib.hid hrow0
            have HBV := Lib.hid hBv
            have HRV := Lib.hid hrowv
            have HOWN := Lib.hid hown
            have HN5 := Lib.hid hn5
            have HAL := Lib.hid hal
            have hvs : wc.heap.size < wv.heap.size := by rw [← hwv]; simp
            have hH0 : w.heap.size < wv.heap.size := by omega
            have hCl2 : C < w.heap.size := HD.out.lt
            clear hrun hys cR hec hrow0 hr0 hBv hrowv hown hn5 hal hrow hoth hbc hbd hale hof hone hbv hV hnb hBw t00 t03 t10 t13 s01 s02 s11 s12 HCP HOR hbr hbe
            go_wp2_with fail
            refine AnyL.start (fun w' => w'.cell? ⟨w1.heap.size, 0, none⟩ = some (.int .i64 (p : Int)) ∧ w'.cell? ⟨w2.heap.size, 0, none⟩ = some (.slice A n c)) 99 (by kernel_rfl) s0 (fun hHeld => ?_)
            refine AnyL.take (i := 0) (v := ?vel0) rfl (by kernel_rfl) (by kernel_rfl) (by kernel_rfl) (by kernel_rfl) (fun _ _ _ h => h) (by assumption) (Or.inl ⟨by rfl, ?el0⟩) ?rel0
            case el0 => (intro w hSw; (try dsimp only at hSw); go_simp; try with_reducible rfl)
            try simp only [Act.put, List.setIfInBounds_toArray, List.set_cons_zero, List.set_cons_succ]
            refine AnyL.take (i := 1) (v := ?vel1) rfl (by kernel_rfl) (by kernel_rfl) (by kernel_rfl) (by kernel_rfl) (fun _ _ _ h => h) (by assumption) (Or.inl ⟨by rfl, ?el1⟩) ?rel1
            case el1 => (intro w hSw; (try dsimp only at hSw); go_simp; try with_reducible rfl)
            try simp only [Act.put, List.setIfInBounds_toArray, List.set_cons_zero, List.set_cons_succ]
            refine AnyL.take (i := 2) (v := ?vel2) rfl (by kernel_rfl) (by kernel_rfl) (by kernel_rfl) (by kernel_rfl) (fun _ _ _ h => h) (by assumption) (Or.inl ⟨by rfl, ?el2⟩) ?rel2
            case el2 => (intro w hSw; (try dsimp only at hSw); go_simp; try with_reducible rfl)
            try simp only [Act.put, List.setIfInBounds_toArray, List.set_cons_zero, List.set_cons_succ]
            refine AnyL.take (i := 3) (v := ?vel3) rfl (by kernel_rfl) (by kernel_rfl) (by kernel_rfl) (by kernel_rfl) (fun _ _ _ h => h) (by assumption) (Or.inl ⟨by rfl, ?el3⟩) ?rel3
            case el3 => (intro w hSw; (try dsimp only at hSw); go_simp; try with_reducible rfl)
            try simp only [Act.put, List.setIfInBounds_toArray, List.set_cons_zero, List.set_cons_succ]
            refine AnyL.take (i := 4) (v := ?vel4) rfl (by kernel_rfl) (by kernel_rfl) (by kernel_rfl) (by kernel_rfl) (fun _ _ _ h => h) (by assumption) (Or.inl ⟨by rfl, ?el4⟩) ?rel4
            case el4 => (intro w hSw; (try dsimp only at hSw); go_simp; try with_reducible rfl)
            try simp only [Act.put, List.setIfInBounds_toArray, List.set_cons_zero, List.set_cons_succ]
            refine AnyL.take (i := 5) (v := ?vel5) rfl (by kernel_rfl) (by kernel_rfl) (by kernel_rfl) (by kernel_rfl) (fun _ _ _ h => h) (by assumption) (Or.inl ⟨by rfl, ?el5⟩) ?rel5
            case el5 => (intro w hSw; (try dsimp only at hSw); go_simp; try with_reducible rfl)
            try simp only [Act.put, List.setIfInBounds_toArray, List.set_cons_zero, List.set_cons_succ]
            refine AnyL.one (i := 6) (by kernel_rfl) rfl (fun K hK => ?_)
            refine step_copy_run _ (by rfl) _ _ 22 (by rfl) (.slice (some ⟨O, k, none⟩) (m - k) (m - k)) (.slice A n c) (by rfl) (by rfl) zc wc HRUN.out ?_
            refine hK.out _ _ (.inr s1) ?_
            clear hK K
            try simp only [Act.put, List.setIfInBounds_toArray, List.set_cons_zero, List.set_cons_succ]
            refine AnyL.done (by kernel_rfl) ?_ _
            clear hHeld s0 s1 d5 HRUN
            go_wp2_with fail
            refine AnyL.start (fun w' => w'.cell? ⟨w.heap.size, 0, none⟩ = some (.pointer (some ⟨C, 0, none⟩)) ∧ w'.cell? ⟨C, 3, none⟩ = some (.slice lA nn cl)) 14 (by kernel_rfl) t0 (fun hHeld => ?_)
            refine AnyL.take (i := 0) (v := ?vfl0) rfl (by kernel_rfl) (by kernel_rfl) (by kernel_rfl) (by kernel_rfl) (fun _ _ _ h => h) (by assumption) (Or.inl ⟨by rfl, ?fl0⟩) ?rfl0
            case fl0 => (intro w hSw; (try dsimp only at hSw); go_simp; try with_reducible rfl)
            try simp only [Act.put, List.setIfInBounds_toArray, List.set_cons_zero, List.set_cons_succ]
            refine AnyL.take (i := 1) (v := ?vfl1) rfl (by kernel_rfl) (by kernel_rfl) (by kernel_rfl) (by kernel_rfl) (fun _ _ _ h => h) (by assumption) (Or.inl ⟨by rfl, ?fl1⟩) ?rfl1
            case fl1 => (intro w hSw; (try dsimp only at hSw); go_simp; try with_reducible rfl)
            try simp only [Act.put, List.setIfInBounds_toArray, List.set_cons_zero, List.set_cons_succ]
            refine AnyL.take (i := 2) (v := ?vfl2) rfl (by kernel_rfl) (by kernel_rfl) (by kernel_rfl) (by kernel_rfl) (fun _ _ _ h => h) (by assumption) (Or.inl ⟨by rfl, ?fl2⟩) ?rfl2
            case fl2 => (intro w hSw; (try dsimp only at hSw); go_simp; try with_reducible rfl)
            try simp only [Act.put, List.setIfInBounds_toArray, List.set_cons_zero, List.set_cons_succ]
            refine AnyL.take (i := 3) (v := ?vfl3) rfl (by kernel_rfl) (by kernel_rfl) (by kernel_rfl) (by kernel_rfl) (fun _ _ _ h => h) (by assumption) (Or.inl ⟨by rfl, ?fl3⟩) ?rfl3
            case fl3 => (intro w hSw; (try dsimp only at hSw); go_simp; try with_reducible rfl)
            try simp only [Act.put, List.setIfInBounds_toArray, List.set_cons_zero, List.set_cons_succ]
            refine AnyL.take (i := 4) (v := ?vfl4) rfl (by kernel_rfl) (by kernel_rfl) (by kernel_rfl) (by kernel_rfl) (fun _ _ _ h => h) (by assumption) (Or.inl ⟨by rfl, ?fl4⟩) ?rfl4
            case fl4 => (intro w hSw; (try dsimp only at hSw); go_simp; try with_reducible rfl)
            try simp only [Act.put, List.setIfInBounds_toArray, List.set_cons_zero, List.set_cons_succ]
            refine AnyL.take (i := 5) (v := ?vfl5) rfl (by kernel_rfl) (by kernel_rfl) (by kernel_rfl) (by kernel_rfl) (fun _ _ _ h => h) (by assumption) (Or.inl ⟨by rfl, ?fl5⟩) ?rfl5
            case fl5 => (intro w hSw; (try dsimp only at hSw); go_simp; try with_reducible rfl)
            try simp only [Act.put, List.setIfInBounds_toArray, List.set_cons_zero, List.set_cons_succ]
            refine AnyL.take (i := 6) (v := ?vfl6) rfl (by kernel_rfl) (by kernel_rfl) (by kernel_rfl) (by kernel_rfl) (fun _ _ _ h => h) (by assumption) (Or.inl ⟨by rfl, ?fl6⟩) ?rfl6
            case fl6 => (intro w hSw; (try dsimp only at hSw); go_simp; try with_reducible rfl)
            try simp only [Act.put, List.setIfInBounds_toArray, List.set_cons_zero, List.set_cons_succ]
            refine AnyL.take (i := 7) (v := ?vfl7) rfl (by kernel_rfl) (by kernel_rfl) (by kernel_rfl) (by kernel_rfl) (fun _ _ _ h => h) (by assumption) (Or.inl ⟨by rfl, ?fl7⟩) ?rfl7
            case fl7 => (intro w hSw; (try dsimp only at hSw); go_simp; try with_reducible rfl)
            try simp only [Act.put, List.setIfInBounds_toArray, List.set_cons_zero, List.set_cons_succ]
            refine AnyL.take (i := 8) (v := ?vfl8) rfl (by kernel_rfl) (by kernel_rfl) (by kernel_rfl) (by kernel_rfl) (fun _ _ _ h => h) (by assumption) (Or.inl ⟨by rfl, ?fl8⟩) ?rfl8
            case fl8 => (intro w hSw; (try dsimp only at hSw); go_simp; try with_reducible rfl)
            try simp only [Act.put, List.setIfInBounds_toArray, List.set_cons_zero, List.set_cons_succ]
            refine AnyL.take (i := 9) (v := ?vfl9) rfl (by kernel_rfl) (by kernel_rfl) (by kernel_rfl) (by kernel_rfl) (fun _ _ _ h => h) (by assumption) (Or.inl ⟨by rfl, ?fl9⟩) ?rfl9
            case fl9 => (intro w hSw; (try dsimp only at hSw); go_simp; try with_reducible rfl)
            try simp only [Act.put, List.setIfInBounds_toArray, List.set_cons_zero, List.set_cons_succ]
            refine AnyL.one (i := 10) (by kernel_rfl) rfl (fun K hK => ?_)
            go_simp
            try rw [hwv]
            refine hK.out _ _ (.inr t1) ?_
            clear hHeld
            have hHeld := t1
            clear hK K
            try simp only [Act.put, List.setIfInBounds_toArray, List.set_cons_zero, List.set_cons_succ]
            refine AnyL.one (i := 11) (by kernel_rfl) rfl (fun K hK => ?_)
            go_simp
            refine (CR.out).mono ?_
            rintro e w5 ⟨v5, rfl, hr5, hg5, hs5⟩
            obtain ⟨A5, c5, rfl⟩ := hr5.slice
            have hC5 : w5.heap[C]? = wv.heap[C]? := hg5.block C (by omega) (fun e => (HOWN.out _ e.symm).2 rfl)
            have hH5 : w5.heap[w.heap.size]? = wv.heap[w.heap.size]? := hg5.block _ hH0 (fun e => by have := (HOWN.out _ e.symm).1; omega)
            have t5 := And.intro ((World.cell?_of_block (a := ⟨w.heap.size, 0, none⟩) hH5).trans t1.1) ((World.cell?_of_block (a := ⟨C, 3, none⟩) hC5).trans t1.2)
            have f5 : w5.frozen? ⟨C, 3, none⟩ = false := Lib.frozen_of_heap ((hC5.trans hCv).trans HD.out.head) 3
            refine hK.out _ _ (.inr t5) ?_
            clear hHeld
            have hHeld := t5
            clear hK K
            try simp only [Act.put, List.setIfInBounds_toArray, List.set_cons_zero, List.set_cons_succ]
            refine AnyL.one (i := 12) (by kernel_rfl) rfl (fun K hK => ?_)
            go_simp
            refine hK.out _ _ (.inr hHeld) ?_
            clear hK K
            try simp only [Act.put, List.setIfInBounds_toArray, List.set_cons_zero, List.set_cons_succ]
            refine AnyL.take (i := 13) (v := ?vgl13) rfl (by kernel_rfl) (by kernel_rfl) (by kernel_rfl) (by kernel_rfl) (fun _ _ _ h => h) (by assumption) (Or.inl ⟨by rfl, ?gl13⟩) ?rgl13
            case gl13 => (intro w hSw; (try dsimp only at hSw); go_simp; try with_reducible rfl)
            try simp only [Act.put, List.setIfInBounds_toArray, List.set_cons_zero, List.set_cons_succ]
            refine AnyL.one (i := 14) (by kernel_rfl) rfl (fun K hK => ?_)
            have f53 := t5.2
            go_simp
            refine hK.out _ _ (.inl rfl) ?_
            clear hK K
            try simp only [Act.put, List.setIfInBounds_toArray, List.set_cons_zero, List.set_cons_succ]
            refine AnyL.done (by kernel_rfl) ?_ _
            have hfin5 := lay_end (x := (lo, al)) HD.out HBV.out HNK.out HEC.out HR0.out.1 HRV.out HAL.out.symm (by have := HBB.out.size; omega) hg5 hs5 hr5 HN5.out.symm HNN.out hj (by omega) HYS.out
            obtain ⟨c9, r1, r2, r3⟩ := hfin5
            have HR1 := Lib.hid r1
            have HR2 := Lib.hid r2
            have HR3 := Lib.hid r3
            clear r1 r2 r3 hHeld t0 t1 t5 f5 f53 hr5 hg5 hs5 CR
            go_wp2
            go_end0
            exact ⟨rfl, _, c9, HR1.out, by first | exact HR2.out | (rw [← HLA.out]; exact HR2.out), by first | exact HR3.out | (rw [← HLA.out]; exact HR3.out)⟩
      case inr =>
        have d5 : decide ((j : Int) < (nn : Int)) = false := by simp; omega
        have HBX := Lib.hid hbw
        clear hbw
        obtain ⟨wt, hwt⟩ : ∃ wt, wr = wt := ⟨_, rfl⟩
        rw [hwt] at HBX k0 k1 k2 k3 ⊢
        have p1 := k0
        have p3 := k3
        clear hwt
        clear k0 k1 k2 k3 HBW
        obtain ⟨m, hm⟩ : ∃ m, hi - lo = m := ⟨_, rfl⟩
        have hsub : IntKind.i64.wrap ((hi : Int) - (lo : Int)) = (m : Int) := by
          rw [show (hi : Int) - (lo : Int) = (m : Int) by omega]
          exact wrap_small _ (by omega) (by omega)
        have hsub2 : (hi : Int) - (lo : Int) = (m : Int) := by omega
        have hsub3 : IntKind.i64.wrap (m : Int) = (m : Int) := wrap_small _ (by omega) (by omega)
        have hmk := print_make_int (P := Try.prog) 22 5 (.int .u8 0) 1 Try.underlying22 infoU8 rfl (by decide) (m : Int) (by omega) (by omega)
        rw [Int.toNat_natCast, made_bytes] at hmk
        have hmk2 := hmk wt
        have hb2 : Below wt.heap.size wt (wt.alloc (.cells (nums .u8 (List.replicate m 0)).toArray 5)) := (Below.refl _ _).alloc (Nat.le_refl _) _
        have hO := heap_alloc_new wt (.cells (nums .u8 (List.replicate m 0)).toArray 5)
        obtain ⟨wm, hwm⟩ : ∃ wm, wt.alloc (.cells (nums .u8 (List.replicate m 0)).toArray 5) = wm := ⟨_, rfl⟩
        rw [hwm] at hb2 hO hmk2
        have HBM := Lib.hid (HBX.out.trans (hb2.mono HBX.out.size))
        have HO := Lib.hid hO
        have hOw : wB.heap.size ≤ wt.heap.size := HBX.out.size
        have hcl : nn ≤ cl := by
          rcases HDB.out.known with ⟨_, h2, h3⟩ | ⟨_, _, _, _, _, h4, _⟩
          · have := HNN.out; rw [h2] at this; rw [← this]; exact Nat.zero_le _
          · have := HNN.out; omega
        have hseg := fun W => run_seg lA nn cl fr j (by omega) (by omega) W
        obtain ⟨SA, hSA⟩ : ∃ SA, segA lA cl fr = SA := ⟨_, rfl⟩
        obtain ⟨kk, hkk⟩ : ∃ kk, j - fr = kk := ⟨_, rfl⟩
        rw [hSA, hkk] at hseg
        have HSA := Lib.hid hSA
        obtain ⟨O, hOO⟩ : ∃ O, wt.heap.size = O := ⟨_, rfl⟩
        obtain ⟨k0, k1, k2, k3⟩ := KS.out _ HBM.out
        rw [hOO] at HO hOw hmk2
        clear hmk hb2 hO hwm hSA HBX
        go_wp2_with fail
        clear d5 p1 p3
        obtain ⟨fin, hfin⟩ : ∃ fin, cpF lo (List.replicate m 0) T = fin := ⟨_, rfl⟩
        have hbO : wB.heap.size ≤ O := hOw
        have HFIN := Lib.hid hfin
        go_loopw [83] (fun v83 wr => ∃ (i : Nat) (out : List Int), v83 = .int .i64 (i : Int) ∧ i ≤ kk ∧ out.length = m ∧ wr.heap[O]? = some (.cells (nums .u8 out).toArray 5 (0, 0)) ∧ Below wB.heap.size wB wr ∧ cpF lo out (T.drop i) = fin) (fun v83 _ => kk - (RowKit.intOf v83).toNat)
        case atStart => exact ⟨0, List.replicate m 0, rfl, Nat.zero_le _, List.length_replicate, HO.out, HBM.out, hfin⟩
        case round =>
          clear HO HBM hmk2 k0 k1 k2 k3 hfin hOO
          obtain ⟨i, out, rfl, hi_, hol, ho, hbr, hcp⟩ := hrel
          have HBR := Lib.hid hbr
          have HOR := Lib.hid ho
          have HCP := Lib.hid hcp
          clear hcp ho
          by_cases hik : i < kk
          · obtain ⟨x, hxi⟩ : ∃ x, T[i]? = some x := ⟨_, List.getElem?_eq_getElem (by have := HTL.out; omega)⟩
            have hx2 := HT.out i x hxi
            have hinx := HIN.out x (List.mem_of_getElem? hxi)
            have ex : en x = x.1 + x.2.length := rfl
            have hx0 := (HOK.out.mem x (List.mem_of_getElem? hx2)).2
            have hfi : fr + i < nn := by have := (List.getElem?_eq_some_iff.1 hx2).1; have := HNN.out; omega
            obtain ⟨L, Ax, cx, rfl, hLs, q9, q10, hBRx⟩ := (HDB.out.known.below hbr).piece hx2
            have hSA : SA = some ⟨L, fr * 2, none⟩ := by
              rw [← HSA.out]
              unfold segA
              rw [if_neg (by omega)]
              show some ((⟨L, 0, none⟩ : Addr).add (fr * 2)) = _
              rw [Addr.add_lit, Nat.zero_add]
            clear HSA
            subst hSA
            rw [show (fr + i) * 2 = fr * 2 + i * 2 by omega] at q9 q10
            have hdx : T.drop i = x :: T.drop (i + 1) := by
              obtain ⟨hb', he⟩ := List.getElem?_eq_some_iff.1 hxi
              rw [List.drop_eq_getElem_cons hb', he]
            have hcp := HCP.out
            rw [hdx, cpF] at hcp
            obtain ⟨k, hk⟩ : ∃ k, x.1 - lo = k := ⟨_, rfl⟩
            rw [hk] at hcp
            have d5 : decide ((i : Int) < (kk : Int)) = true := by simp; omega
            have i1 : (i : Int) < (kk : Int) := by omega
            have e1 : (x.1 : Int) - (lo : Int) = (k : Int) := by omega
            have e2 : IntKind.i64.wrap (k : Int) = (k : Int) := wrap_small _ (by omega) (by omega)
            have e3 : IntKind.i64.wrap ((x.1 : Int) - (lo : Int)) = (k : Int) := by rw [e1, e2]
            have i2 : (k : Int) ≤ (m : Int) := by omega
            have n2 : ¬ m = k := by omega
            have hba : Below wr.heap.size wr (wr.alloc (.cells #[.int .i64 (x.1 : Int), .slice Ax x.2.length cx] 32)) := (Below.refl _ _).alloc (Nat.le_refl _) _
            have hOa := heap_alloc_new wr (.cells #[.int .i64 (x.1 : Int), .slice Ax x.2.length cx] 32)
            have hOlt := (Array.getElem?_eq_some_iff.1 HOR.out).1
            obtain ⟨wa, hwa⟩ : ∃ wa, wr.alloc (.cells #[.int .i64 (x.1 : Int), .slice Ax x.2.length cx] 32) = wa := ⟨_, rfl⟩
            rw [hwa] at hba hOa
            have hrw : wr.heap.size < wa.heap.size := (Array.getElem?_eq_some_iff.1 hOa).1
            have s0 : wa.drew.cell? ⟨wr.heap.size, 0, none⟩ = some (.int .i64 (x.1 : Int)) ∧ wa.drew.cell? ⟨wr.heap.size, 1, none⟩ = some (.slice Ax x.2.length cx) := by
              have h1 : wa.drew.heap[wr.heap.size]? = some (.cells #[.int .i64 (x.1 : Int), .slice Ax x.2.length cx] 32 (0, 0)) := hOa
              exact ⟨by rw [Lib.cell_of_heap h1]; rfl, by rw [Lib.cell_of_heap h1]; rfl⟩
            have hbd : Below wr.heap.size wr wa.drew := below_drew1 hba
            obtain ⟨wc, zc, hrun, hrow, hbc, hoth⟩ := run_cpA wa.drew 22 3 Try.underlying22 O k Ax cx (m - k) out x.2 (hBRx.ba.keep hbd) (by omega) (by omega) ((hbd.block O hOlt).trans HOR.out)
            have s1 : wc.cell? ⟨wr.heap.size, 0, none⟩ = some (.int .i64 (x.1 : Int)) ∧ wc.cell? ⟨wr.heap.size, 1, none⟩ = some (.slice Ax x.2.length cx) := by
              have h1 := hoth wr.heap.size (by omega)
              exact ⟨(World.cell?_of_block (a := ⟨wr.heap.size, 0, none⟩) h1).trans s0.1, (World.cell?_of_block (a := ⟨wr.heap.size, 1, none⟩) h1).trans s0.2⟩
            have hbe := hbc wB wB.heap.size (below_drew1 (HBR.out.trans (hba.mono HBR.out.size))) hbO
            have hcl2 : (cp out k x.2).length = m := by rw [cp_length _ _ _ (by omega), hol]
            have HCP2 := Lib.hid hcp
            have HROW := Lib.hid hrow
            have HBE := Lib.hid hbe
            have HRUN := Lib.hid hrun
            have HCL2 := Lib.hid hcl2
            clear hcp hrow hbe hrun hbc hoth hba hOa hbd hBRx hdx hxi hx2 hcl2 hol HCP HOR hbr
            go_wp2_with fail
            clear hwa q9 q10
            refine AnyL.start (fun w' => w'.cell? ⟨wr.heap.size, 0, none⟩ = some (.int .i64 (x.1 : Int)) ∧ w'.cell? ⟨wr.heap.size, 1, none⟩ = some (.slice Ax x.2.length cx)) 99 (by kernel_rfl) s0 (fun hHeld => ?_)
            refine AnyL.take (i := 0) (v := ?vdr0) rfl (by kernel_rfl) (by kernel_rfl) (by kernel_rfl) (by kernel_rfl) (fun _ _ _ h => h) (by assumption) (Or.inl ⟨by rfl, ?dr0⟩) ?rdr0
            case dr0 => (intro w hSw; (try dsimp only at hSw); go_simp; try with_reducible rfl)
            try simp only [Act.put, List.setIfInBounds_toArray, List.set_cons_zero, List.set_cons_succ]
            refine AnyL.take (i := 1) (v := ?vdr1) rfl (by kernel_rfl) (by kernel_rfl) (by kernel_rfl) (by kernel_rfl) (fun _ _ _ h => h) (by assumption) (Or.inl ⟨by rfl, ?dr1⟩) ?rdr1
            case dr1 => (intro w hSw; (try dsimp only at hSw); go_simp; try with_reducible rfl)
            try simp only [Act.put, List.setIfInBounds_toArray, List.set_cons_zero, List.set_cons_succ]
            refine AnyL.take (i := 2) (v := ?vdr2) rfl (by kernel_rfl) (by kernel_rfl) (by kernel_rfl) (by kernel_rfl) (fun _ _ _ h => h) (by assumption) (Or.inl ⟨by rfl, ?dr2⟩) ?rdr2
            case dr2 => (intro w hSw; (try dsimp only at hSw); go_simp; try with_reducible rfl)
            try simp only [Act.put, List.setIfInBounds_toArray, List.set_cons_zero, List.set_cons_succ]
            refine AnyL.take (i := 3) (v := ?vdr3) rfl (by kernel_rfl) (by kernel_rfl) (by kernel_rfl) (by kernel_rfl) (fun _ _ _ h => h) (by assumption) (Or.inl ⟨by rfl, ?dr3⟩) ?rdr3
            case dr3 => (intro w hSw; (try dsimp only at hSw); go_simp; try with_reducible rfl)
            try simp only [Act.put, List.setIfInBounds_toArray, List.set_cons_zero, List.set_cons_succ]
            refine AnyL.take (i := 4) (v := ?vdr4) rfl (by kernel_rfl) (by kernel_rfl) (by kernel_rfl) (by kernel_rfl) (fun _ _ _ h => h) (by assumption) (Or.inl ⟨by rfl, ?dr4⟩) ?rdr4
            case dr4 => (intro w hSw; (try dsimp only at hSw); go_simp; try with_reducible rfl)
            try simp only [Act.put, List.setIfInBounds_toArray, List.set_cons_zero, List.set_cons_succ]
            refine AnyL.take (i := 5) (v := ?vdr5) rfl (by kernel_rfl) (by kernel_rfl) (by kernel_rfl) (by kernel_rfl) (fun _ _ _ h => h) (by assumption) (Or.inl ⟨by rfl, ?dr5⟩) ?rdr5
            case dr5 => (intro w hSw; (try dsimp only at hSw); go_simp; try with_reducible rfl)
            try simp only [Act.put, List.setIfInBounds_toArray, List.set_cons_zero, List.set_cons_succ]
            refine AnyL.take (i := 6) (v := ?vdr6) rfl (by kernel_rfl) (by kernel_rfl) (by kernel_rfl) (by kernel_rfl) (fun _ _ _ h => h) (by assumption) (Or.inl ⟨by rfl, ?dr6⟩) ?rdr6
            case dr6 => (intro w hSw; (try dsimp only at hSw); go_simp; try with_reducible rfl)
            try simp only [Act.put, List.setIfInBounds_toArray, List.set_cons_zero, List.set_cons_succ]
            refine AnyL.take (i := 7) (v := ?vdr7) rfl (by kernel_rfl) (by kernel_rfl) (by kernel_rfl) (by kernel_rfl) (fun _ _ _ h => h) (by assumption) (Or.inl ⟨by rfl, ?dr7⟩) ?rdr7
            case dr7 => (intro w hSw; (try dsimp only at hSw); go_simp; try with_reducible rfl)
            try simp only [Act.put, List.setIfInBounds_toArray, List.set_cons_zero, List.set_cons_succ]
            refine AnyL.one (i := 8) (by kernel_rfl) rfl (fun K hK => ?_)
            refine step_copy_run _ (by rfl) _ _ 22 (by rfl) (.slice (some ⟨O, k, none⟩) (m - k) (m - k)) (.slice Ax x.2.length cx) (by rfl) (by rfl) zc wc HRUN.out ?_
            refine hK.out _ _ (.inr s1) ?_
            clear hK K
            try simp only [Act.put, List.setIfInBounds_toArray, List.set_cons_zero, List.set_cons_succ]
            refine AnyL.done (by kernel_rfl) ?_ _
            clear hHeld s0 s1 d5 HRUN
            go_wp2_with fail
            go_roundw
            case rel => exact ⟨i + 1, cp out k x.2, by rw [Int.natCast_succ], hik, HCL2.out, HROW.out, HBE.out, HCP2.out⟩
            case measure => simp only [RowKit.intOf, Int.toNat_natCast]; omega
          · obtain rfl : i = kk := by omega
            have hof : out = fin := by
              have h1 := HCP.out
              rw [List.drop_eq_nil_of_le (by have := HTL.out; omega)] at h1
              exact h1
            obtain ⟨k, hk⟩ : ∃ k, p - lo = k := ⟨_, rfl⟩
            have d5 : decide ((i : Int) < (i : Int)) = false := by simp
            have e1 : (p : Int) - (lo : Int) = (k : Int) := by omega
            have e2 : IntKind.i64.wrap (k : Int) = (k : Int) := wrap_small _ (by omega) (by omega)
            have e3 : IntKind.i64.wrap ((p : Int) - (lo : Int)) = (k : Int) := by rw [e1, e2]
            have i2 : (k : Int) ≤ (m : Int) := by omega
            have n2 : ¬ m = k := by omega
            have hbd : Below wB.heap.size wB wr.drew := below_drew1 hbr
            obtain ⟨_, s01, s02, _⟩ := KS.out _ hbd
            have s0 := And.intro s01 s02
            have hnb := HN_.out
            obtain ⟨wc, zc, hrun, hrow, hbc, hoth⟩ := run_cpA wr.drew 22 3 Try.underlying22 O k A c (m - k) out bs (HRB.out.keep hbd) (by omega) (by omega) HOR.out
            rw [hnb] at hrun
            have hbe := hbc wB wB.heap.size hbd hbO
            obtain ⟨_, s11, s12, _⟩ := KS.out _ hbe
            have s1 := And.intro s11 s12
            have hal : (cp out k bs).length = m := by rw [cp_length _ _ _ (by omega), hol]
            obtain ⟨al, hale⟩ : ∃ al, cp out k bs = al := ⟨_, rfl⟩
            rw [hale] at hrow hal
            have hys : xs.take fr ++ (lo, al) :: xs.drop j = U.wr p bs xs := by rw [HSPEC.out, hm, HFIN.out, ← hof, hk, hale]
            have HRUN := Lib.hid hrun
            have HYS := Lib.hid hys
            -- the row, and what Replace makes of it
            obtain ⟨l, hrow0, hec, hone⟩ := HD.out.known.row
            have hBw : Below w.heap.size w wc := HBB.out.trans (hbe.mono HBB.out.size)
            have hbv : Below wc.heap.size wc (wc.drew.alloc (.cells #[.int .i64 (lo : Int), .slice (some ⟨O, 0, none⟩) m m] 32)) := (below_drew1 (Below.refl _ _)).alloc (Nat.le_refl _) _
            have hV := heap_alloc_new wc.drew (.cells #[.int .i64 (lo : Int), .slice (some ⟨O, 0, none⟩) m m] 32)
            have hBv := hBw.trans (hbv.mono hBw.size)
            have hOc := (Array.getElem?_eq_some_iff.1 hrow).1
            have hrowv := (hbv.block O hOc).trans hrow
            have hwc : w.heap.size ≤ wc.heap.size := hBw.size
            have hown : ∀ b, (Value.slice lA nn cl).ownBlock = some b → b < w.heap.size ∧ b ≠ C := fun b e => by
              have h1 := own_slice e HD.out.known.head
              obtain ⟨_, h2, cs, h3⟩ := HD.out.known.at_ h1
              exact ⟨h2, ne_block h3 HD.out.head (by decide)⟩
            have hr0 := hrow0
            rw [HNN.out] at hr0
            have cR := Replace_calls _ _ fr j l wc.heap.size (.int .i64 (lo : Int)) (.slice (some ⟨O, 0, none⟩) m m) _ (hr0.below hBv) hV (fun e => by have := (hown _ e).1; omega) rfl rfl (by omega) hj (by omega) hone
            obtain ⟨n5, hn5⟩ : ∃ n5, fr + 1 + (nn - j) = n5 := ⟨_, rfl⟩
            rw [hn5] at cR
            obtain ⟨wv, hwv⟩ : ∃ wv, wc.drew.alloc (.cells #[.int .i64 (lo : Int), .slice (some ⟨O, 0, none⟩) m m] 32) = wv := ⟨_, rfl⟩
            rw [hwv] at cR hbv hBv hrowv
            obtain ⟨t00, _, _, t03⟩ := KS.out _ (below_drew1 hbe)
            have t0 := And.intro t00 t03
            obtain ⟨t10, _, _, t13⟩ := KS.out _ (hbe.trans (hbv.mono hbe.size))
            have t1 := And.intro t10 t13
            have hCv : wv.heap[C]? = w.heap[C]? := hBv.block C HD.out.lt
            have CR := Lib.hid cR
            have HEC := Lib.hid hec
            have HR0 := Lib.hid hrow0
            have HBV := Lib.hid hBv
            have HRV := Lib.hid hrowv
            have HOWN := Lib.hid hown
            have HN5 := Lib.hid hn5
            have HAL := Lib.hid hal
            have hvs : wc.heap.size < wv.heap.size := by rw [← hwv]; simp
            have hH0 : w.heap.size < wv.heap.size := by omega
            have hCl2 : C < w.heap.size := HD.out.lt
            clear hrun hys cR hec hrow0 hr0 hBv hrowv hown hn5 hal hrow hoth hbc hbd hale hof hone hbv hV hnb hBw t00 t03 t10 t13 s01 s02 s11 s12 HCP HOR hbr hbe
            go_wp2_with fail
            refine AnyL.start (fun w' => w'.cell? ⟨w1.heap.size, 0, none⟩ = some (.int .i64 (p : Int)) ∧ w'.cell? ⟨w2.heap.size, 0, none⟩ = some (.slice A n c)) 99 (by kernel_rfl) s0 (fun hHeld => ?_)
            refine AnyL.take (i := 0) (v := ?ver0) rfl (by kernel_rfl) (by kernel_rfl) (by kernel_rfl) (by kernel_rfl) (fun _ _ _ h => h) (by assumption) (Or.inl ⟨by rfl, ?er0⟩) ?rer0
            case er0 => (intro w hSw; (try dsimp only at hSw); go_simp; try with_reducible rfl)
            try simp only [Act.put, List.setIfInBounds_toArray, List.set_cons_zero, List.set_cons_succ]
            refine AnyL.take (i := 1) (v := ?ver1) rfl (by kernel_rfl) (by kernel_rfl) (by kernel_rfl) (by kernel_rfl) (fun _ _ _ h => h) (by assumption) (Or.inl ⟨by rfl, ?er1⟩) ?rer1
            case er1 => (intro w hSw; (try dsimp only at hSw); go_simp; try with_reducible rfl)
            try simp only [Act.put, List.setIfInBounds_toArray, List.set_cons_zero, List.set_cons_succ]
            refine AnyL.take (i := 2) (v := ?ver2) rfl (by kernel_rfl) (by kernel_rfl) (by kernel_rfl) (by kernel_rfl) (fun _ _ _ h => h) (by assumption) (Or.inl ⟨by rfl, ?er2⟩) ?rer2
            case er2 => (intro w hSw; (try dsimp only at hSw); go_simp; try with_reducible rfl)
            try simp only [Act.put, List.setIfInBounds_toArray, List.set_cons_zero, List.set_cons_succ]
            refine AnyL.take (i := 3) (v := ?ver3) rfl (by kernel_rfl) (by kernel_rfl) (by kernel_rfl) (by kernel_rfl) (fun _ _ _ h => h) (by assumption) (Or.inl ⟨by rfl, ?er3⟩) ?rer3
            case er3 => (intro w hSw; (try dsimp only at hSw); go_simp; try with_reducible rfl)
            try simp only [Act.put, List.setIfInBounds_toArray, List.set_cons_zero, List.set_cons_succ]
            refine AnyL.take (i := 4) (v := ?ver4) rfl (by kernel_rfl) (by kernel_rfl) (by kernel_rfl) (by kernel_rfl) (fun _ _ _ h => h) (by assumption) (Or.inl ⟨by rfl, ?er4⟩) ?rer4
            case er4 => (intro w hSw; (try dsimp only at hSw); go_simp; try with_reducible rfl)
            try simp only [Act.put, List.setIfInBounds_toArray, List.set_cons_zero, List.set_cons_succ]
            refine AnyL.take (i := 5) (v := ?ver5) rfl (by kernel_rfl) (by kernel_rfl) (by kernel_rfl) (by kernel_rfl) (fun _ _ _ h => h) (by assumption) (Or.inl ⟨by rfl, ?er5⟩) ?rer5
            case er5 => (intro w hSw; (try dsimp only at hSw); go_simp; try with_reducible rfl)
            try simp only [Act.put, List.setIfInBounds_toArray, List.set_cons_zero, List.set_cons_succ]
            refine AnyL.one (i := 6) (by kernel_rfl) rfl (fun K hK => ?_)
            refine step_copy_run _ (by rfl) _ _ 22 (by rfl) (.slice (some ⟨O, k, none⟩) (m - k) (m - k)) (.slice A n c) (by rfl) (by rfl) zc wc HRUN.out ?_
            refine hK.out _ _ (.inr s1) ?_
            clear hK K
            try simp only [Act.put, List.setIfInBounds_toArray, List.set_cons_zero, List.set_cons_succ]
            refine AnyL.done (by kernel_rfl) ?_ _
            clear hHeld s0 s1 d5 HRUN
            go_wp2_with fail
            refine AnyL.start (fun w' => w'.cell? ⟨w.heap.size, 0, none⟩ = some (.pointer (some ⟨C, 0, none⟩)) ∧ w'.cell? ⟨C, 3, none⟩ = some (.slice lA nn cl)) 14 (by kernel_rfl) t0 (fun hHeld => ?_)
            refine AnyL.take (i := 0) (v := ?vfr0) rfl (by kernel_rfl) (by kernel_rfl) (by kernel_rfl) (by kernel_rfl) (fun _ _ _ h => h) (by assumption) (Or.inl ⟨by rfl, ?fr0⟩) ?rfr0
            case fr0 => (intro w hSw; (try dsimp only at hSw); go_simp; try with_reducible rfl)
            try simp only [Act.put, List.setIfInBounds_toArray, List.set_cons_zero, List.set_cons_succ]
            refine AnyL.take (i := 1) (v := ?vfr1) rfl (by kernel_rfl) (by kernel_rfl) (by kernel_rfl) (by kernel_rfl) (fun _ _ _ h => h) (by assumption) (Or.inl ⟨by rfl, ?fr1⟩) ?rfr1
            case fr1 => (intro w hSw; (try dsimp only at hSw); go_simp; try with_reducible rfl)
            try simp only [Act.put, List.setIfInBounds_toArray, List.set_cons_zero, List.set_cons_succ]
            refine AnyL.take (i := 2) (v := ?vfr2) rfl (by kernel_rfl) (by kernel_rfl) (by kernel_rfl) (by kernel_rfl) (fun _ _ _ h => h) (by assumption) (Or.inl ⟨by rfl, ?fr2⟩) ?rfr2
            case fr2 => (intro w hSw; (try dsimp only at hSw); go_simp; try with_reducible rfl)
            try simp only [Act.put, List.setIfInBounds_toArray, List.set_cons_zero, List.set_cons_succ]
            refine AnyL.take (i := 3) (v := ?vfr3) rfl (by kernel_rfl) (by kernel_rfl) (by kernel_rfl) (by kernel_rfl) (fun _ _ _ h => h) (by assumption) (Or.inl ⟨by rfl, ?fr3⟩) ?rfr3
            case fr3 => (intro w hSw; (try dsimp only at hSw); go_simp; try with_reducible rfl)
            try simp only [Act.put, List.setIfInBounds_toArray, List.set_cons_zero, List.set_cons_succ]
            refine AnyL.take (i := 4) (v := ?vfr4) rfl (by kernel_rfl) (by kernel_rfl) (by kernel_rfl) (by kernel_rfl) (fun _ _ _ h => h) (by assumption) (Or.inl ⟨by rfl, ?fr4⟩) ?rfr4
            case fr4 => (intro w hSw; (try dsimp only at hSw); go_simp; try with_reducible rfl)
            try simp only [Act.put, List.setIfInBounds_toArray, List.set_cons_zero, List.set_cons_succ]
            refine AnyL.take (i := 5) (v := ?vfr5) rfl (by kernel_rfl) (by kernel_rfl) (by kernel_rfl) (by kernel_rfl) (fun _ _ _ h => h) (by assumption) (Or.inl ⟨by rfl, ?fr5⟩) ?rfr5
            case fr5 => (intro w hSw; (try dsimp only at hSw); go_simp; try with_reducible rfl)
            try simp only [Act.put, List.setIfInBounds_toArray, List.set_cons_zero, List.set_cons_succ]
            refine AnyL.take (i := 6) (v := ?vfr6) rfl (by kernel_rfl) (by kernel_rfl) (by kernel_rfl) (by kernel_rfl) (fun _ _ _ h => h) (by assumption) (Or.inl ⟨by rfl, ?fr6⟩) ?rfr6
            case fr6 => (intro w hSw; (try dsimp only at hSw); go_simp; try with_reducible rfl)
            try simp only [Act.put, List.setIfInBounds_toArray, List.set_cons_zero, List.set_cons_succ]
            refine AnyL.take (i := 7) (v := ?vfr7) rfl (by kernel_rfl) (by kernel_rfl) (by kernel_rfl) (by kernel_rfl) (fun _ _ _ h => h) (by assumption) (Or.inl ⟨by rfl, ?fr7⟩) ?rfr7
            case fr7 => (intro w hSw; (try dsimp only at hSw); go_simp; try with_reducible rfl)
            try simp only [Act.put, List.setIfInBounds_toArray, List.set_cons_zero, List.set_cons_succ]
            refine AnyL.take (i := 8) (v := ?vfr8) rfl (by kernel_rfl) (by kernel_rfl) (by kernel_rfl) (by kernel_rfl) (fun _ _ _ h => h) (by assumption) (Or.inl ⟨by rfl, ?fr8⟩) ?rfr8
            case fr8 => (intro w hSw; (try dsimp only at hSw); go_simp; try with_reducible rfl)
            try simp only [Act.put, List.setIfInBounds_toArray, List.set_cons_zero, List.set_cons_succ]
            refine AnyL.take (i := 9) (v := ?vfr9) rfl (by kernel_rfl) (by kernel_rfl) (by kernel_rfl) (by kernel_rfl) (fun _ _ _ h => h) (by assumption) (Or.inl ⟨by rfl, ?fr9⟩) ?rfr9
            case fr9 => (intro w hSw; (try dsimp only at hSw); go_simp; try with_reducible rfl)
            try simp only [Act.put, List.setIfInBounds_toArray, List.set_cons_zero, List.set_cons_succ]
            refine AnyL.one (i := 10) (by kernel_rfl) rfl (fun K hK => ?_)
            go_simp
            try rw [hwv]
            refine hK.out _ _ (.inr t1) ?_
            clear hHeld
            have hHeld := t1
            clear hK K
            try simp only [Act.put, List.setIfInBounds_toArray, List.set_cons_zero, List.set_cons_succ]
            refine AnyL.one (i := 11) (by kernel_rfl) rfl (fun K hK => ?_)
            go_simp
            refine (CR.out).mono ?_
            rintro e w5 ⟨v5, rfl, hr5, hg5, hs5⟩
            obtain ⟨A5, c5, rfl⟩ := hr5.slice
            have hC5 : w5.heap[C]? = wv.heap[C]? := hg5.block C (by omega) (fun e => (HOWN.out _ e.symm).2 rfl)
            have hH5 : w5.heap[w.heap.size]? = wv.heap[w.heap.size]? := hg5.block _ hH0 (fun e => by have := (HOWN.out _ e.symm).1; omega)
            have t5 := And.intro ((World.cell?_of_block (a := ⟨w.heap.size, 0, none⟩) hH5).trans t1.1) ((World.cell?_of_block (a := ⟨C, 3, none⟩) hC5).trans t1.2)
            have f5 : w5.frozen? ⟨C, 3, none⟩ = false := Lib.frozen_of_heap ((hC5.trans hCv).trans HD.out.head) 3
            refine hK.out _ _ (.inr t5) ?_
            clear hHeld
            have hHeld := t5
            clear hK K
            try simp only [Act.put, List.setIfInBounds_toArray, List.set_cons_zero, List.set_cons_succ]
            refine AnyL.one (i := 12) (by kernel_rfl) rfl (fun K hK => ?_)
            go_simp
            refine hK.out _ _ (.inr hHeld) ?_
            clear hK K
            try simp only [Act.put, List.setIfInBounds_toArray, List.set_cons_zero, List.set_cons_succ]
            refine AnyL.take (i := 13) (v := ?vgr13) rfl (by kernel_rfl) (by kernel_rfl) (by kernel_rfl) (by kernel_rfl) (fun _ _ _ h => h) (by assumption) (Or.inl ⟨by rfl, ?gr13⟩) ?rgr13
            case gr13 => (intro w hSw; (try dsimp only at hSw); go_simp; try with_reducible rfl)
            try simp only [Act.put, List.setIfInBounds_toArray, List.set_cons_zero, List.set_cons_succ]
            refine AnyL.one (i := 14) (by kernel_rfl) rfl (fun K hK => ?_)
            have f53 := t5.2
            go_simp
            refine hK.out _ _ (.inl rfl) ?_
            clear hK K
            try simp only [Act.put, List.setIfInBounds_toArray, List.set_cons_zero, List.set_cons_succ]
            refine AnyL.done (by kernel_rfl) ?_ _
            have hfin5 := lay_end (x := (lo, al)) HD.out HBV.out HNK.out HEC.out HR0.out.1 HRV.out HAL.out.symm (by have := HBB.out.size; omega) hg5 hs5 hr5 HN5.out.symm HNN.out hj (by omega) HYS.out
            obtain ⟨c9, r1, r2, r3⟩ := hfin5
            have HR1 := Lib.hid r1
            have HR2 := Lib.hid r2
            have HR3 := Lib.hid r3
            clear r1 r2 r3 hHeld t0 t1 t5 f5 f53 hr5 hg5 hs5 CR
            go_wp2
            go_end0
            exact ⟨rfl, _, c9, HR1.out, by first | exact HR2.out | (rw [← HLA.out]; exact HR2.out), by first | exact HR3.out | (rw [← HLA.out]; exact HR3.out)⟩
end Go.Proofs.Ytbnkiefchbcfgaa.U
