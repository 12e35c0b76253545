/- The document's file (bytes, and which of them were written) beside the pieces: what each act does to both. -/
import Derived.Test.YtjochldpacgcgaaEspec
set_option linter.unusedVariables false
set_option linter.unusedSimpArgs false
namespace Go.Proofs.Ytjochldpacgcgaa.U

theorem ct_high {size k : Nat} {t : List Ext} (h : Ok k t) (hs : size ≤ k) : ct size t = [] := by
  cases t with
  | nil => rfl
  | cons x t => rw [ct, if_pos (Nat.le_trans hs h.1)]
theorem ct_none (i : Nat) : ∀ (xs : List Ext) (k : Nat), Ok k xs → look xs i = none → ct (i + 1) xs = ct i xs := by
  intro xs
  induction xs with
  | nil => intro k _ _; rfl
  | cons x t ih =>
    intro k h hl
    rw [ct, ct]
    by_cases h1 : i < x.1
    · rw [if_pos (by omega), if_pos (by omega)]
    · by_cases h2 : i < en x
      · exact absurd hl ((look_head h).2.1 i (by omega) h2)
      · rw [look_out (by omega)] at hl
        have e : en x = x.1 + x.2.length := rfl
        have := h.2.1
        rw [if_neg (by omega), if_neg (by omega), List.take_of_length_le (by omega), List.take_of_length_le (by omega), ih _ h.2.2 hl]
theorem ct_new (i : Nat) (b : Int) : ∀ (xs : List Ext) (k : Nat), Ok k xs → look xs i = some b → (i = 0 ∨ look xs (i - 1) = none) → ct (i + 1) xs = ct i xs ++ [(i, [b])] := by
  intro xs
  induction xs with
  | nil => intro k _ h _; cases h
  | cons x t ih =>
    intro k h hl hp
    have e : en x = x.1 + x.2.length := rfl
    have h0 := h.2.1
    rw [ct, ct]
    by_cases h1 : i < x.1
    · rw [look_low (x :: t) x.1 i ⟨Nat.le_refl _, h.2⟩ h1] at hl
      cases hl
    · by_cases h2 : i < en x
      · have hi : i = x.1 := by
          rcases Nat.lt_or_ge x.1 i with h3 | h3
          · rcases hp with hp | hp
            · omega
            · exact absurd hp ((look_head h).2.1 (i - 1) (by omega) (by omega))
          · omega
        subst hi
        rw [look_in (by omega) (by omega), Nat.sub_self] at hl
        rw [if_neg (by omega), if_pos (by omega), ct_high h.2.2 (by omega), Nat.add_sub_cancel_left]
        show [(x.1, x.2.take 1)] = [(x.1, [b])]
        cases hx : x.2 with
        | nil => rw [hx] at h0; exact absurd h0 (by decide)
        | cons y l =>
          rw [hx] at hl
          injection hl with hl
          rw [hl]
          rfl
      · rw [look_out (by omega)] at hl
        have hi : en x + 1 ≤ i := by
          rcases Nat.lt_or_ge i (en x + 1) with h3 | h3
          · rw [look_low t _ i h.2.2 h3] at hl
            cases hl
          · exact h3
        rw [if_neg (by omega), if_neg (by omega), List.take_of_length_le (by omega), List.take_of_length_le (by omega), ih _ h.2.2 hl ?_]
        · rfl
        · rcases hp with hp | hp
          · omega
          · right
            rwa [look_out (by omega)] at hp
theorem ct_more (i : Nat) (b : Int) : ∀ (xs : List Ext) (k : Nat), Ok k xs → look xs (i + 1) = some b → look xs i ≠ none → ∃ l x, ct (i + 1) xs = l ++ [x] ∧ ct (i + 2) xs = l ++ [(x.1, x.2 ++ [b])] := by
  intro xs
  induction xs with
  | nil => intro k _ h _; cases h
  | cons x t ih =>
    intro k h hl hp
    have e : en x = x.1 + x.2.length := rfl
    have h0 := h.2.1
    by_cases h1 : i < x.1
    · exact absurd (look_low (x :: t) x.1 i ⟨Nat.le_refl _, h.2⟩ h1) hp
    · by_cases h2 : i + 1 < en x
      · rw [look_in (by omega) h2] at hl
        refine ⟨[], (x.1, x.2.take (i + 1 - x.1)), ?_, ?_⟩
        · rw [ct, if_neg (by omega), ct_high h.2.2 (by omega)]
          rfl
        · rw [ct, if_neg (by omega), ct_high h.2.2 (by omega), show i + 2 - x.1 = i + 1 - x.1 + 1 by omega, List.take_add_one, hl]
          rfl
      · rw [look_out (by omega)] at hl
        have hi : en x < i + 1 := by
          rcases Nat.lt_or_ge (i + 1) (en x + 1) with h3 | h3
          · rw [look_low t _ _ h.2.2 h3] at hl
            cases hl
          · omega
        rw [look_out (by omega)] at hp
        obtain ⟨l, y, r1, r2⟩ := ih _ h.2.2 hl hp
        refine ⟨x :: l, y, ?_, ?_⟩
        · rw [ct, if_neg (by omega), List.take_of_length_le (by omega), r1]
          rfl
        · rw [ct, if_neg (by omega), List.take_of_length_le (by omega), r2]
          rfl
theorem ct_all (m : Nat) : ∀ (xs : List Ext) (k : Nat), Ok k xs → (∀ x ∈ xs, en x ≤ m) → ct m xs = xs := by
  intro xs
  induction xs with
  | nil => intro k _ _; rfl
  | cons x t ih =>
    intro k h hm
    have e : en x = x.1 + x.2.length := rfl
    have h0 := h.2.1
    have := hm x List.mem_cons_self
    rw [ct, if_neg (by omega), List.take_of_length_le (by omega), ih _ h.2.2 (fun y hy => hm y (List.mem_cons_of_mem _ hy))]

/-- What the document's file is beside the pieces. -/
structure Rel (size : Nat) (xs : List Ext) (B : List Int) (Z : List Bool) : Prop where
  ok : Ok 0 xs
  top : ∀ x ∈ xs, en x ≤ size
  bl : B.length = size
  zl : Z.length = size
  at_ : ∀ (i : Nat) (z : Bool), Z[i]? = some z → look xs i = if z then B[i]? else none
  zero : ∀ i : Nat, Z[i]? = some false → B[i]? = some 0
theorem Rel.nil : Rel 0 [] [] [] := ⟨trivial, fun x hx => (by cases hx), rfl, rfl, fun i z h => (by cases h), fun i h => (by cases h)⟩
theorem Rel.read {size : Nat} {xs : List Ext} {B : List Int} {Z : List Bool} (h : Rel size xs B Z) (p m : Nat) (hm : p + m ≤ size) : bytesAt xs p m = (B.drop p).take m := by
  apply List.ext_getElem?
  intro j
  unfold bytesAt
  rw [List.getElem?_map, List.getElem?_take, List.getElem?_drop]
  by_cases hj : j < m
  · rw [if_pos hj, List.getElem?_range hj, Option.map_some]
    obtain ⟨z, hz⟩ : ∃ z, Z[p + j]? = some z := ⟨_, List.getElem?_eq_getElem (by rw [h.zl]; omega)⟩
    obtain ⟨b, hb⟩ : ∃ b, B[p + j]? = some b := ⟨_, List.getElem?_eq_getElem (by rw [h.bl]; omega)⟩
    have h1 := h.at_ _ _ hz
    cases z with
    | true => rw [h1, if_pos rfl, hb]; rfl
    | false =>
      have h2 := h.zero _ hz
      rw [h1, h2]
      rfl
  · rw [if_neg hj, List.getElem?_eq_none (by simp; omega)]
    rfl
/-- The document's Cut. -/
def rcut {α : Type} (d : α) (n : Nat) (l : List α) : List α := l.take n ++ List.replicate (n - l.length) d
theorem rcut_length {α : Type} (d : α) (n : Nat) (l : List α) : (rcut d n l).length = n := by
  unfold rcut
  rw [List.length_append, List.length_take, List.length_replicate]
  omega
theorem rcut_get {α : Type} (d : α) (n : Nat) (l : List α) (i : Nat) : (rcut d n l)[i]? = if i < n then (if i < l.length then l[i]? else some d) else none := by
  unfold rcut
  by_cases hi : i < n
  · rw [if_pos hi]
    by_cases hl : i < l.length
    · rw [if_pos hl, List.getElem?_append_left (by rw [List.length_take]; omega), List.getElem?_take, if_pos hi]
    · rw [if_neg hl, List.getElem?_append_right (by rw [List.length_take]; omega), List.getElem?_replicate, if_pos (by rw [List.length_take]; omega)]
  · rw [if_neg hi, List.getElem?_eq_none]
    rw [List.length_append, List.length_take, List.length_replicate]
    omega
theorem Rel.cut {size : Nat} {xs : List Ext} {B : List Int} {Z : List Bool} (h : Rel size xs B Z) (n : Nat) : Rel n (ct n xs) (rcut 0 n B) (rcut false n Z) := by
  obtain ⟨r1, r2, r3⟩ := ct_spec n xs 0 h.ok
  refine ⟨r1, r3, rcut_length _ _ _, rcut_length _ _ _, fun i z hz => ?_, fun i hz => ?_⟩
  · rw [rcut_get] at hz
    by_cases hi : i < n
    · rw [if_pos hi, h.zl] at hz
      rw [r2, if_pos hi, rcut_get, if_pos hi, h.bl]
      by_cases hs : i < size
      · rw [if_pos hs] at hz ⊢
        exact h.at_ i z hz
      · rw [if_neg hs] at hz
        injection hz with hz
        subst hz
        rw [look_end xs 0 size i h.ok h.top (by omega)]
        rfl
    · rw [if_neg hi] at hz
      cases hz
  · rw [rcut_get] at hz ⊢
    by_cases hi : i < n
    · rw [if_pos hi, h.zl] at hz
      rw [if_pos hi, h.bl]
      by_cases hs : i < size
      · rw [if_pos hs] at hz ⊢
        exact h.zero i hz
      · rw [if_neg hs]
    · rw [if_neg hi] at hz
      cases hz
/-- The document's Write: laid over. -/
def rput {α : Type} (p : Nat) (b l : List α) : List α := l.take p ++ b ++ l.drop (p + b.length)
theorem rput_length {α : Type} {p : Nat} {b l : List α} (h : p + b.length ≤ l.length) : (rput p b l).length = l.length := by
  unfold rput
  simp only [List.length_append, List.length_take, List.length_drop]
  omega
theorem rput_get {α : Type} {p : Nat} {b l : List α} (h : p + b.length ≤ l.length) (i : Nat) : (rput p b l)[i]? = if p ≤ i ∧ i < p + b.length then b[i - p]? else l[i]? := by
  unfold rput
  have hl : (l.take p).length = p := by rw [List.length_take]; omega
  by_cases h1 : i < p
  · rw [if_neg (by omega), List.append_assoc, List.getElem?_append_left (by omega), List.getElem?_take, if_pos h1]
  · by_cases h2 : i < p + b.length
    · rw [if_pos ⟨by omega, h2⟩, List.append_assoc, List.getElem?_append_right (by omega), hl, List.getElem?_append_left (by omega)]
    · rw [if_neg (by omega), List.getElem?_append_right (by rw [List.length_append]; omega), List.getElem?_drop, List.length_append, hl]
      congr 1
      omega
theorem Rel.size_of {size n : Nat} {xs : List Ext} {B : List Int} {Z : List Bool} (h : Rel size xs B Z) (hn : size = n) : Rel n xs B Z := hn ▸ h
/-- Growing alone. -/
theorem Rel.grow {size : Nat} {xs : List Ext} {B : List Int} {Z : List Bool} (h : Rel size xs B Z) (n : Nat) (hn : size ≤ n) : Rel n xs (rcut 0 n B) (rcut false n Z) := by
  have := h.cut n
  rwa [ct_all n xs 0 h.ok (fun x hx => Nat.le_trans (h.top x hx) hn)] at this
theorem Rel.lay {size : Nat} {xs : List Ext} {B : List Int} {Z : List Bool} (h : Rel size xs B Z) (p : Nat) (b : List Int) (hb : 0 < b.length) (hp : p + b.length ≤ size) : Rel size (wr p b xs) (rput p b B) (rput p (List.replicate b.length true) Z) := by
  obtain ⟨r1, r2⟩ := wr_spec p b hb xs 0 h.ok (Nat.zero_le _)
  have hzl : p + (List.replicate b.length true).length ≤ Z.length := by rw [List.length_replicate, h.zl]; exact hp
  have hbl : p + b.length ≤ B.length := by rw [h.bl]; exact hp
  refine ⟨r1, fun x hx => ?_, by rw [rput_length hbl, h.bl], by rw [rput_length hzl, h.zl], fun i z hz => ?_, fun i hz => ?_⟩
  · have := wr_end hb h.ok h.top x hx
    omega
  · rw [rput_get hzl, List.length_replicate] at hz
    rw [r2, rput_get hbl]
    by_cases hi : p ≤ i ∧ i < p + b.length
    · rw [if_pos hi, List.getElem?_replicate, if_pos (by omega)] at hz
      injection hz with hz
      subst hz
      rw [if_pos hi, if_pos hi, if_pos rfl]
    · rw [if_neg hi] at hz
      rw [if_neg hi, if_neg hi]
      exact h.at_ i z hz
  · rw [rput_get hzl, List.length_replicate] at hz
    rw [rput_get hbl]
    by_cases hi : p ≤ i ∧ i < p + b.length
    · rw [if_pos hi, List.getElem?_replicate, if_pos (by omega)] at hz
      cases hz
    · rw [if_neg hi] at hz ⊢
      exact h.zero i hz
def rgrow {α : Type} (d : α) (n : Nat) (l : List α) : List α := if l.length < n then rcut d n l else l
theorem Rel.write {size : Nat} {xs : List Ext} {B : List Int} {Z : List Bool} (h : Rel size xs B Z) (p : Nat) (b : List Int) (hb : 0 < b.length) :
    Rel (max size (p + b.length)) (wr p b xs) (rput p b (rgrow 0 (p + b.length) B)) (rput p (List.replicate b.length true) (rgrow false (p + b.length) Z)) := by
  unfold rgrow
  by_cases hs : size < p + b.length
  · rw [if_pos (by rw [h.bl]; exact hs), if_pos (by rw [h.zl]; exact hs), Nat.max_eq_right (by omega)]
    exact (h.grow _ (by omega)).lay p b hb (Nat.le_refl _)
  · rw [if_neg (by rw [h.bl]; exact hs), if_neg (by rw [h.zl]; exact hs), Nat.max_eq_left (by omega)]
    exact h.lay p b hb (by omega)
end Go.Proofs.Ytjochldpacgcgaa.U
