/- The texts Uspec, Uunits, Ubuild, Ufold, Uorder, Ualike, Gspec, Ggreedy, Gasked, Gfits, Gwalk, one behind the other. -/
import Derived.Lib.ValidLaws
import Derived.Lib.RuneBytes
import Derived.Test.YtkdjkndnilmjmaaDoorShelf
import Derived.WalkKit
import Derived.Lib.OthersKept
import Derived.Lib.Hide
import Derived.Lib.FrozenHead2
import Derived.Lib.Builder
import Derived.Shelf.Strings.BuilderK
import Derived.Test.YtkdjkndnilmjmaaDoorWWords
import Derived.Laws.AppendOwn
import Derived.Deep.QuietTactic
import Derived.BigQuiet
import Derived.Laws.IdiomStrings
import Derived.WalkMore
/- Texts as lists of bytes: letters, their bytes, folding; plain Lean over the library's decoder. No program, no condition. -/
set_option linter.unusedVariables false
namespace Go.Proofs.YtkdjkndnilmjmaaDoor.U
open Go.Lib

/-- At the head of l: a byte that belongs to no letter. -/
def Bad (l : List UInt8) : Prop := (decodeL l).1 = 65533 ∧ (decodeL l).2 = 1
instance (l : List UInt8) : Decidable (Bad l) := inferInstanceAs (Decidable (_ ∧ _))

/-- The letter at the head; a byte that belongs to none is one above all. -/
def letter1 (l : List UInt8) : Nat := if Bad l then 1114112 + (l.headD 0).toNat else (decodeL l).1
theorem letter1_good {l : List UInt8} {r wd : Nat} (h : decodeL l = (r, wd)) (hb : ¬ (r = 65533 ∧ wd = 1)) : letter1 l = r := by
  have : ¬ Bad l := by unfold Bad; rw [h]; exact hb
  unfold letter1
  rw [if_neg this, h]
theorem letter1_bad {l : List UInt8} (h : decodeL l = (65533, 1)) : letter1 l = 1114112 + (l.headD 0).toNat := by
  have : Bad l := by unfold Bad; rw [h]; exact ⟨rfl, rfl⟩
  unfold letter1
  rw [if_pos this]
def lettersN : Nat → List UInt8 → List Nat
  | 0, _ => []
  | n + 1, l => if l = [] then [] else letter1 l :: lettersN n (l.drop (decodeL l).2)
def letters (l : List UInt8) : List Nat := lettersN l.length l

theorem lettersN_nil : ∀ n, lettersN n [] = []
  | 0 => rfl
  | n + 1 => by simp [lettersN]
theorem lettersN_fuel : ∀ (n m : Nat) (l : List UInt8), l.length ≤ n → l.length ≤ m → lettersN n l = lettersN m l
  | 0, m, l, hn, _ => by
    have : l = [] := List.eq_nil_of_length_eq_zero (by omega)
    subst this
    rw [lettersN_nil, lettersN_nil]
  | n + 1, 0, l, _, hm => by
    have : l = [] := List.eq_nil_of_length_eq_zero (by omega)
    subst this
    rw [lettersN_nil, lettersN_nil]
  | n + 1, m + 1, l, hn, hm => by
    unfold lettersN
    by_cases hne : l = []
    · simp [hne]
    · have hw := decodeL_width l
      have hl : 0 < l.length := List.length_pos_iff.2 hne
      rw [if_neg hne, if_neg hne, lettersN_fuel n m (l.drop (decodeL l).2) (by rw [List.length_drop]; omega) (by rw [List.length_drop]; omega)]
theorem letters_nil : letters [] = [] := rfl
theorem letters_step (l : List UInt8) (hne : l ≠ []) : letters l = letter1 l :: letters (l.drop (decodeL l).2) := by
  have hl : 0 < l.length := List.length_pos_iff.2 hne
  have hw := decodeL_width l
  obtain ⟨n, hn⟩ : ∃ n, l.length = n + 1 := ⟨l.length - 1, by omega⟩
  unfold letters
  rw [hn]
  show (if l = [] then [] else _) = _
  rw [if_neg hne, lettersN_fuel n (l.drop (decodeL l).2).length _ (by rw [List.length_drop]; omega) (Nat.le_refl _)]

/-- A rule of induction: what is left behind a letter is shorter. -/
theorem by_letters {p : List UInt8 → Prop} (h0 : p []) (h1 : ∀ l, l ≠ [] → p (l.drop (decodeL l).2) → p l) : ∀ l, p l := by
  have go : ∀ n (l : List UInt8), l.length ≤ n → p l := by
    intro n
    induction n with
    | zero =>
      intro l hl
      have : l = [] := List.eq_nil_of_length_eq_zero (by omega)
      subst this
      exact h0
    | succ n ih =>
      intro l hl
      by_cases hne : l = []
      · subst hne; exact h0
      · have hw := decodeL_width l
        have hl0 : 0 < l.length := List.length_pos_iff.2 hne
        exact h1 l hne (ih _ (by rw [List.length_drop]; omega))
  exact fun l => go l.length l (Nat.le_refl _)

/-- The bytes of a letter, by its number; of one above all its own byte. -/
def enc (n : Nat) : List UInt8 :=
  if n < 128 then [UInt8.ofNat n]
  else if n < 2048 then [UInt8.ofNat (192 + n / 64), UInt8.ofNat (128 + n % 64)]
  else if n < 65536 then [UInt8.ofNat (224 + n / 4096), UInt8.ofNat (128 + n / 64 % 64), UInt8.ofNat (128 + n % 64)]
  else if n < 1114112 then [UInt8.ofNat (240 + n / 262144), UInt8.ofNat (128 + n / 4096 % 64), UInt8.ofNat (128 + n / 64 % 64), UInt8.ofNat (128 + n % 64)]
  else [UInt8.ofNat (n - 1114112)]

/-- A letter's number. -/
def IsLetter (n : Nat) : Prop := n < 55296 ∨ (57344 ≤ n ∧ n < 1114112)
instance (n : Nat) : Decidable (IsLetter n) := inferInstanceAs (Decidable (_ ∨ _))

theorem byte_eq {a : UInt8} {n : Nat} (h : a.toNat = n) : UInt8.ofNat n = a := by
  subst h
  simp

/-- What may stand at the head. -/
theorem shape (l : List UInt8) (hne : l ≠ []) :
    (∃ a t, l = a :: t ∧ a.toNat < 128 ∧ decodeL l = (a.toNat, 1)) ∨
    (∃ a b t, l = a :: b :: t ∧ a.toNat / 32 = 6 ∧ b.toNat / 64 = 2 ∧ 128 ≤ a.toNat % 32 * 64 + b.toNat % 64 ∧ decodeL l = (a.toNat % 32 * 64 + b.toNat % 64, 2)) ∨
    (∃ a b c t, l = a :: b :: c :: t ∧ a.toNat / 16 = 14 ∧ b.toNat / 64 = 2 ∧ c.toNat / 64 = 2 ∧ 2048 ≤ a.toNat % 16 * 4096 + b.toNat % 64 * 64 + c.toNat % 64 ∧
      (a.toNat % 16 * 4096 + b.toNat % 64 * 64 + c.toNat % 64 < 55296 ∨ 57344 ≤ a.toNat % 16 * 4096 + b.toNat % 64 * 64 + c.toNat % 64) ∧
      decodeL l = (a.toNat % 16 * 4096 + b.toNat % 64 * 64 + c.toNat % 64, 3)) ∨
    (∃ a b c d t, l = a :: b :: c :: d :: t ∧ a.toNat / 8 = 30 ∧ b.toNat / 64 = 2 ∧ c.toNat / 64 = 2 ∧ d.toNat / 64 = 2 ∧
      65536 ≤ a.toNat % 8 * 262144 + b.toNat % 64 * 4096 + c.toNat % 64 * 64 + d.toNat % 64 ∧ a.toNat % 8 * 262144 + b.toNat % 64 * 4096 + c.toNat % 64 * 64 + d.toNat % 64 ≤ 1114111 ∧
      decodeL l = (a.toNat % 8 * 262144 + b.toNat % 64 * 4096 + c.toNat % 64 * 64 + d.toNat % 64, 4)) ∨
    (∃ a t, l = a :: t ∧ 128 ≤ a.toNat ∧ decodeL l = (65533, 1)) := by
  cases l with
  | nil => exact absurd rfl hne
  | cons a t =>
    by_cases ha : a.toNat < 128
    · exact .inl ⟨a, t, rfl, ha, decodeL_ascii a t ha⟩
    · have hN := decodeL_N (a :: t)
      rcases decodeN_shape (a :: t).length ((a :: t).getD 0 0).toNat ((a :: t).getD 1 0).toNat ((a :: t).getD 2 0).toNat ((a :: t).getD 3 0).toNat with ⟨c, e⟩ | ⟨c1, c2, c3, cv, e⟩ | ⟨c1, c2, c3, c4, cv, cs, e⟩ | ⟨c1, c2, c3, c4, c5, cv, cw, e⟩ | e
      · exact absurd c ha
      · rcases t with _ | ⟨b, t⟩
        · exact absurd c2 (by simp only [List.length_cons, List.length_nil]; omega)
        · exact .inr (.inl ⟨a, b, t, rfl, c1, c3, cv, hN.trans e⟩)
      · rcases t with _ | ⟨b, _ | ⟨c, t⟩⟩
        · exact absurd c2 (by simp only [List.length_cons, List.length_nil]; omega)
        · exact absurd c2 (by simp only [List.length_cons, List.length_nil]; omega)
        · exact .inr (.inr (.inl ⟨a, b, c, t, rfl, c1, c3, c4, cv, cs, hN.trans e⟩))
      · rcases t with _ | ⟨b, _ | ⟨c, _ | ⟨d, t⟩⟩⟩
        · exact absurd c2 (by simp only [List.length_cons, List.length_nil]; omega)
        · exact absurd c2 (by simp only [List.length_cons, List.length_nil]; omega)
        · exact absurd c2 (by simp only [List.length_cons, List.length_nil]; omega)
        · exact .inr (.inr (.inr (.inl ⟨a, b, c, d, t, rfl, c1, c3, c4, c5, cv, cw, hN.trans e⟩)))
      · exact .inr (.inr (.inr (.inr ⟨a, t, rfl, by omega, hN.trans e⟩)))

/-- The head's bytes are its letter's. -/
theorem head_enc (l : List UInt8) (hne : l ≠ []) : l = enc (letter1 l) ++ l.drop (decodeL l).2 := by
  rcases shape l hne with ⟨a, t, rfl, ha, e⟩ | ⟨a, b, t, rfl, c1, c3, cv, e⟩ | ⟨a, b, c, t, rfl, c1, c3, c4, cv, cs, e⟩ | ⟨a, b, c, d, t, rfl, c1, c3, c4, c5, cv, cw, e⟩ | ⟨a, t, rfl, ha, e⟩
  · have hb : ¬ Bad (a :: t) := by unfold Bad; rw [e]; simp; omega
    unfold letter1 enc
    rw [if_neg hb, e]
    dsimp only
    rw [if_pos ha, byte_eq rfl]
    rfl
  · have hb : ¬ Bad (a :: b :: t) := by unfold Bad; rw [e]; simp
    have h1 := a.toNat_lt
    have h2 := b.toNat_lt
    unfold letter1 enc
    rw [if_neg hb, e]
    dsimp only
    rw [if_neg (by omega), if_pos (by omega), byte_eq (a := a) (by omega), byte_eq (a := b) (by omega)]
    rfl
  · have hb : ¬ Bad (a :: b :: c :: t) := by unfold Bad; rw [e]; simp
    have h1 := a.toNat_lt
    have h2 := b.toNat_lt
    have h3 := c.toNat_lt
    unfold letter1 enc
    rw [if_neg hb, e]
    dsimp only
    rw [if_neg (by omega), if_neg (by omega), if_pos (by omega), byte_eq (a := a) (by omega), byte_eq (a := b) (by omega), byte_eq (a := c) (by omega)]
    rfl
  · have hb : ¬ Bad (a :: b :: c :: d :: t) := by unfold Bad; rw [e]; simp
    have h1 := a.toNat_lt
    have h2 := b.toNat_lt
    have h3 := c.toNat_lt
    have h4 := d.toNat_lt
    unfold letter1 enc
    rw [if_neg hb, e]
    dsimp only
    rw [if_neg (by omega), if_neg (by omega), if_neg (by omega), if_pos (by omega), byte_eq (a := a) (by omega), byte_eq (a := b) (by omega), byte_eq (a := c) (by omega), byte_eq (a := d) (by omega)]
    rfl
  · have hb : Bad (a :: t) := by unfold Bad; rw [e]; simp
    have h1 : letter1 (a :: t) = 1114112 + a.toNat := by unfold letter1; rw [if_pos hb]; rfl
    rw [h1, e]
    unfold enc
    rw [if_neg (by omega), if_neg (by omega), if_neg (by omega), if_neg (by omega), byte_eq (a := a) (by omega)]
    rfl

/-- A text is its letters' bytes. -/
theorem enc_letters : ∀ l : List UInt8, (letters l).flatMap enc = l := by
  refine by_letters rfl ?_
  intro l hne ih
  rw [letters_step l hne, List.flatMap_cons, ih]
  exact (head_enc l hne).symm
theorem letters_inj {a b : List UInt8} (h : letters a = letters b) : a = b := by
  rw [← enc_letters a, ← enc_letters b, h]

/-- A letter's bytes are read as it, whatever follows. -/
theorem decode_enc (n : Nat) (hn : IsLetter n) (t : List UInt8) : decodeL (enc n ++ t) = (n, (enc n).length) ∧ ¬ Bad (enc n ++ t) := by
  have key : decodeL (enc n ++ t) = (n, (enc n).length) := by
    unfold IsLetter at hn
    rw [decodeL_N]
    unfold enc
    by_cases h1 : n < 128
    · simp only [if_pos h1]
      simp [decodeN, Nat.mod_eq_of_lt (show n < 256 by omega)]
      omega
    · by_cases h2 : n < 2048
      · simp only [if_neg h1, if_pos h2]
        have e1 : (192 + n / 64) % 256 = 192 + n / 64 := by omega
        have e2 : (128 + n % 64) % 256 = 128 + n % 64 := by omega
        simp [decodeN, e1, e2]
        rw [if_neg (by omega), if_pos (by omega), if_pos (by omega)]
        congr 1
        omega
      · by_cases h3 : n < 65536
        · simp only [if_neg h1, if_neg h2, if_pos h3]
          have e1 : (224 + n / 4096) % 256 = 224 + n / 4096 := by omega
          have e2 : (128 + n / 64 % 64) % 256 = 128 + n / 64 % 64 := by omega
          have e3 : (128 + n % 64) % 256 = 128 + n % 64 := by omega
          simp [decodeN, e1, e2, e3]
          rw [if_neg (by omega), if_neg (by omega), if_pos (by omega), if_pos (by omega)]
          congr 1
          omega
        · have h4 : n < 1114112 := by omega
          simp only [if_neg h1, if_neg h2, if_neg h3, if_pos h4]
          have e1 : (240 + n / 262144) % 256 = 240 + n / 262144 := by omega
          have e2 : (128 + n / 4096 % 64) % 256 = 128 + n / 4096 % 64 := by omega
          have e3 : (128 + n / 64 % 64) % 256 = 128 + n / 64 % 64 := by omega
          have e4 : (128 + n % 64) % 256 = 128 + n % 64 := by omega
          simp [decodeN, e1, e2, e3, e4]
          rw [if_neg (by omega), if_neg (by omega), if_neg (by omega), if_pos (by omega), if_pos (by omega)]
          congr 1
          omega
  refine ⟨key, ?_⟩
  unfold Bad
  rw [key]
  rintro ⟨h1, h2⟩
  dsimp only at h1 h2
  subst h1
  simp [enc] at h2

theorem enc_ne (n : Nat) : enc n ≠ [] := by
  unfold enc
  repeat' split
  all_goals simp

/-- A letter that is read is one. -/
theorem letter1_is (l : List UInt8) (hne : l ≠ []) (hb : ¬ Bad l) : IsLetter (letter1 l) := by
  unfold letter1
  rw [if_neg hb]
  unfold IsLetter
  rcases shape l hne with ⟨a, t, rfl, ha, e⟩ | ⟨a, b, t, rfl, c1, c3, cv, e⟩ | ⟨a, b, c, t, rfl, c1, c3, c4, cv, cs, e⟩ | ⟨a, b, c, d, t, rfl, c1, c3, c4, c5, cv, cw, e⟩ | ⟨a, t, rfl, ha, e⟩
  · rw [e]; dsimp only; omega
  · rw [e]; dsimp only; omega
  · have h1 := a.toNat_lt
    rw [e]; dsimp only; omega
  · rw [e]; dsimp only; omega
  · exact absurd (by unfold Bad; rw [e]; simp) hb

/-- Is it a text? -/
def valid (l : List UInt8) : Bool := validD l
theorem valid_step (l : List UInt8) (hne : l ≠ []) : valid l = if Bad l then false else valid (l.drop (decodeL l).2) := validD_step l hne
theorem valid_iff : ∀ l : List UInt8, valid l = true ↔ ∀ n ∈ letters l, IsLetter n := by
  refine by_letters ⟨fun _ n h => by simp [letters_nil] at h, fun _ => rfl⟩ ?_
  intro l hne ih
  rw [valid_step l hne, letters_step l hne]
  by_cases hb : Bad l
  · rw [if_pos hb]
    refine ⟨fun h => (by cases h), fun h => ?_⟩
    have := h (letter1 l) List.mem_cons_self
    unfold letter1 IsLetter at this
    rw [if_pos hb] at this
    omega
  · rw [if_neg hb, ih]
    refine ⟨fun h n hn => ?_, fun h n hn => h n (List.mem_cons_of_mem _ hn)⟩
    rcases List.mem_cons.1 hn with rfl | hn
    · exact letter1_is l hne hb
    · exact h n hn

/-- Letters put together. -/
theorem letters_enc : ∀ (ns : List Nat) (t : List UInt8), (∀ n ∈ ns, IsLetter n) → letters (ns.flatMap enc ++ t) = ns ++ letters t
  | [], t, _ => rfl
  | n :: ns, t, h => by
    obtain ⟨h1, h2⟩ := decode_enc n (h n List.mem_cons_self) (ns.flatMap enc ++ t)
    rw [List.flatMap_cons, List.append_assoc, letters_step _ (by simp [enc_ne])]
    unfold letter1
    rw [if_neg h2, h1]
    dsimp only
    rw [List.drop_left, letters_enc ns t (fun m hm => h m (List.mem_cons_of_mem _ hm)), List.cons_append]
theorem letters_of_enc (ns : List Nat) (h : ∀ n ∈ ns, IsLetter n) : letters (ns.flatMap enc) = ns := by
  have := letters_enc ns [] h
  rwa [List.append_nil, letters_nil, List.append_nil] at this
theorem letters_append (s t : List UInt8) (hs : valid s = true) : letters (s ++ t) = letters s ++ letters t := by
  have := letters_enc (letters s) t ((valid_iff s).1 hs)
  rwa [enc_letters s] at this
theorem valid_append (s t : List UInt8) (hs : valid s = true) : valid (s ++ t) = valid t := by
  rw [Bool.eq_iff_iff, valid_iff, valid_iff, letters_append s t hs]
  exact ⟨fun h n hn => h n (List.mem_append_right _ hn), fun h n hn => (List.mem_append.1 hn).elim (fun h1 => (valid_iff s).1 hs n h1) (h n)⟩

/-- A letter, folded; a byte, folded. -/
def foldN (n : Nat) : Nat := if 65 ≤ n ∧ n ≤ 90 then n + 32 else n
def foldB (b : UInt8) : UInt8 := if 65 ≤ b.toNat ∧ b.toNat ≤ 90 then b + 32 else b
def fold (l : List UInt8) : List UInt8 := l.map foldB

theorem foldB_nat (b : UInt8) : (foldB b).toNat = foldN b.toNat := by
  have := b.toNat_lt
  unfold foldB foldN
  split
  · rw [UInt8.toNat_add]
    show (b.toNat + 32) % 256 = _
    omega
  · rfl
theorem foldB_high (b : UInt8) (h : 91 ≤ b.toNat) : foldB b = b := by unfold foldB; rw [if_neg (by omega)]
theorem foldN_high (n : Nat) (h : 91 ≤ n) : foldN n = n := by unfold foldN; rw [if_neg (by omega)]
theorem foldN_is {n : Nat} (h : IsLetter n) : IsLetter (foldN n) := by unfold IsLetter foldN at *; split <;> omega
theorem foldN_low (n : Nat) (h : n < 128) : foldN n < 128 := by unfold foldN; split <;> omega
theorem foldN_foldN (n : Nat) : foldN (foldN n) = foldN n := by
  unfold foldN
  by_cases h : 65 ≤ n ∧ n ≤ 90
  · rw [if_pos h, if_neg (by omega)]
  · rw [if_neg h, if_neg h]
theorem foldB_foldB (b : UInt8) : foldB (foldB b) = foldB b := by
  apply UInt8.toNat_inj.1
  rw [foldB_nat, foldB_nat, foldN_foldN]
theorem fold_fold (l : List UInt8) : fold (fold l) = fold l := by
  unfold fold
  rw [List.map_map]
  exact List.map_congr_left (fun b _ => foldB_foldB b)
theorem fold_length (l : List UInt8) : (fold l).length = l.length := by simp [fold]
theorem fold_append (s t : List UInt8) : fold (s ++ t) = fold s ++ fold t := by simp [fold]

/-- Folding turns no bytes of letters but those of A to Z. -/
theorem enc_fold (n : Nat) : enc (foldN n) = fold (enc n) ∨ 1114112 ≤ n := by
  by_cases h : 1114112 ≤ n
  · exact .inr h
  · left
    by_cases h1 : n < 128
    · have h2 := foldN_low n h1
      unfold enc
      rw [if_pos h1, if_pos h2]
      simp only [fold, List.map_cons, List.map_nil]
      congr 1
      apply UInt8.toNat_inj.1
      rw [foldB_nat]
      simp
      rw [Nat.mod_eq_of_lt (by omega), Nat.mod_eq_of_lt (by omega)]
    · rw [foldN_high n (by omega)]
      unfold enc
      repeat' split
      all_goals simp only [fold, List.map_cons, List.map_nil]
      all_goals (repeat (rw [foldB_high]))
      all_goals (try (simp only [UInt8.toNat_ofNat']; omega))

theorem decodeN_low (n b0 b1 b2 b3 c1 c2 c3 : Nat) (h1 : b1 / 64 = 2 ∨ c1 / 64 = 2 → b1 = c1) (h2 : b2 / 64 = 2 ∨ c2 / 64 = 2 → b2 = c2) (h3 : b3 / 64 = 2 ∨ c3 / 64 = 2 → b3 = c3) (h0 : 128 ≤ b0) :
    decodeN n b0 b1 b2 b3 = decodeN n b0 c1 c2 c3 := by
  by_cases k1 : b1 / 64 = 2 ∨ c1 / 64 = 2
  · obtain rfl := h1 k1
    by_cases k2 : b2 / 64 = 2 ∨ c2 / 64 = 2
    · obtain rfl := h2 k2
      by_cases k3 : b3 / 64 = 2 ∨ c3 / 64 = 2
      · obtain rfl := h3 k3
        rfl
      · simp [decodeN, show ¬ b3 / 64 = 2 from fun h => k3 (.inl h), show ¬ c3 / 64 = 2 from fun h => k3 (.inr h)]
    · simp [decodeN, show ¬ b2 / 64 = 2 from fun h => k2 (.inl h), show ¬ c2 / 64 = 2 from fun h => k2 (.inr h)]
  · simp [decodeN, show ¬ b1 / 64 = 2 from fun h => k1 (.inl h), show ¬ c1 / 64 = 2 from fun h => k1 (.inr h)]

theorem fold_getD (l : List UInt8) (i : Nat) : (fold l).getD i 0 = foldB (l.getD i 0) := by
  unfold fold
  by_cases h : i < l.length
  · simp [List.getD, h]
  · simp [List.getD, List.getElem?_eq_none (Nat.not_lt.1 h), foldB]
theorem foldN_cont (n : Nat) : n / 64 = 2 ∨ foldN n / 64 = 2 → n = foldN n := by unfold foldN; split <;> omega

/-- A folded text is read at the same places: its letter there is the folded one. -/
theorem decode_fold (l : List UInt8) (hne : l ≠ []) : decodeL (fold l) = (foldN (decodeL l).1, (decodeL l).2) ∧ (Bad (fold l) ↔ Bad l) := by
  have key : decodeL (fold l) = (foldN (decodeL l).1, (decodeL l).2) := by
    cases l with
    | nil => exact absurd rfl hne
    | cons a t =>
      by_cases ha : a.toNat < 128
      · rw [decodeL_ascii a t ha]
        show decodeL (foldB a :: fold t) = _
        rw [decodeL_ascii (foldB a) _ (by rw [foldB_nat]; exact foldN_low _ ha), foldB_nat]
      · have e : decodeL (fold (a :: t)) = decodeL (a :: t) := by
          rw [decodeL_N, decodeL_N, fold_length, fold_getD, fold_getD, fold_getD, fold_getD, foldB_nat, foldB_nat, foldB_nat, foldB_nat]
          rw [show foldN ((a :: t).getD 0 0).toNat = ((a :: t).getD 0 0).toNat from foldN_high _ (by show 91 ≤ a.toNat; omega)]
          exact (decodeN_low _ _ _ _ _ _ _ _ (foldN_cont _) (foldN_cont _) (foldN_cont _) (by show 128 ≤ a.toNat; omega)).symm
        rw [e]
        rcases shape (a :: t) hne with ⟨a', t', h, ha', e⟩ | ⟨a', b, t', h, c1, c3, cv, e⟩ | ⟨a', b, c, t', h, c1, c3, c4, cv, cs, e⟩ | ⟨a', b, c, d, t', h, c1, c3, c4, c5, cv, cw, e⟩ | ⟨a', t', h, ha', e⟩
        · injection h with h _; subst h; omega
        all_goals (rw [e]; dsimp only; rw [foldN_high _ (by omega)])
  refine ⟨key, ?_⟩
  unfold Bad
  rw [key]
  dsimp only
  unfold foldN
  split
  · constructor <;> rintro ⟨h1, _⟩ <;> omega
  · exact Iff.rfl
theorem letter1_fold (l : List UInt8) (hne : l ≠ []) : letter1 (fold l) = foldN (letter1 l) := by
  obtain ⟨h1, h2⟩ := decode_fold l hne
  unfold letter1
  by_cases hb : Bad l
  · rw [if_pos (h2.2 hb), if_pos hb, foldN_high _ (by omega)]
    rcases shape l hne with ⟨a, t, rfl, ha, e⟩ | ⟨a, b, t, rfl, c1, c3, cv, e⟩ | ⟨a, b, c, t, rfl, c1, c3, c4, cv, cs, e⟩ | ⟨a, b, c, d, t, rfl, c1, c3, c4, c5, cv, cw, e⟩ | ⟨a, t, rfl, ha, e⟩
    · unfold Bad at hb; rw [e] at hb; simp at hb; omega
    · unfold Bad at hb; rw [e] at hb; simp at hb
    · unfold Bad at hb; rw [e] at hb; simp at hb
    · unfold Bad at hb; rw [e] at hb; simp at hb
    · simp only [fold, List.map_cons, List.headD_cons]
      rw [foldB_high a (by omega)]
  · rw [if_neg (fun h => hb (h2.1 h)), if_neg hb, h1]
theorem letters_fold : ∀ l : List UInt8, letters (fold l) = (letters l).map foldN := by
  refine by_letters rfl ?_
  intro l hne ih
  have hf : fold l ≠ [] := by unfold fold; simpa using hne
  obtain ⟨h1, _⟩ := decode_fold l hne
  rw [letters_step l hne, letters_step _ hf, letter1_fold l hne, h1, List.map_cons]
  dsimp only
  rw [← ih]
  congr 2
  unfold fold
  rw [List.map_drop]
theorem valid_fold (l : List UInt8) : valid (fold l) = valid l := by
  rw [Bool.eq_iff_iff, valid_iff, valid_iff, letters_fold]
  constructor
  · intro h n hn
    have := h (foldN n) (List.mem_map.2 ⟨n, hn, rfl⟩)
    unfold IsLetter foldN at *
    split at this <;> omega
  · intro h n hn
    obtain ⟨m, hm, rfl⟩ := List.mem_map.1 hn
    exact foldN_is (h m hm)
end Go.Proofs.YtkdjkndnilmjmaaDoor.U
/- utf.Units: how many units a text has, or its error; for texts of at most 2^45 bytes, the library's two tables lying as they are laid. -/
set_option linter.unusedVariables false
namespace Go.Proofs.YtkdjkndnilmjmaaDoor.U
open Go.RowKit Go.Proofs Go.Lib

/-- The library's two tables lie as its text lays them. -/
def Tabs (w : World) : Prop := Lib.Utf8Tabs 0 1 w
theorem Tabs.below {w w' : World} (h : Tabs w) (hb : Below w.heap.size w w') : Tabs w' := Utf8Tabs_below h hb

/-- The units of letters. -/
def unit (n : Nat) : List Nat := if n < 65536 then [n] else [55296 + (n - 65536) / 1024, 56320 + (n - 65536) % 1024]
def units (l : List UInt8) : List Nat := (letters l).flatMap unit
def errOf (l : List UInt8) : Int := if valid l = true then 0 else 5
def countOf (l : List UInt8) : Int := if valid l = true then ((units l).length : Int) else 0

theorem valid_calls (s : ByteArray) (w : World) (hs : s.size ≤ 9223372036854775807) (hT : Tabs w) :
    Calls Tryd.prog 59 #[.string s] w fun e w' => e = .returned (.bool (valid s.data.toList)) ∧ Below w.heap.size w w' :=
  Any.utf8_ValidString Tryd.laysValid s w hs hT

/-- What 'next' tells at a place: a letter and its width, by names of their own. -/
theorem next_facts (s : ByteArray) (pos : Nat) (h : pos < s.size) : ∃ r wd : Nat, Utf8.decode s pos = (r, wd) ∧ decodeL (s.data.toList.drop pos) = (r, wd) ∧ 1 ≤ wd ∧ r ≤ 1114111 ∧ s.data.toList.drop pos ≠ [] := by
  refine ⟨(Utf8.decode s pos).1, (Utf8.decode s pos).2, rfl, decodeL_drop s pos, Lib.width_pos s pos, Lib.rune_le s pos, ?_⟩
  intro h0
  have := congrArg List.length h0
  rw [List.length_drop, ← size_eq] at this
  simp at this
  omega
theorem next_run {P : Program} {s : ByteArray} {pos r wd : Nat} (hde : Utf8.decode s pos = (r, wd)) (hp : pos < s.size) (wr : World) (k : Nat) (hit : wr.heap[k]? = some (.stringIter s pos)) (ty : TypeId) :
    (Instr.next (.pointer (some ⟨k, 0, none⟩)) true ty).run P wr = .ok (.tuple #[.bool true, .int .i64 pos, .int .i32 r]) (wr.iterAt k s (pos + wd)) := by
  rw [Lib.run_next_any_at wr k s pos ty hit hp, hde]
theorem units_step {s : ByteArray} {pos r wd : Nat} (hd : decodeL (s.data.toList.drop pos) = (r, wd)) (hne : s.data.toList.drop pos ≠ []) (hv : valid (s.data.toList.drop pos) = true) :
    units (s.data.toList.drop pos) = unit r ++ units (s.data.toList.drop (pos + wd)) ∧ valid (s.data.toList.drop (pos + wd)) = true ∧
      letters (s.data.toList.drop pos) = r :: letters (s.data.toList.drop (pos + wd)) := by
  have hb : ¬ Bad (s.data.toList.drop pos) := by
    intro hb
    rw [valid_step _ hne, if_pos hb] at hv
    cases hv
  have hl : letters (s.data.toList.drop pos) = r :: letters (s.data.toList.drop (pos + wd)) := by
    rw [letters_step _ hne]
    unfold letter1
    rw [if_neg hb, hd, List.drop_drop]
  refine ⟨?_, ?_, hl⟩
  · unfold units
    rw [hl]
    rfl
  · rw [valid_step _ hne, if_neg hb, hd, List.drop_drop] at hv
    exact hv
theorem letters_len (l : List UInt8) : (letters l).length ≤ l.length := by
  revert l
  refine by_letters (by simp [letters_nil]) ?_
  intro l hne ih
  have hw := decodeL_width l
  have hl0 : 0 < l.length := List.length_pos_iff.2 hne
  rw [letters_step l hne, List.length_cons]
  rw [List.length_drop] at ih
  omega
theorem unit_len (n : Nat) : 1 ≤ (unit n).length ∧ (unit n).length ≤ 2 := by unfold unit; split <;> simp
theorem flat_len (ns : List Nat) : (ns.flatMap unit).length ≤ 2 * ns.length := by
  induction ns with
  | nil => simp
  | cons n ns ih =>
    have := unit_len n
    simp only [List.flatMap_cons, List.length_append, List.length_cons]
    omega
theorem units_len (l : List UInt8) : (units l).length ≤ 2 * l.length := by
  have h1 := flat_len (letters l)
  have h2 := letters_len l
  unfold units
  omega

set_option maxHeartbeats 4000000 in
set_option maxRecDepth 1000000 in
theorem Units_yes (s : ByteArray) (w : World) (hs : s.size ≤ 35184372088832) (hT : Tabs w) (hv : valid s.data.toList = true) :
    Calls Tryd.prog 45 #[.string s] w fun e w' => e = .returned (.tuple #[.int .i64 ((units s.data.toList).length : Nat), .int .i64 0]) ∧ Below w.heap.size w w' := by
  have cV := valid_calls s w (by omega) hT
  rw [hv] at cV
  have CV := Lib.hid cV
  clear cV
  have HV := Lib.hid hv
  clear hv hT
  obtain ⟨tot, htot⟩ : ∃ tot, (units s.data.toList).length = tot := ⟨_, rfl⟩
  rw [htot]
  have hlt := units_len s.data.toList
  rw [htot, ← size_eq] at hlt
  have HT := Lib.hid htot
  clear htot
  go_enter Tryd.func45, Tryd.ntmps45
  go_wp2_with (go_at_call 59; refine (CV.out).mono ?_; rintro e w1 ⟨rfl, hb1⟩)
  go_loopw [4] (fun n wr => ∃ pos k : Nat, n = .int .i64 k ∧ wr.heap[w1.heap.size]? = some (.stringIter s pos) ∧ Below w.heap.size w wr ∧ valid (s.data.toList.drop pos) = true ∧ k + (units (s.data.toList.drop pos)).length = tot) (fun _ wr => s.size - wr.iterPos w1.heap.size)
  case atStart =>
    refine ⟨0, 0, rfl, ?_, ?_, HV.out, by rw [List.drop_zero]; simpa using HT.out⟩
    · have := World.iter_heap w1 s 0
      simpa using this
    · exact hb1.alloc hb1.size _
  case round =>
    obtain ⟨pos, k, rfl, hit, hbw, hv, hk⟩ := hrel
    have hsz : w1.heap.size < wr.heap.size := (Array.getElem?_eq_some_iff.1 hit).1
    have hz1 := hb1.size
    by_cases hp : pos < s.size
    · obtain ⟨r, wd, hde, hdl, hwd, hd1, hne⟩ := next_facts s pos hp
      have hnx := next_run (P := Tryd.prog) hde hp wr w1.heap.size hit
      have hit2 := Lib.iterAt_heap wr w1.heap.size s pos (pos + wd) hit
      have hbw2 := Lib.below_iterAt hbw (k := w1.heap.size) (by omega) s (pos + wd)
      obtain ⟨h1, h2, _⟩ := units_step hdl hne hv
      have hk2 := hk
      rw [h1, List.length_append] at hk2
      by_cases hr : r < 65536
      · have hu : (unit r).length = 1 := by unfold unit; rw [if_pos hr]; rfl
        rw [hu] at hk2
        have HK := Lib.hid hk2
        have HIT := Lib.hid hit
        have HIT2 := Lib.hid hit2
        have H2 := Lib.hid h2
        have hkb : k < 9223372036854775800 := by omega
        have hdec : decide ((65536 : Int) ≤ (r : Int)) = false := by simp; omega
        clear hk2 hk h1 h2 hu hit hit2 hv hde hdl hne hr hd1
        go_wp2
        go_roundw
        case rel => exact ⟨pos + wd, k + 1, by go_num, HIT2.out, hbw2, H2.out, by have := HK.out; omega⟩
        case measure =>
          have e1 := HIT.out
          have e2 := HIT2.out
          simp only [World.iterPos, e1, e2]
          omega
      · have hu : (unit r).length = 2 := by unfold unit; rw [if_neg hr]; rfl
        rw [hu] at hk2
        have HK := Lib.hid hk2
        have HIT := Lib.hid hit
        have HIT2 := Lib.hid hit2
        have H2 := Lib.hid h2
        have hkb : k < 9223372036854775800 := by omega
        have hdec : decide ((65536 : Int) ≤ (r : Int)) = true := by simp; omega
        clear hk2 hk h1 h2 hu hit hit2 hv hde hdl hne hr hd1
        go_wp2
        go_roundw
        case rel => exact ⟨pos + wd, k + 2, by go_num, HIT2.out, hbw2, H2.out, by have := HK.out; omega⟩
        case measure =>
          have e1 := HIT.out
          have e2 := HIT2.out
          simp only [World.iterPos, e1, e2]
          omega
    · have hnx : ∀ ty, (Instr.next (.pointer (some ⟨w1.heap.size, 0, none⟩)) true ty).run Tryd.prog wr = _ := fun ty => Lib.run_next_end_at wr w1.heap.size s pos ty hit hp
      have he : s.data.toList.drop pos = [] := List.drop_eq_nil_of_le (by rw [← size_eq]; omega)
      rw [he] at hk
      have hk0 : k = tot := by simpa [units, letters_nil] using hk
      subst hk0
      clear hk hv he
      go_wp2
      go_ret2
      exact ⟨rfl, hbw⟩

set_option maxHeartbeats 4000000 in
set_option maxRecDepth 1000000 in
theorem Units_no (s : ByteArray) (w : World) (hs : s.size ≤ 35184372088832) (hT : Tabs w) (hv : valid s.data.toList = false) :
    Calls Tryd.prog 45 #[.string s] w fun e w' => e = .returned (.tuple #[.int .i64 0, .int .i64 5]) ∧ Below w.heap.size w w' := by
  have cV := valid_calls s w (by omega) hT
  rw [hv] at cV
  have CV := Lib.hid cV
  clear cV hv hT
  go_enter Tryd.func45, Tryd.ntmps45
  go_wp2_with (go_at_call 59; refine (CV.out).mono ?_; rintro e w1 ⟨rfl, hb1⟩)
  go_ret2
  exact ⟨rfl, hb1⟩

theorem Units_calls (s : ByteArray) (w : World) (hs : s.size ≤ 35184372088832) (hT : Tabs w) :
    Calls Tryd.prog 45 #[.string s] w fun e w' => e = .returned (.tuple #[.int .i64 (countOf s.data.toList), .int .i64 (errOf s.data.toList)]) ∧ Below w.heap.size w w' := by
  unfold countOf errOf
  cases hv : valid s.data.toList with
  | true => simp only [if_true]; exact Units_yes s w hs hT hv
  | false => simp only [Bool.false_eq_true, if_false]; exact Units_no s w hs hT hv
end Go.Proofs.YtkdjkndnilmjmaaDoor.U
/- strings.Builder's copyCheck and its writers, at a builder that the call itself has made: each adds its bytes; the frame of the shelf's forms '_k'. -/
set_option linter.unusedVariables false
namespace Go.Proofs.YtkdjkndnilmjmaaDoor.U
open Go.RowKit Go.Proofs

theorem infoByte : (Tryd.prog.info? 5).map (fun i => (i.zero, i.size, i.bytes)) = some (some (.int .u8 0), 1, 1) := by kernel_rfl
theorem sizeBuilder : (Tryd.prog.info? 72).map (fun i => i.size) = some 2 := by kernel_rfl
theorem liesBuilder : liesAt Tryd.prog Tryd.prog.depth 72 (2 / Tryd.prog.cellsOf 72) 0 72 1 = true := by kernel_rfl

set_option maxHeartbeats 1000000 in
set_option maxRecDepth 100000 in
/-- copyCheck at a builder that has been used: nothing turns. -/
theorem copyCheck_used (b : Nat) (w : World) (h0 : w.cell? ⟨b, 0, none⟩ = some (.pointer (some ⟨b, 0, none⟩))) :
    Calls Tryd.prog 56 #[.pointer (some ⟨b, 0, none⟩)] w fun e w' => e = .returned (.tuple #[]) ∧ w' = w := by
  obtain ⟨j, hj, _⟩ := Option.map_eq_some_iff.1 sizeBuilder
  go_enter Tryd.func56, Tryd.ntmps56
  go_wp2
  rw [Lib.run_neq_ptr_same w _ Tryd.underlying69 hj]
  go_wp2
  go_end0
  exact ⟨rfl, rfl⟩

set_option maxHeartbeats 1000000 in
set_option maxRecDepth 100000 in
/-- copyCheck at a fresh builder: it stores its own address. -/
theorem copyCheck_fresh (b : Nat) (w : World) (h0 : w.cell? ⟨b, 0, none⟩ = some (.pointer none)) (hsh : w.shape? b = some (72, 2)) (hfz : w.frozen? ⟨b, 0, none⟩ = false) :
    Calls Tryd.prog 56 #[.pointer (some ⟨b, 0, none⟩)] w fun e w' => e = .returned (.tuple #[]) ∧ w' = w.setCell ⟨b, 0, none⟩ (.pointer (some ⟨b, 0, none⟩)) := by
  obtain ⟨j, hj, hjs⟩ := Option.map_eq_some_iff.1 sizeBuilder
  go_enter Tryd.func56, Tryd.ntmps56
  go_wp2
  rw [Lib.run_to_unsafe w ⟨b, 0, none⟩ Tryd.underlying69 Tryd.underlying101 hj (by rw [hjs]; decide) hsh (Nat.zero_lt_succ 1)]
  simp only [Result.andThen]
  rw [Oper.upon_value]
  go_wp2
  rw [run_callFunc_extern Tryd.func65 (by kernel_rfl) (by kernel_rfl) (by kernel_rfl) (e := Extern.AbiNoEscape.same) (by kernel_rfl)]
  rw [Lib.run_noEscape]
  simp only [Result.andThen]
  rw [Oper.upon_value]
  go_wp2
  rw [Lib.run_from_unsafe w ⟨b, 0, none⟩ Tryd.underlying101 Tryd.underlying69 hj hsh liesBuilder]
  simp only [Result.andThen]
  rw [Oper.upon_value]
  go_wp2
  go_end0
  exact ⟨rfl, rfl⟩

theorem copyCheck_k (B b : Nat) (bs : List Value) (w : World) (h : Lib.IsBuilderF 72 5 B b bs w) :
    Calls Tryd.prog 56 #[.pointer (some ⟨b, 0, none⟩)] w fun e w' => e = .returned (.tuple #[]) ∧ (Lib.BuilderAtF 72 5 B b (.pointer (some ⟨b, 0, none⟩)) bs w' ∧ Below B w w' ∧ Lib.OthersKept 5 (some b) w w') := by
  rcases h with h | h
  · refine (copyCheck_fresh b w h.cell0 h.shape h.frozen0).mono ?_
    rintro e w' ⟨rfl, rfl⟩
    exact ⟨rfl, h.used _, (Below.refl B w).setCell (p := ⟨b, 0, none⟩) h.1 _, (Lib.OthersKept.refl _ _ w).setCell ⟨b, 0, none⟩ rfl _⟩
  · refine (copyCheck_used b w h.cell0).mono ?_
    rintro e w' ⟨rfl, rfl⟩
    exact ⟨rfl, h, Below.refl B _, Lib.OthersKept.refl _ _ _⟩

set_option maxHeartbeats 2000000 in
set_option maxRecDepth 100000 in
/-- WriteByte. -/
theorem WriteByte_k (B b : Nat) (bs : List Value) (c : Int) (w : World) (h : Lib.IsBuilderF 72 5 B b bs w) (hlen : bs.length + 1 ≤ 140737488355328) (hBw : B ≤ w.heap.size) :
    Calls Tryd.prog 35 #[.pointer (some ⟨b, 0, none⟩), .int .u8 c] w fun e w' => e = .returned .nilIface ∧ (Lib.BuilderAtF 72 5 B b (.pointer (some ⟨b, 0, none⟩)) (bs ++ [.int .u8 c]) w' ∧ Below B w w' ∧ Lib.OthersKept 5 (some b) w w') := by
  obtain ⟨i0, hi, hz0, hz1, hz2⟩ := info_parts infoByte
  go_enter Tryd.func35, Tryd.ntmps35
  go_wp2_with (go_at_call 56; refine (copyCheck_k B b bs _ h).mono ?_)
  rintro e w1 ⟨rfl, h1, hb1, hk1⟩
  obtain ⟨hB, v, hbk, hown, hne⟩ := h1
  have c0 : w1.cell? ⟨b, 0, none⟩ = some (.pointer (some ⟨b, 0, none⟩)) := by rw [Lib.cell_of_heap hbk]; rfl
  have c1 : w1.cell? ⟨b, 1, none⟩ = some v := by rw [Lib.cell_of_heap hbk]; rfl
  go_wp2_with (at_builtin; refine wpList_append_ownF _ rfl _ _ 70 rfl B 5 i0 (.int .u8 0) 1 1 Tryd.underlying70 hi hz0 hz1 hz2 rfl (by decide) _ _ _ rfl (hown.alloc _) ⟨w1.heap.size, 0, none⟩ 1 1 [.int .u8 c] rfl rfl ?c1 ?c2 ?c3 ?c4 ?c5 ?_)
  case c1 =>
    intro j u hj
    match j, hj with
    | 0, hj => simp at hj; subst hj; simp [Addr.add]
  case c2 => intro u hu; simp at hu; subst hu; rfl
  case c3 => unfold maxLen; omega
  case c4 => omega
  case c5 => have := hb1.size; simp; omega
  intro v' w2 hown' hgrow _
  have hlt : b < w1.heap.size := by
    rcases Nat.lt_or_ge b w1.heap.size with h' | h'
    · exact h'
    · simp [Array.getElem?_eq_none h'] at hbk
  have hb2 : w2.heap[b]? = some (.cells #[.pointer (some ⟨b, 0, none⟩), v] 72 (0, 0)) := by
    rw [hgrow.block b (by simp; omega) (fun e => hne e.symm), Lib.alloc_old w1 _ b hlt]
    exact hbk
  have d0 : w2.cell? ⟨b, 0, none⟩ = some (.pointer (some ⟨b, 0, none⟩)) := by rw [Lib.cell_of_heap hb2]; rfl
  have d1 : w2.cell? ⟨b, 1, none⟩ = some v := by rw [Lib.cell_of_heap hb2]; rfl
  have f1 : w2.frozen? ⟨b, 1, none⟩ = false := Lib.frozen_of_heap hb2 1
  obtain ⟨g, cap, rfl⟩ : ∃ g cap, v' = .slice (some ⟨g, 0, none⟩) (bs.length + 1) cap := by
    rcases hown'.2 with ⟨_, h0⟩ | ⟨g, cap, cur, fz, hv, _⟩
    · omega
    · exact ⟨g, cap, hv⟩
  go_wp2
  go_ret
  refine ⟨rfl, ?_, ?_, ((hk1.alloc _).grown hgrow (Lib.ownsRowF_kind (hown.alloc _))).setCell ⟨b, 1, none⟩ rfl _⟩
  · exact Lib.BuilderAtF.put (T := 72) (e := 5) hB hb2 (bs' := bs ++ [.int .u8 c]) (by simpa using hown') (by decide)
  · exact ((hb1.alloc (by have := hb1.size; omega) _).grown hgrow (by have := hb1.size; simp; omega) (fun k hk => (hown.lt k hk).1)).setCell (p := ⟨b, 1, none⟩) hB _
end Go.Proofs.YtkdjkndnilmjmaaDoor.U
/- utf.fold and utf.Fold: a letter, a text, folded; for texts of at most 2^45 bytes. -/
set_option linter.unusedVariables false
set_option linter.unusedSimpArgs false
namespace Go.Proofs.YtkdjkndnilmjmaaDoor.U
open Go.RowKit Go.Proofs

theorem foldR_calls (n : Nat) (w : World) (hn : n ≤ 1114600) :
    Calls Tryd.prog 36 #[.int .i32 n] w fun e w' => e = .returned (.int .i32 (foldN n : Nat)) ∧ w = w' := by
  by_cases h1 : 65 ≤ n
  · have d1 : decide ((65 : Int) ≤ (n : Int)) = true := by simp; omega
    by_cases h2 : n ≤ 90
    · have d2 : decide ((n : Int) ≤ (90 : Int)) = true := by simp; omega
      have hf : foldN n = n + 32 := by unfold foldN; rw [if_pos ⟨h1, h2⟩]
      rw [hf]
      clear hf
      go_enter Tryd.func36, Tryd.ntmps36
      go_wp2
      go_ret
      refine ⟨?_, rfl⟩
      simp
      omega
    · have d2 : decide ((n : Int) ≤ (90 : Int)) = false := by simp; omega
      have hf : foldN n = n := by unfold foldN; rw [if_neg (by omega)]
      rw [hf]
      clear hf
      go_enter Tryd.func36, Tryd.ntmps36
      go_wp2
      go_ret
      exact ⟨rfl, rfl⟩
  · have d1 : decide ((65 : Int) ≤ (n : Int)) = false := by simp; omega
    have hf : foldN n = n := by unfold foldN; rw [if_neg (by omega)]
    rw [hf]
    clear hf
    go_enter Tryd.func36, Tryd.ntmps36
    go_wp2
    go_ret
    exact ⟨rfl, rfl⟩

theorem take_fold (l : List UInt8) (k : Nat) (h : k < l.length) : (fold l).take (k + 1) = (fold l).take k ++ [foldB l[k]] := by
  rw [List.take_succ_eq_append_getElem (by rw [fold_length]; exact h)]
  simp [fold]

set_option maxHeartbeats 4000000 in
set_option maxRecDepth 1000000 in
theorem Fold_calls (s : ByteArray) (w : World) (hs : s.size ≤ 35184372088832) :
    Calls Tryd.prog 19 #[.string s] w fun e w' => e = .returned (.string ⟨(fold s.data.toList).toArray⟩) ∧ Below w.heap.size w w' := by
  go_enter Tryd.func19, Tryd.ntmps19
  go_wp2
  go_loopw [7] (fun i wr => ∃ k : Nat, k ≤ s.size ∧ i = .int .i64 k ∧ Lib.IsBuilderF 72 5 w.heap.size w.heap.size (Lib.byteCells ((fold s.data.toList).take k)) wr ∧ Below w.heap.size w wr) (fun i _ => s.size - (RowKit.intOf i).toNat)
  case atStart =>
    exact ⟨0, Nat.zero_le _, rfl, Lib.IsBuilderF.of (Lib.fresh_isBuilder 72 5 w), (Below.refl _ w).alloc (Nat.le_refl _) _⟩
  case round =>
    obtain ⟨k, hk, rfl, hI, hb⟩ := hrel
    have hz := hb.size
    by_cases hlt : k < s.size
    · have d0 : decide ((k : Int) < (s.size : Int)) = true := by simp; omega
      have hl : k < s.data.toList.length := by rw [← Lib.size_eq]; exact hlt
      have hts := take_fold s.data.toList k hl
      rw [show s.data.toList[k] = s[k] from rfl] at hts
      have hlen : (Lib.byteCells ((fold s.data.toList).take k)).length + 1 ≤ 140737488355328 := by
        rw [Lib.byteCells_length, List.length_take, fold_length]; omega
      have h256 := s[k].toNat_lt
      have HT := Lib.hid hts
      have HI := Lib.hid hI
      have HL := Lib.hid hlen
      have hf := foldB_nat s[k]
      have hf2 := (foldB s[k]).toNat_lt
      rw [hf] at hf2
      have HF := Lib.hid hf
      clear hts hI hlen hf
      go_wp2_with (go_at_call 36; with_reducible refine (foldR_calls _ _ (by omega)).mono ?_)
      rintro e w' ⟨rfl, rfl⟩
      go_wp2_with (go_at_call 35; with_reducible refine (WriteByte_k w.heap.size w.heap.size _ (foldN s[k].toNat : Nat) _ HI.out HL.out hz).mono ?_)
      rintro e W1 ⟨rfl, h1, b1, k1⟩
      have h1' : Lib.IsBuilderF 72 5 w.heap.size w.heap.size (Lib.byteCells ((fold s.data.toList).take (k + 1))) W1 := by
        rw [HT.out, Lib.byteCells_append]
        have e : Lib.byteCells [foldB s[k]] = [.int .u8 (foldN s[k].toNat : Nat)] := by
          unfold Lib.byteCells
          rw [List.map_cons, HF.out]
          rfl
        rw [e]
        exact Or.inr h1
      have H1 := Lib.hid h1'
      clear h1' h1
      go_wp2
      go_roundw
      case rel => exact ⟨k + 1, by omega, by go_num, H1.out, hb.trans b1⟩
      case measure => simp [RowKit.intOf]; omega
    · have d0 : decide ((k : Int) < (s.size : Int)) = false := by simp; omega
      have hk' : k = s.size := by omega
      subst hk'
      rw [List.take_of_length_le (by rw [fold_length, ← Lib.size_eq]; exact Nat.le_refl _)] at hI
      have HI := Lib.hid hI
      clear hI
      go_wp2_with (go_at_call 37; with_reducible refine (Tryd.Builder_String_any_k w.heap.size w.heap.size _ _ HI.out hz).mono ?_)
      rintro e W1 ⟨rfl, _, b1, _⟩
      go_wp2
      go_ret
      exact ⟨rfl, hb.trans b1⟩
end Go.Proofs.YtkdjkndnilmjmaaDoor.U
/- utf.letters, order, Alike, Ahead: the order of folded letters; for texts of at most 2^40 bytes. -/
set_option linter.unusedVariables false
set_option linter.unusedSimpArgs false
namespace Go.Proofs.YtkdjkndnilmjmaaDoor.U
open Go.RowKit Go.Proofs Go.Lib Go.Proofs.YtkdjkndnilmjmaaDoorW.PrintWords

/-- The folded letters. -/
def flet (l : List UInt8) : List Nat := (letters l).map foldN
def fnums (l : List UInt8) : List Int := (flet l).map fun n : Nat => (n : Int)

/-- U+FFFD stands there, or it is told of a byte that is none. -/
theorem prefix_fffd (l : List UInt8) (wd : Nat) (hne : l ≠ []) (h : decodeL l = (65533, wd)) : Lib.hasPrefix l [239, 191, 189] = decide (wd ≠ 1) := by
  rcases shape l hne with ⟨a, t, rfl, ha, e⟩ | ⟨a, b, t, rfl, c1, c3, cv, e⟩ | ⟨a, b, c, t, rfl, c1, c3, c4, cv, cs, e⟩ | ⟨a, b, c, d, t, rfl, c1, c3, c4, c5, cv, cw, e⟩ | ⟨a, t, rfl, ha, e⟩
  · rw [h] at e
    injection e with e1 e2
    omega
  · have h1 := a.toNat_lt
    have h2 := b.toNat_lt
    rw [h] at e
    injection e with e1 e2
    omega
  · have h1 := a.toNat_lt
    have h2 := b.toNat_lt
    have h3 := c.toNat_lt
    rw [h] at e
    injection e with e1 e2
    subst e2
    have ea : a = 239 := UInt8.toNat_inj.1 (by show a.toNat = 239; omega)
    have eb : b = 191 := UInt8.toNat_inj.1 (by show b.toNat = 191; omega)
    have ec : c = 189 := UInt8.toNat_inj.1 (by show c.toNat = 189; omega)
    subst ea eb ec
    rfl
  · rw [h] at e
    injection e with e1 e2
    omega
  · rw [h] at e
    injection e with e1 e2
    subst e2
    -- were it the prefix, the letter would be three bytes wide
    have hb : Bad (a :: t) := by unfold Bad; rw [h]; exact ⟨rfl, rfl⟩
    rw [show decide ((1 : Nat) ≠ 1) = false from rfl]
    rw [Bool.eq_false_iff]
    intro hp
    have hx : ∃ t', a :: t = enc 65533 ++ t' := by
      rcases t with _ | ⟨b, _ | ⟨c, t⟩⟩
      · simp [Lib.hasPrefix] at hp
      · simp [Lib.hasPrefix] at hp
      · simp [Lib.hasPrefix] at hp
        obtain ⟨rfl, rfl, rfl⟩ := hp
        exact ⟨t, rfl⟩
    obtain ⟨t', ht⟩ := hx
    rw [ht] at hb
    exact (decode_enc 65533 (by unfold IsLetter; omega) t').2 hb

theorem infoI32 : (Tryd.prog.info? 21).map (fun i => (i.zero, i.size, i.bytes)) = some (some (.int .i32 0), 1, 4) := by kernel_rfl
theorem fnums_step {s : ByteArray} {pos r wd : Nat} (hd : decodeL (s.data.toList.drop pos) = (r, wd)) (hne : s.data.toList.drop pos ≠ []) :
    fnums (s.data.toList.drop pos) = ((foldN (letter1 (s.data.toList.drop pos)) : Nat) : Int) :: fnums (s.data.toList.drop (pos + wd)) := by
  unfold fnums flet
  rw [letters_step _ hne, hd, List.drop_drop]
  rfl
theorem fnums_len (l : List UInt8) : (fnums l).length ≤ l.length := by
  have := letters_len l
  simpa [fnums, flet] using this
/-- The loop's relation. -/
def LetAt (s : ByteArray) (w : World) (tot : List Int) (pos : Nat) (v : Value) (done : List Int) (wr : World) : Prop :=
  wr.heap[w.heap.size]? = some (.stringIter s pos) ∧ wr.ownsRow w.heap.size 21 1 v done.length (nums .i32 done) ∧ Below w.heap.size w wr ∧ done ++ fnums (s.data.toList.drop pos) = tot
theorem let_next {s : ByteArray} {w wr : World} {tot : List Int} {pos : Nat} {v : Value} {done : List Int} (h : LetAt s w tot pos v done wr) (pos' : Nat) (e : fnums (s.data.toList.drop pos) = fnums (s.data.toList.drop pos)) :
    (wr.iterAt w.heap.size s pos').heap[w.heap.size]? = some (.stringIter s pos') ∧ (wr.iterAt w.heap.size s pos').ownsRow w.heap.size 21 1 v done.length (nums .i32 done) ∧ Below w.heap.size w (wr.iterAt w.heap.size s pos') := by
  obtain ⟨hit, hown, hbw, _⟩ := h
  refine ⟨Lib.iterAt_heap wr _ s pos pos' hit, ?_, Lib.below_iterAt hbw (Nat.le_refl _) s pos'⟩
  refine own_move hown (fun k hk => Lib.iterAt_other _ _ _ _ _ ?_)
  rintro rfl
  obtain ⟨c, hc⟩ := own_typed hown _ hk
  rw [hit] at hc
  cases hc

theorem let_on {s : ByteArray} {w wr w2 : World} {pos : Nat} {v v' : Value} {done : List Int} {y : Int} {o : Obj} (h : wr.heap[w.heap.size]? = some (.stringIter s pos) ∧ wr.ownsRow w.heap.size 21 1 v done.length (nums .i32 done) ∧ Below w.heap.size w wr)
    (hown' : w2.ownsRow w.heap.size 21 1 v' (done.length + 1) (nums .i32 done ++ [.int .i32 y])) (hg : (wr.alloc o).grownBy w2 v.ownBlock) :
    w2.heap[w.heap.size]? = some (.stringIter s pos) ∧ w2.ownsRow w.heap.size 21 1 v' (done ++ [y]).length (nums .i32 (done ++ [y])) ∧ Below w.heap.size w w2 := by
  obtain ⟨h1, h2, h3⟩ := h
  have hsz : w.heap.size < wr.heap.size := (Array.getElem?_eq_some_iff.1 h1).1
  refine ⟨?_, ?_, (h3.alloc h3.size _).grown hg (by simp; omega) (fun k hk => (h2.lt k hk).1)⟩
  · rw [hg.block _ (by simp; omega) ?_, Lib.alloc_old wr _ _ hsz]
    · exact h1
    · intro e
      obtain ⟨c, hc⟩ := own_typed h2 _ e.symm
      rw [h1] at hc
      cases hc
  · rw [List.length_append, nums_append]
    exact hown'

set_option maxHeartbeats 4000000 in
set_option maxRecDepth 1000000 in
theorem letters_calls (s : ByteArray) (w : World) (hs : s.size ≤ 17592186044416) :
    Calls Tryd.prog 51 #[.string s] w fun e w' => ∃ v, e = .returned v ∧ Kd.R (Kd.int .i32) 21 w' w.heap.size (fun _ => True) v (fnums s.data.toList) ∧ Below w.heap.size w w' := by
  obtain ⟨i0, hi, hz0, hz1, hz2⟩ := info_parts infoI32
  obtain ⟨tot, htot⟩ : ∃ tot, fnums s.data.toList = tot := ⟨_, rfl⟩
  rw [htot]
  have hlt : tot.length ≤ s.size := by rw [← htot, size_eq]; exact fnums_len _
  have HT := Lib.hid htot
  clear htot
  go_enter Tryd.func51, Tryd.ntmps51
  go_wp2
  go_loopw [3] (fun v wr => ∃ pos done, LetAt s w tot pos v done wr) (fun _ wr => s.size - wr.iterPos w.heap.size)
  case atStart =>
    refine ⟨0, [], ?_, own_nil _ _ _ _, (Below.refl _ w).alloc (Nat.le_refl _) _, by rw [List.drop_zero]; simpa using HT.out⟩
    have := World.iter_heap w s 0
    simpa using this
  case round =>
    obtain ⟨pos, done, hL⟩ := hrel
    obtain ⟨hit, hown, hbw, hk⟩ := hL
    have hz := hbw.size
    have hsz : w.heap.size < wr.heap.size := (Array.getElem?_eq_some_iff.1 hit).1
    by_cases hp : pos < s.size
    · obtain ⟨r, wd, hde, hdl, hwd, hd1, hne⟩ := next_facts s pos hp
      have hnx := next_run (P := Tryd.prog) hde hp wr w.heap.size hit
      have hst := let_next ⟨hit, hown, hbw, hk⟩ (pos + wd) rfl
      have hfs := fnums_step hdl hne
      have hdn : done.length + 1 ≤ s.size := by
        have := congrArg List.length hk
        rw [hfs, List.length_append, List.length_cons] at this
        omega
      have HST := Lib.hid hst
      have HIT := Lib.hid hit
      rw [hfs] at hk
      have HK := Lib.hid hk
      have HDL := Lib.hid hdl
      clear hst hit hk hdl hfs hown hde
      have HNE := Lib.hid hne
      clear hne
      by_cases hr : r = 65533
      · subst hr
        have d0 : (((65533 : Nat) : Int) == 65533) = true := rfl
        have cP : ∀ W, Calls Tryd.prog 63 #[.string (s.extract pos s.size), .string ⟨#[239, 191, 189]⟩] W fun e w' => e = .returned (.bool (decide (wd ≠ 1))) ∧ w' = W := by
          intro W
          have := Tryd.strings_HasPrefix (s.extract pos s.size) ⟨#[239, 191, 189]⟩ W
          rw [Lib.extract_to_end] at this
          rw [← prefix_fffd _ wd HNE.out HDL.out]
          exact this
        by_cases hw : wd = 1
        · subst hw
          rw [show decide ((1 : Nat) ≠ 1) = false from rfl] at cP
          have CP := Lib.hid cP
          clear cP
          have h256 := s[pos].toNat_lt
          have hl1 : letter1 (s.data.toList.drop pos) = 1114112 + s[pos].toNat := by
            rw [letter1_bad HDL.out]
            congr 1
            rw [List.drop_eq_getElem_cons (by rw [← size_eq]; exact hp)]
            rfl
          have HK2 := HK.out
          rw [hl1] at HK2
          have HK3 := Lib.hid HK2
          clear HK2 hl1
          go_wp2_with (go_at_call 63; refine (CP.out _).mono ?_)
          rintro e w' ⟨rfl, rfl⟩
          go_wp2_with fail
          rw [show (1114112 + (s[pos].toNat : Int)) = ((1114112 + s[pos].toNat : Nat) : Int) from rfl]
          refine (foldR_calls (1114112 + s[pos].toNat) _ (by omega)).mono ?_
          rintro e w' ⟨rfl, rfl⟩
          go_wp2_with (at_builtin; refine wpList_append_own _ rfl _ _ 79 rfl w.heap.size 21 i0 (.int .i32 0) 1 4 Tryd.underlying79 hi hz0 hz1 hz2 rfl (by decide) _ _ _ rfl (HST.out.2.1.alloc _) ⟨(wr.iterAt w.heap.size s (pos + 1)).heap.size, 0, none⟩ 1 1 [.int .i32 ((foldN (1114112 + s[pos].toNat) : Nat) : Int)] rfl rfl ?c1 ?c2 ?c3 ?c4 ?c5 ?_)
          case c1 =>
            intro j u hj
            match j, hj with
            | 0, hj => simp at hj; subst hj; simp [Addr.add]
          case c2 => intro u hu; simp at hu; subst hu; rfl
          case c3 => unfold maxLen; omega
          case c4 => omega
          case c5 => simp [Lib.iterAt_size]; omega
          intro v' w2 hown' hgrow _
          have hon := let_on HST.out hown' hgrow
          have HON := Lib.hid hon
          clear hon hown' hgrow
          go_wp2
          go_roundw
          case rel => exact ⟨pos + 1, done ++ [_], HON.out.1, HON.out.2.1, HON.out.2.2, by have := HK3.out; rw [List.append_assoc]; exact this⟩
          case measure =>
            have e1 := HIT.out
            have e2 := HON.out.1
            simp only [World.iterPos, e1, e2]
            omega
        · rw [show decide (wd ≠ 1) = true by simp; omega] at cP
          have CP := Lib.hid cP
          clear cP
          have hl1 : letter1 (s.data.toList.drop pos) = 65533 := letter1_good HDL.out (fun h => hw h.2)
          have HK2 := HK.out
          rw [hl1] at HK2
          have HK3 := Lib.hid HK2
          clear HK2 hl1
          go_wp2_with (go_at_call 63; refine (CP.out _).mono ?_)
          rintro e w' ⟨rfl, rfl⟩
          go_wp2_with (go_at_call 36; refine (foldR_calls 65533 _ (by omega)).mono ?_)
          rintro e w' ⟨rfl, rfl⟩
          go_wp2_with (at_builtin; refine wpList_append_own _ rfl _ _ 79 rfl w.heap.size 21 i0 (.int .i32 0) 1 4 Tryd.underlying79 hi hz0 hz1 hz2 rfl (by decide) _ _ _ rfl (HST.out.2.1.alloc _) ⟨(wr.iterAt w.heap.size s (pos + wd)).heap.size, 0, none⟩ 1 1 [.int .i32 ((foldN 65533 : Nat) : Int)] rfl rfl ?c1 ?c2 ?c3 ?c4 ?c5 ?_)
          case c1 =>
            intro j u hj
            match j, hj with
            | 0, hj => simp at hj; subst hj; simp [Addr.add]
          case c2 => intro u hu; simp at hu; subst hu; rfl
          case c3 => unfold maxLen; omega
          case c4 => omega
          case c5 => simp [Lib.iterAt_size]; omega
          intro v' w2 hown' hgrow _
          have hon := let_on HST.out hown' hgrow
          have HON := Lib.hid hon
          clear hon hown' hgrow
          go_wp2
          go_roundw
          case rel => exact ⟨pos + wd, done ++ [_], HON.out.1, HON.out.2.1, HON.out.2.2, by have := HK3.out; rw [List.append_assoc]; exact this⟩
          case measure =>
            have e1 := HIT.out
            have e2 := HON.out.1
            simp only [World.iterPos, e1, e2]
            omega
      · have d0 : ((r : Int) == 65533) = false := by simp; omega
        have hl1 : letter1 (s.data.toList.drop pos) = r := letter1_good HDL.out (fun h => hr h.1)
        have HK2 := HK.out
        rw [hl1] at HK2
        have HK3 := Lib.hid HK2
        clear HK2 hl1
        go_wp2_with (go_at_call 36; with_reducible refine (foldR_calls r _ (by omega)).mono ?_)
        rintro e w' ⟨rfl, rfl⟩
        go_wp2_with (at_builtin; refine wpList_append_own _ rfl _ _ 79 rfl w.heap.size 21 i0 (.int .i32 0) 1 4 Tryd.underlying79 hi hz0 hz1 hz2 rfl (by decide) _ _ _ rfl (HST.out.2.1.alloc _) ⟨(wr.iterAt w.heap.size s (pos + wd)).heap.size, 0, none⟩ 1 1 [.int .i32 ((foldN r : Nat) : Int)] rfl rfl ?c1 ?c2 ?c3 ?c4 ?c5 ?_)
        case c1 =>
          intro j u hj
          match j, hj with
          | 0, hj => simp at hj; subst hj; simp [Addr.add]
        case c2 => intro u hu; simp at hu; subst hu; rfl
        case c3 => unfold maxLen; omega
        case c4 => omega
        case c5 => simp [Lib.iterAt_size]; omega
        intro v' w2 hown' hgrow _
        have hon := let_on HST.out hown' hgrow
        have HON := Lib.hid hon
        clear hon hown' hgrow
        go_wp2
        go_roundw
        case rel => exact ⟨pos + wd, done ++ [_], HON.out.1, HON.out.2.1, HON.out.2.2, by have := HK3.out; rw [List.append_assoc]; exact this⟩
        case measure =>
          have e1 := HIT.out
          have e2 := HON.out.1
          simp only [World.iterPos, e1, e2]
          omega
    · have hnx : ∀ ty, (Instr.next (.pointer (some ⟨w.heap.size, 0, none⟩)) true ty).run Tryd.prog wr = _ := fun ty => Lib.run_next_end_at wr w.heap.size s pos ty hit hp
      have he : s.data.toList.drop pos = [] := List.drop_eq_nil_of_le (by rw [← size_eq]; omega)
      have hd : done = tot := by
        have h0 : fnums (s.data.toList.drop pos) = [] := by rw [he]; rfl
        rw [h0, List.append_nil] at hk
        exact hk
      subst hd
      have hR : Kd.R (Kd.int .i32) 21 wr w.heap.size (fun _ => True) _ done := Kd.R_of_own hown (fun _ _ => trivial)
      have HR := Lib.hid hR
      clear hk he hit hown hR
      go_wp2
      go_ret
      exact ⟨_, rfl, HR.out, hbw⟩

/-- Below 0: the first is ahead; 0: alike. -/
def ordN : List Nat → List Nat → Int
  | x :: xs, y :: ys => if x = y then ordN xs ys else (x : Int) - (y : Int)
  | xs, ys => (xs.length : Int) - (ys.length : Int)
theorem ordN_end (xs ys : List Nat) (h : xs = [] ∨ ys = []) : ordN xs ys = (xs.length : Int) - (ys.length : Int) := by
  rcases h with rfl | rfl
  · unfold ordN
    rfl
  · cases xs <;> rfl

/-- A row of the call's own: its shape and its cells. -/
theorem open_row {k : IntKind} {e : Nat} {w : World} {base : Nat} {v : Value} {xs : List Int} (h : Kd.R (Kd.int k) e w base (fun _ => True) v xs) :
    ∃ A c, v = .slice A xs.length c ∧ xs.length ≤ c ∧ (0 < xs.length → ∃ g, A = some ⟨g, 0, none⟩ ∧ base ≤ g ∧ g < w.heap.size ∧ ∀ j, j < xs.length → w.cell? ⟨g, j, none⟩ = some (.int k (xs.getD j 0))) := by
  have ho := Kd.own_of_R h
  rcases Nat.eq_zero_or_pos xs.length with h0 | h0
  · obtain ⟨A, c, hv⟩ := own_slice ho
    refine ⟨A, c, hv, by omega, fun hp => absurd hp (by omega)⟩
  · obtain ⟨g, cap, rfl, hb, hl⟩ := ho.form h0
    have hcap : xs.length ≤ cap := by
      rcases ho.2 with ⟨_, h1⟩ | ⟨g', cap', cur, he, _, _, h1, _⟩
      · omega
      · injection he with _ _ he
        omega
    have hg : g < w.heap.size := own_lt ho g rfl
    refine ⟨_, cap, rfl, hcap, fun _ => ⟨g, rfl, hb, hg, fun j hj => ?_⟩⟩
    have := ho.cells (g := g) rfl j (.int k (xs.getD j 0)) (by simp [encs, List.getElem?_eq_getElem hj, List.getD_eq_getElem?_getD])
    rwa [add_plain] at this

theorem drop_cons {xs : List Nat} {k : Nat} (h : k < xs.length) : xs.drop k = xs.getD k 0 :: xs.drop (k + 1) := by
  rw [List.drop_eq_getElem_cons h, List.getD_eq_getElem?_getD, List.getElem?_eq_getElem h]
  rfl
theorem getD_nums (xs : List Nat) (k : Nat) : (xs.map fun n : Nat => (n : Int)).getD k 0 = ((xs.getD k 0 : Nat) : Int) := by
  rw [List.getD_eq_getElem?_getD, List.getD_eq_getElem?_getD, List.getElem?_map]
  cases xs[k]? <;> rfl
theorem letters_bound : ∀ l : List UInt8, ∀ n ∈ letters l, n ≤ 1114500 := by
  refine by_letters (fun n h => by simp [letters_nil] at h) ?_
  intro l hne ih m hm
  rw [letters_step l hne] at hm
  rcases List.mem_cons.1 hm with rfl | hm
  · unfold letter1
    have h1 := (l.headD 0).toNat_lt
    have h2 := decodeL_rune l
    split <;> omega
  · exact ih m hm
theorem flet_bound (l : List UInt8) : ∀ n ∈ flet l, n ≤ 1114600 := by
  unfold flet
  intro n hn
  obtain ⟨m, hm, rfl⟩ := List.mem_map.1 hn
  have := letters_bound l m hm
  unfold foldN
  split <;> omega

set_option maxHeartbeats 4000000 in
set_option maxRecDepth 1000000 in
theorem order_calls (a b : ByteArray) (w : World) (ha : a.size ≤ 17592186044416) (hb : b.size ≤ 17592186044416) :
    Calls Tryd.prog 32 #[.string a, .string b] w fun e w' => e = .returned (.int .i64 (ordN (flet a.data.toList) (flet b.data.toList))) ∧ Below w.heap.size w w' := by
  have cA := letters_calls a w ha
  have hl1 := fnums_len a.data.toList
  have hl2 := fnums_len b.data.toList
  rw [← size_eq] at hl1 hl2
  have hx := flet_bound a.data.toList
  have hy := flet_bound b.data.toList
  unfold fnums at hl1 hl2
  obtain ⟨xs, hxs⟩ : ∃ xs, flet a.data.toList = xs := ⟨_, rfl⟩
  obtain ⟨ys, hys⟩ : ∃ ys, flet b.data.toList = ys := ⟨_, rfl⟩
  have cB := fun W => letters_calls b W hb
  unfold fnums at cA cB
  rw [hxs] at cA hl1 hx
  rw [hys] at cB hl2 hy
  rw [hxs, hys]
  rw [List.length_map] at hl1 hl2
  obtain ⟨tot, htot⟩ : ∃ tot, ordN xs ys = tot := ⟨_, rfl⟩
  rw [htot]
  have CA := Lib.hid cA
  have CB := Lib.hid cB
  have HT := Lib.hid htot
  have HX := Lib.hid hx
  have HY := Lib.hid hy
  obtain ⟨m, hm⟩ : ∃ m, xs.length = m := ⟨_, rfl⟩
  obtain ⟨n, hn⟩ : ∃ n, ys.length = n := ⟨_, rfl⟩
  rw [hm] at hl1
  rw [hn] at hl2
  have HM := Lib.hid hm
  have HN := Lib.hid hn
  clear cA cB htot hx hy hxs hys hm hn
  go_enter Tryd.func32, Tryd.ntmps32
  go_wp2_with fail
  refine (CA.out).mono ?_
  rintro e w1 ⟨v1, rfl, hR1, hb1⟩
  obtain ⟨A1, c1, rfl, hc1, hA1⟩ := open_row hR1
  rw [List.length_map, HM.out] at hc1 hA1 ⊢
  have HA1 := Lib.hid hA1
  clear hA1 hR1
  go_wp2_with fail
  refine (CB.out _).mono ?_
  rintro e w2 ⟨v2, rfl, hR2, hb2⟩
  obtain ⟨A2, c2, rfl, hc2, hA2⟩ := open_row hR2
  rw [List.length_map, HN.out] at hc2 hA2 ⊢
  have HA2 := Lib.hid hA2
  clear hA2 hR2
  have hbel : Below w.heap.size w w2 := hb1.trans (hb2.mono hb1.size)
  have HB2 := Lib.hid hb2
  clear hb1 hb2
  go_wp2
  go_loopw [7] (fun i wr => ∃ k q : Nat, i = .int .i64 k ∧ k ≤ m ∧ k ≤ n ∧ ordN (xs.drop k) (ys.drop k) = tot ∧ wr = w2.drewN q) (fun i _ => m - (RowKit.intOf i).toNat)
  case atStart => exact ⟨0, 0, rfl, Nat.zero_le _, Nat.zero_le _, HT.out, rfl⟩
  case round =>
    obtain ⟨k, q, rfl, hk1, hk2, hord, rfl⟩ := hrel
    have hbq : Below w.heap.size w (w2.drewN q) := pw_below_drewN hbel q
    by_cases h1 : k < m
    · by_cases h2 : k < n
      · obtain ⟨g1, rfl, _, hg1, hcell1⟩ := HA1.out (by omega)
        obtain ⟨g2, rfl, _, hg2, hcell2⟩ := HA2.out (by omega)
        have e1 := hcell1 k h1
        have e2 := hcell2 k h2
        rw [getD_nums] at e1 e2
        have f1 : w2.cell? ⟨g1, k, none⟩ = some (.int .i32 ((xs.getD k 0 : Nat) : Int)) := (HB2.out.cell (p := ⟨g1, k, none⟩) hg1).trans e1
        have f2 : w2.cell? ⟨g2, k, none⟩ = some (.int .i32 ((ys.getD k 0 : Nat) : Int)) := e2
        rw [drop_cons (xs := xs) (by have := HM.out; omega), drop_cons (xs := ys) (by have := HN.out; omega)] at hord
        obtain ⟨x, hx⟩ : ∃ x, xs.getD k 0 = x := ⟨_, rfl⟩
        obtain ⟨y, hy⟩ : ∃ y, ys.getD k 0 = y := ⟨_, rfl⟩
        have hxb : x ≤ 1114600 := by rw [← hx]; exact HX.out _ (by rw [List.getD_eq_getElem?_getD, List.getElem?_eq_getElem (by have := HM.out; omega)]; exact List.getElem_mem _)
        have hyb : y ≤ 1114600 := by rw [← hy]; exact HY.out _ (by rw [List.getD_eq_getElem?_getD, List.getElem?_eq_getElem (by have := HN.out; omega)]; exact List.getElem_mem _)
        rw [hx] at f1 hord
        rw [hy] at f2 hord
        have HO := Lib.hid hord
        have i0 : decide (k < m) = true := by simp; omega
        have i1 : decide (k < n) = true := by simp; omega
        have z0 : (0 : Int) ≤ (k : Int) := by omega
        have z1 : (k : Int) < (m : Int) := by omega
        have z2 : (k : Int) < (n : Int) := by omega
        clear hcell1 hcell2 e1 e2 hx hy hord HA1 HA2 hg1 hg2
        by_cases hxy : x = y
        · subst hxy
          have dd : ((x : Int) != (x : Int)) = false := by simp
          have HO2 := HO.out
          rw [ordN, if_pos rfl] at HO2
          have HO3 := Lib.hid HO2
          clear HO HO2
          go_wp2_with fail
          go_quiet (fail)
          go_wp2
          go_roundw
          case rel => exact ⟨k + 1, q + nq, by go_num, h1, h2, HO3.out, rfl⟩
          case measure => simp [RowKit.intOf]; omega
        · have dd : ((x : Int) != (y : Int)) = true := by simp; omega
          have HO2 := HO.out
          rw [ordN, if_neg hxy] at HO2
          subst HO2
          clear HO HT hxy
          go_wp2_with fail
          go_quiet (fail)
          go_wp2
          go_quiet (fail)
          go_wp2
          go_ret
          exact ⟨rfl, pw_below_drewN (pw_below_drewN hbq _) _⟩
      · have i0 : decide (k < m) = true := by simp; omega
        have i1 : decide (k < n) = false := by simp; omega
        have hd : ys.drop k = [] := List.drop_eq_nil_of_le (by have := HN.out; omega)
        rw [ordN_end _ _ (.inr hd), hd, List.length_drop, HM.out, List.length_nil] at hord
        have hk : k = n := by omega
        have HO1 : tot = (m : Int) - (n : Int) := by omega
        have HO := Lib.hid HO1
        clear HO1
        clear hord hd hk HT
        go_wp2
        go_ret
        exact ⟨by rw [HO.out]; rfl, hbq⟩
    · have i0 : decide (k < m) = false := by simp; omega
      have hd : xs.drop k = [] := List.drop_eq_nil_of_le (by have := HM.out; omega)
      rw [ordN_end _ _ (.inl hd), hd, List.length_drop, HN.out, List.length_nil] at hord
      have hk : k = m := by omega
      have HO1 : tot = (m : Int) - (n : Int) := by omega
      have HO := Lib.hid HO1
      clear HO1
      clear hord hd hk HT
      go_wp2
      go_ret
      exact ⟨by rw [HO.out]; rfl, hbq⟩

def alikeB (a b : List UInt8) : Bool := decide (ordN (flet a) (flet b) = 0)
def aheadB (a b : List UInt8) : Bool := decide (ordN (flet a) (flet b) < 0)
theorem Alike_calls (a b : ByteArray) (w : World) (ha : a.size ≤ 17592186044416) (hb : b.size ≤ 17592186044416) :
    Calls Tryd.prog 20 #[.string a, .string b] w fun e w' => e = .returned (.bool (alikeB a.data.toList b.data.toList)) ∧ Below w.heap.size w w' := by
  have c := order_calls a b w ha hb
  unfold alikeB
  generalize ordN (flet a.data.toList) (flet b.data.toList) = z at *
  go_enter Tryd.func20, Tryd.ntmps20
  go_wp2_with (go_at_call 32; with_reducible refine c.mono ?_)
  rintro e w' ⟨rfl, h⟩
  go_wp2
  go_ret
  exact ⟨by simp [BEq.beq], h⟩
theorem Ahead_calls (a b : ByteArray) (w : World) (ha : a.size ≤ 17592186044416) (hb : b.size ≤ 17592186044416) :
    Calls Tryd.prog 16 #[.string a, .string b] w fun e w' => e = .returned (.bool (aheadB a.data.toList b.data.toList)) ∧ Below w.heap.size w w' := by
  have c := order_calls a b w ha hb
  unfold aheadB
  generalize ordN (flet a.data.toList) (flet b.data.toList) = z at *
  go_enter Tryd.func16, Tryd.ntmps16
  go_wp2_with (go_at_call 32; with_reducible refine c.mono ?_)
  rintro e w' ⟨rfl, h⟩
  go_wp2
  go_ret
  exact ⟨rfl, h⟩
end Go.Proofs.YtkdjkndnilmjmaaDoor.U
/- What is alike: the same, folded. -/
set_option linter.unusedVariables false
set_option linter.unusedSimpArgs false
namespace Go.Proofs.YtkdjkndnilmjmaaDoor.U
theorem ordN_nil (ys : List Nat) : ordN [] ys = -(ys.length : Int) := by rw [ordN_end _ _ (.inl rfl)]; simp
theorem ordN_nil' (xs : List Nat) : ordN xs [] = (xs.length : Int) := by rw [ordN_end _ _ (.inr rfl)]; simp
theorem ordN_cons (x y : Nat) (xs ys : List Nat) : ordN (x :: xs) (y :: ys) = if x = y then ordN xs ys else (x : Int) - (y : Int) := by rw [ordN]
theorem ordN_eq : ∀ xs ys : List Nat, ordN xs ys = 0 ↔ xs = ys := by
  intro xs
  induction xs with
  | nil =>
    intro ys
    rw [ordN_nil]
    cases ys with
    | nil => simp
    | cons y ys => simp; omega
  | cons x xs ih =>
    intro ys
    cases ys with
    | nil => rw [ordN_nil']; simp; omega
    | cons y ys =>
      rw [ordN_cons]
      split
      · rename_i h
        subst h
        simp [ih]
      · rename_i h
        simp [h]
        omega
theorem flet_fold (l : List UInt8) : flet l = letters (fold l) := by unfold flet; rw [letters_fold]
theorem flet_iff (a b : List UInt8) : flet a = flet b ↔ fold a = fold b := by
  rw [flet_fold, flet_fold]
  exact ⟨letters_inj, fun h => by rw [h]⟩
theorem alike_flet (a b : List UInt8) : alikeB a b = decide (flet a = flet b) := by
  unfold alikeB
  exact decide_eq_decide.2 (ordN_eq _ _)
theorem alike_eq (a b : List UInt8) : alikeB a b = decide (fold a = fold b) := by
  rw [alike_flet]
  exact decide_eq_decide.2 (flet_iff a b)
end Go.Proofs.YtkdjkndnilmjmaaDoor.U
/- What a pattern fits, in plain words: 42 anything, 63 any letter; its laws. -/
namespace Go.Proofs.YtkdjkndnilmjmaaDoor.U

/-- Some end of a list. -/
def ends (f : List Int → Bool) : List Int → Bool
  | [] => f []
  | x :: t => f (x :: t) || ends f t
def okc (c x : Int) : Bool := decide (c = 63) || decide (c = x)
def mt : List Int → List Int → Bool
  | [], t => t.isEmpty
  | c :: p, t => if c = 42 then ends (mt p) t else match t with
    | [] => false
    | x :: t => okc c x && mt p t

theorem ends_iff (f : List Int → Bool) : ∀ t : List Int, ends f t = true ↔ ∃ A B, t = A ++ B ∧ f B = true := by
  intro t
  induction t with
  | nil =>
    constructor
    · intro h; exact ⟨[], [], rfl, h⟩
    · rintro ⟨A, B, e, h⟩
      have : B = [] := (List.append_eq_nil_iff.1 e.symm).2
      subst this
      exact h
  | cons x t ih =>
    rw [ends, Bool.or_eq_true, ih]
    constructor
    · rintro (h | ⟨A, B, rfl, h⟩)
      · exact ⟨[], _, rfl, h⟩
      · exact ⟨x :: A, B, rfl, h⟩
    · rintro ⟨A, B, e, h⟩
      cases A with
      | nil => left; rw [List.nil_append] at e; rw [e]; exact h
      | cons a A =>
        injection e with e1 e2
        exact .inr ⟨A, B, e2, h⟩
theorem mt_nil (t : List Int) : mt [] t = t.isEmpty := rfl
theorem mt_nil_iff (t : List Int) : mt [] t = true ↔ t = [] := by rw [mt_nil, List.isEmpty_iff]
theorem mt_star (p t : List Int) : mt (42 :: p) t = ends (mt p) t := rfl
theorem mt_star_iff (p t : List Int) : mt (42 :: p) t = true ↔ ∃ A B, t = A ++ B ∧ mt p B = true := by rw [mt_star, ends_iff]
theorem mt_star_nil (p : List Int) : mt (42 :: p) [] = mt p [] := by rw [mt_star, ends]
theorem mt_star_cons (p : List Int) (x : Int) (t : List Int) : mt (42 :: p) (x :: t) = (mt p (x :: t) || mt (42 :: p) t) := by rw [mt_star, ends, mt_star]
theorem mt_one_nil {c : Int} (h : c ≠ 42) (p : List Int) : mt (c :: p) [] = false := by
  show (if c = 42 then ends (mt p) [] else false) = false
  rw [if_neg h]
theorem mt_one {c : Int} (h : c ≠ 42) (p : List Int) (x : Int) (t : List Int) : mt (c :: p) (x :: t) = (okc c x && mt p t) := by
  show (if c = 42 then ends (mt p) (x :: t) else (okc c x && mt p t)) = _
  rw [if_neg h]
/-- A star fits more in front. -/
theorem mt_star_more (p A t : List Int) (h : mt (42 :: p) t = true) : mt (42 :: p) (A ++ t) = true := by
  rw [mt_star_iff] at h ⊢
  obtain ⟨B, C, rfl, h⟩ := h
  exact ⟨A ++ B, C, by rw [List.append_assoc], h⟩
/-- Two patterns, one behind the other. -/
theorem mt_append : ∀ (p q t : List Int), mt (p ++ q) t = true ↔ ∃ A B, t = A ++ B ∧ mt p A = true ∧ mt q B = true := by
  intro p
  induction p with
  | nil =>
    intro q t
    constructor
    · intro h; exact ⟨[], t, rfl, rfl, h⟩
    · rintro ⟨A, B, rfl, hA, hB⟩
      rw [mt_nil_iff] at hA
      subst hA
      exact hB
  | cons c p ih =>
    intro q t
    by_cases hc : c = 42
    · subst hc
      rw [List.cons_append, mt_star_iff]
      constructor
      · rintro ⟨A, B, rfl, h⟩
        obtain ⟨C, D, rfl, h1, h2⟩ := (ih q B).1 h
        exact ⟨A ++ C, D, by rw [List.append_assoc], (mt_star_iff _ _).2 ⟨A, C, rfl, h1⟩, h2⟩
      · rintro ⟨A, B, rfl, h1, h2⟩
        obtain ⟨C, D, rfl, h3⟩ := (mt_star_iff _ _).1 h1
        exact ⟨C, D ++ B, by rw [List.append_assoc], (ih q _).2 ⟨D, B, rfl, h3, h2⟩⟩
    · rw [List.cons_append]
      cases t with
      | nil =>
        rw [mt_one_nil hc]
        constructor
        · intro h; cases h
        · rintro ⟨A, B, e, h1, h2⟩
          have : A = [] := (List.append_eq_nil_iff.1 e.symm).1
          subst this
          rw [mt_one_nil hc] at h1
          exact h1
      | cons x t =>
        rw [mt_one hc, Bool.and_eq_true, ih]
        constructor
        · rintro ⟨hx, A, B, rfl, h1, h2⟩
          exact ⟨x :: A, B, rfl, by rw [mt_one hc, hx, h1]; rfl, h2⟩
        · rintro ⟨A, B, e, h1, h2⟩
          cases A with
          | nil => rw [mt_one_nil hc] at h1; cases h1
          | cons a A =>
            injection e with e1 e2
            subst e1
            rw [mt_one hc, Bool.and_eq_true] at h1
            exact ⟨h1.1, A, B, e2, h1.2, h2⟩
theorem mt_all (t : List Int) : mt [42] t = true := (mt_star_iff _ _).2 ⟨t, [], by simp, rfl⟩
/-- One behind: a star. -/
theorem mt_snoc_star (p t : List Int) : mt (p ++ [42]) t = true ↔ ∃ A B, t = A ++ B ∧ mt p A = true := by
  rw [mt_append]
  constructor
  · rintro ⟨A, B, e, h, _⟩; exact ⟨A, B, e, h⟩
  · rintro ⟨A, B, e, h⟩; exact ⟨A, B, e, h, mt_all B⟩
theorem mt_snoc_star_nil (p : List Int) : mt (p ++ [42]) [] = mt p [] := by
  rw [Bool.eq_iff_iff, mt_snoc_star]
  constructor
  · rintro ⟨A, B, e, h⟩
    have : A = [] := (List.append_eq_nil_iff.1 e.symm).1
    subst this
    exact h
  · intro h; exact ⟨[], [], rfl, h⟩
theorem mt_snoc_star_snoc (p t : List Int) (x : Int) : mt (p ++ [42]) (t ++ [x]) = (mt (p ++ [42]) t || mt p (t ++ [x])) := by
  rw [Bool.eq_iff_iff, Bool.or_eq_true, mt_snoc_star, mt_snoc_star]
  constructor
  · rintro ⟨A, B, e, h⟩
    rcases List.eq_nil_or_concat B with rfl | ⟨B', y, rfl⟩
    · right; rw [List.append_nil] at e; rw [e]; exact h
    · left
      rw [List.concat_eq_append, ← List.append_assoc] at e
      exact ⟨A, B', (List.append_inj' e rfl).1, h⟩
  · rintro (⟨A, B, rfl, h⟩ | h)
    · exact ⟨A, B ++ [x], by rw [List.append_assoc], h⟩
    · exact ⟨t ++ [x], [], by simp, h⟩
/-- One behind: none. -/
theorem mt_snoc_one_nil {c : Int} (hc : c ≠ 42) (p : List Int) : mt (p ++ [c]) [] = false := by
  cases h : mt (p ++ [c]) [] with
  | false => rfl
  | true =>
    obtain ⟨A, B, e, _, h2⟩ := (mt_append p [c] []).1 h
    have : B = [] := (List.append_eq_nil_iff.1 e.symm).2
    subst this
    rw [mt_one_nil hc] at h2
    cases h2
theorem mt_snoc_one {c : Int} (hc : c ≠ 42) (p t : List Int) (x : Int) : mt (p ++ [c]) (t ++ [x]) = (okc c x && mt p t) := by
  rw [Bool.eq_iff_iff, mt_append, Bool.and_eq_true]
  constructor
  · rintro ⟨A, B, e, h1, h2⟩
    cases B with
    | nil => rw [mt_one_nil hc] at h2; cases h2
    | cons b B =>
      rw [mt_one hc, Bool.and_eq_true, mt_nil_iff] at h2
      obtain ⟨h3, rfl⟩ := h2
      obtain ⟨e1, e2⟩ := List.append_inj' e rfl
      injection e2 with e2
      subst e1 e2
      exact ⟨h3, h1⟩
  · rintro ⟨h1, h2⟩
    exact ⟨t, [x], rfl, h2, by rw [mt_one hc, h1]; rfl⟩
/-- Letters that are none of the two. -/
theorem mt_plain : ∀ (p t : List Int), (∀ c ∈ p, c ≠ 42 ∧ c ≠ 63) → mt p t = decide (p = t) := by
  intro p
  induction p with
  | nil => intro t _; cases t <;> rfl
  | cons c p ih =>
    intro t h
    have hc := h c List.mem_cons_self
    cases t with
    | nil => rw [mt_one_nil hc.1]; simp
    | cons x t =>
      rw [mt_one hc.1, ih t fun y hy => h y (List.mem_cons_of_mem _ hy)]
      unfold okc
      rw [decide_eq_false hc.2, Bool.false_or]
      by_cases h1 : c = x <;> by_cases h2 : p = t <;> simp [h1, h2]
theorem mt_marks : ∀ (k : Nat) (t : List Int), mt (List.replicate k 63) t = decide (t.length = k) := by
  intro k
  induction k with
  | zero => intro t; rw [List.replicate_zero, mt_nil]; cases t <;> simp
  | succ k ih =>
    intro t
    rw [List.replicate_succ]
    cases t with
    | nil => rw [mt_one_nil (by decide)]; simp
    | cons x t =>
      rw [mt_one (by decide), ih]
      unfold okc
      simp
theorem mt_marks_star (k : Nat) (t : List Int) : mt (List.replicate k 63 ++ [42]) t = decide (k ≤ t.length) := by
  rw [Bool.eq_iff_iff, mt_snoc_star, decide_eq_true_eq]
  constructor
  · rintro ⟨A, B, rfl, h⟩
    rw [mt_marks, decide_eq_true_eq] at h
    simp
    omega
  · intro h
    exact ⟨t.take k, t.drop k, (List.take_append_drop k t).symm, by rw [mt_marks, decide_eq_true_eq, List.length_take]; omega⟩
theorem mt_star_marks (k : Nat) (t : List Int) : mt (42 :: List.replicate k 63) t = decide (k ≤ t.length) := by
  rw [Bool.eq_iff_iff, mt_star_iff, decide_eq_true_eq]
  constructor
  · rintro ⟨A, B, rfl, h⟩
    rw [mt_marks, decide_eq_true_eq] at h
    simp
    omega
  · intro h
    exact ⟨t.take (t.length - k), t.drop (t.length - k), (List.take_append_drop _ t).symm, by rw [mt_marks, decide_eq_true_eq, List.length_drop]; omega⟩

/-! ### Going over a text from a star on -/
/-- Letters p[a..i) without a star take just so many. -/
theorem seg_step {p : List Int} {i : Nat} (h : i < p.length) : p.drop i = p.getD i 0 :: p.drop (i + 1) := by
  rw [List.getD_eq_getElem?_getD, List.getElem?_eq_getElem h, Option.getD_some]
  exact List.drop_eq_getElem_cons h
end Go.Proofs.YtkdjkndnilmjmaaDoor.U
/- Going over a text once, back to the last star at what does not fit: its steps, in plain words. -/
set_option linter.unusedVariables false
namespace Go.Proofs.YtkdjkndnilmjmaaDoor.U

def Gi (p t : List Int) (i at' : Nat) (star : Option Nat) (mark : Nat) : Prop :=
  i ≤ p.length ∧ at' ≤ t.length ∧ match star with
  | none => mt p t = mt (p.drop i) (t.drop at')
  | some s => s < i ∧ mark ≤ at' ∧ at' - mark = i - (s + 1) ∧ mt p t = mt (42 :: p.drop (s + 1)) (t.drop mark) ∧
      (∀ T : List Int, mt (p.drop (s + 1)) T = true → at' - mark ≤ T.length ∧ mt (p.drop i) (T.drop (at' - mark)) = true) ∧
      (mt (p.drop i) (t.drop at') = true → mt (p.drop (s + 1)) (t.drop mark) = true)

theorem G0 (p t : List Int) : Gi p t 0 0 none 0 := ⟨Nat.zero_le _, Nat.zero_le _, rfl⟩
/-- One letter. -/
theorem G1 {p t : List Int} {i at' mark : Nat} {st : Option Nat} (h : Gi p t i at' st mark) (hi : i < p.length) (ha : at' < t.length) (h42 : p.getD i 0 ≠ 42) (hok : okc (p.getD i 0) (t.getD at' 0) = true) :
    Gi p t (i + 1) (at' + 1) st mark := by
  obtain ⟨_, _, h⟩ := h
  have e1 := seg_step hi
  have e2 := seg_step ha
  refine ⟨hi, ha, ?_⟩
  cases st with
  | none =>
    simp only at h ⊢
    rw [h, e1, e2, mt_one h42, hok, Bool.true_and]
  | some s =>
    simp only at h ⊢
    obtain ⟨h1, h2, h3, h4, h5, h6⟩ := h
    refine ⟨by omega, by omega, by omega, h4, fun T hT => ?_, fun hm => h6 ?_⟩
    · obtain ⟨k1, k2⟩ := h5 T hT
      rw [e1] at k2
      have hl : at' - mark < T.length := by
        rcases Nat.lt_or_ge (at' - mark) T.length with h | h
        · exact h
        · rw [List.drop_eq_nil_of_le h, mt_one_nil h42] at k2
          cases k2
      rw [seg_step hl, mt_one h42, Bool.and_eq_true] at k2
      refine ⟨by omega, ?_⟩
      rw [show at' + 1 - mark = at' - mark + 1 by omega]
      exact k2.2
    · rw [e1, e2, mt_one h42, hok, hm]
      rfl
/-- A star. -/
theorem G2 {p t : List Int} {i at' mark : Nat} {st : Option Nat} (h : Gi p t i at' st mark) (hi : i < p.length) (h42 : p.getD i 0 = 42) :
    Gi p t (i + 1) at' (some i) at' := by
  obtain ⟨_, ha, h⟩ := h
  have e1 := seg_step hi
  rw [h42] at e1
  refine ⟨hi, ha, ?_⟩
  simp only
  refine ⟨by omega, Nat.le_refl _, by omega, ?_, fun T hT => ⟨by omega, by rw [Nat.sub_self, List.drop_zero]; exact hT⟩, fun h => h⟩
  cases st with
  | none =>
    simp only at h
    rw [h, e1]
  | some s =>
    simp only at h
    obtain ⟨h1, h2, h3, h4, h5, h6⟩ := h
    rw [h4, Bool.eq_iff_iff]
    constructor
    · intro h
      obtain ⟨A, B, e, hB⟩ := (mt_star_iff _ _).1 h
      obtain ⟨k1, k2⟩ := h5 B hB
      rw [e1] at k2
      have e3 : t.drop at' = (A ++ B).drop (at' - mark) := by rw [← e, List.drop_drop]; congr 1; omega
      rw [e3]
      have e4 : (A ++ B).drop (at' - mark) = ((A ++ B).drop (at' - mark)).take A.length ++ B.drop (at' - mark) := by
        have e5 : ((A ++ B).drop (at' - mark)).drop A.length = B.drop (at' - mark) := by
          rw [List.drop_drop, Nat.add_comm, ← List.drop_drop, List.drop_left]
        rw [← e5, List.take_append_drop]
      rw [e4]
      exact mt_star_more _ _ _ k2
    · intro h
      rw [← e1] at h
      exact (mt_star_iff _ _).2 ⟨[], _, rfl, h6 h⟩
theorem no_fit {p t : List Int} {i at' : Nat} (hi : i ≤ p.length) (ha : at' < t.length) (hno : i < p.length → p.getD i 0 ≠ 42 ∧ okc (p.getD i 0) (t.getD at' 0) = false) : mt (p.drop i) (t.drop at') = false := by
  rw [seg_step ha]
  rcases Nat.lt_or_ge i p.length with h | h
  · rw [seg_step h, mt_one (hno h).1, (hno h).2]
    rfl
  · rw [List.drop_eq_nil_of_le h]
    rfl
/-- Nothing fits: from the star on, a letter more. -/
theorem G3 {p t : List Int} {i at' mark s : Nat} (h : Gi p t i at' (some s) mark) (ha : at' < t.length) (hno : i < p.length → p.getD i 0 ≠ 42 ∧ okc (p.getD i 0) (t.getD at' 0) = false) :
    Gi p t (s + 1) (mark + 1) (some s) (mark + 1) := by
  obtain ⟨hi, _, h⟩ := h
  simp only at h
  obtain ⟨h1, h2, h3, h4, h5, h6⟩ := h
  refine ⟨by omega, by omega, ?_⟩
  simp only
  refine ⟨by omega, Nat.le_refl _, by omega, ?_, fun T hT => ⟨by omega, by rw [Nat.sub_self, List.drop_zero]; exact hT⟩, fun h => h⟩
  have hf := no_fit hi ha hno
  have hf2 : mt (p.drop (s + 1)) (t.drop mark) = false := by
    cases hc : mt (p.drop (s + 1)) (t.drop mark) with
    | false => rfl
    | true =>
      have := (h5 _ hc).2
      rw [List.drop_drop, show mark + (at' - mark) = at' by omega, hf] at this
      cases this
  rw [h4]
  have e := seg_step (p := t) (i := mark) (by omega)
  rw [e] at hf2 ⊢
  rw [mt_star_cons, hf2, Bool.false_or]
theorem G4 {p t : List Int} {i at' mark : Nat} (h : Gi p t i at' none mark) (ha : at' < t.length) (hno : i < p.length → p.getD i 0 ≠ 42 ∧ okc (p.getD i 0) (t.getD at' 0) = false) : mt p t = false := by
  obtain ⟨hi, _, h⟩ := h
  simp only at h
  rw [h]
  exact no_fit hi ha hno
/-- The end. -/
theorem G5 {p t : List Int} {i at' mark : Nat} {st : Option Nat} (h : Gi p t i at' st mark) (ha : t.length ≤ at') : mt p t = mt (p.drop i) [] := by
  obtain ⟨hi, ha', h⟩ := h
  have hd : t.drop at' = [] := List.drop_eq_nil_of_le ha
  cases st with
  | none =>
    simp only at h
    rw [h, hd]
  | some s =>
    simp only at h
    obtain ⟨h1, h2, h3, h4, h5, h6⟩ := h
    rw [hd] at h6
    rw [h4, Bool.eq_iff_iff]
    constructor
    · intro h
      obtain ⟨A, B, e, hB⟩ := (mt_star_iff _ _).1 h
      obtain ⟨k1, k2⟩ := h5 B hB
      have : (t.drop mark).length = A.length + B.length := by rw [e, List.length_append]
      rw [List.length_drop] at this
      have e9 : B.drop (at' - mark) = [] := List.drop_eq_nil_of_le (by omega)
      rw [e9] at k2
      exact k2
    · intro h
      exact (mt_star_iff _ _).2 ⟨[], _, rfl, h6 h⟩
theorem G6 {p : List Int} {i : Nat} (hi : i < p.length) (h : p.getD i 0 = 42) : mt (p.drop i) [] = mt (p.drop (i + 1)) [] := by
  rw [seg_step hi, h, mt_star_nil]
theorem G7 {p : List Int} {i : Nat} (hi : i ≤ p.length) (h : i < p.length → p.getD i 0 ≠ 42) : mt (p.drop i) [] = decide (i = p.length) := by
  rcases Nat.lt_or_ge i p.length with hl | hl
  · rw [seg_step hl, mt_one_nil (h hl), decide_eq_false (by omega)]
  · rw [List.drop_eq_nil_of_le hl, decide_eq_true (by omega)]
    rfl
end Go.Proofs.YtkdjkndnilmjmaaDoor.U
/- glob.asked: the letters of a pattern and of a text, folded, or an error. -/
set_option linter.unusedVariables false
set_option linter.unusedSimpArgs false
namespace Go.Proofs.YtkdjkndnilmjmaaDoor.U
open Go.RowKit Go.Proofs Go.Lib Go.Proofs.YtkdjkndnilmjmaaDoorW.PrintWords

/-- '[]rune(s)' of a text: its letters. -/
theorem runes_from (s : ByteArray) : ∀ (n i : Nat) (acc : Array Value), s.size - i ≤ n → valid (s.data.toList.drop i) = true →
    Conv.runesFrom s n i acc = acc ++ (nums .i32 ((letters (s.data.toList.drop i)).map fun m : Nat => (m : Int))).toArray := by
  intro n
  induction n with
  | zero =>
    intro i acc hn hv
    rw [List.drop_eq_nil_of_le (by rw [← size_eq]; omega), letters_nil]
    simp [Conv.runesFrom, nums]
  | succ n ih =>
    intro i acc hn hv
    unfold Conv.runesFrom
    by_cases h : i < s.size
    · rw [if_pos h]
      obtain ⟨r, wd, h1, h2, h3, h4, h5⟩ := next_facts s i h
      obtain ⟨_, hv', hl⟩ := units_step h2 h5 hv
      rw [h1]
      simp only
      rw [ih (i + wd) _ (by omega) hv', hl]
      simp [nums]
    · rw [if_neg h, List.drop_eq_nil_of_le (by rw [← size_eq]; omega), letters_nil]
      simp [nums]
/-- The letters of a text, folded, as '[]rune(Fold(s))' lays them. -/
theorem runes_fold (s : ByteArray) (hv : valid s.data.toList = true) : Conv.runesFrom ⟨(fold s.data.toList).toArray⟩ (⟨(fold s.data.toList).toArray⟩ : ByteArray).size 0 #[] = (nums .i32 (fnums s.data.toList)).toArray := by
  rw [runes_from _ _ 0 #[] (by omega) (by rw [List.drop_zero]; exact (valid_fold _).trans hv)]
  rw [List.drop_zero]
  show #[] ++ (nums .i32 ((letters (fold s.data.toList)).map fun m : Nat => (m : Int))).toArray = _
  rw [letters_fold]
  unfold fnums flet
  simp
theorem convert_runes (s : ByteArray) (hv : valid s.data.toList = true) (hs : s.size ≤ 17592186044416) (W : World) :
    ∃ cap, (convert 9 79 (.string ⟨(fold s.data.toList).toArray⟩)).run Tryd.prog W = .ok (.slice (some ⟨W.heap.size, 0, none⟩) (fnums s.data.toList).length cap)
      (W.drew.alloc (.cells ((nums .i32 (fnums s.data.toList)).toArray ++ Array.replicate (cap - (fnums s.data.toList).length) (.int .i32 0)) 21)) ∧ (fnums s.data.toList).length ≤ cap ∧ cap ≤ maxLen := by
  have hr := runes_fold s hv
  have hl : (nums .i32 (fnums s.data.toList)).toArray.size = (fnums s.data.toList).length := by simp [nums]
  have hb : (fnums s.data.toList).length ≤ 17592186044416 := by have := fnums_len s.data.toList; rw [← size_eq] at this; omega
  have h := run_runes_of_string (P := Tryd.prog) W 9 79 21 ⟨(fold s.data.toList).toArray⟩ Tryd.underlying9 Tryd.underlying79 Tryd.underlying21 (by rw [hr, hl]; omega)
  rw [hr, hl] at h
  exact ⟨_, h, grownCap_ge _ _ _ _, grownCap_le_maxLen _ _ _ _ (by unfold maxLen; omega)⟩
theorem row_of_runes (xs : List Int) (W : World) (cap : Nat) (h1 : xs.length ≤ cap) (h2 : cap ≤ maxLen) :
    Kd.R (Kd.int .i32) 21 (W.alloc (.cells ((nums .i32 xs).toArray ++ Array.replicate (cap - xs.length) (.int .i32 0)) 21)) W.heap.size (fun _ => True) (.slice (some ⟨W.heap.size, 0, none⟩) xs.length cap) xs := by
  refine Kd.R_of_own ⟨by simp [encs], .inr ⟨W.heap.size, cap, _, rfl, Nat.le_refl _, heap_alloc_new W _, h1, h2, ?_, ?_⟩⟩ (fun _ _ => trivial)
  · simp [nums]; omega
  · simp only [Nat.mul_one, Array.toList_append, List.toList_toArray]
    rw [List.take_append_of_le_length (by simp [nums]), List.take_of_length_le (by simp [nums])]
    rfl

def askE (a b : List UInt8) : Int := if valid a = true ∧ valid b = true then (if 64 < (fnums a).length ∨ 256 < (fnums b).length then 3 else 0) else 5
def AskDone (a b : ByteArray) (w : World) (e : Ending) (w' : World) : Prop :=
  ∃ vP vT, e = .returned (.tuple #[vP, vT, .int .i64 (askE a.data.toList b.data.toList)]) ∧ Below w.heap.size w w' ∧ ((∃ A n c, vP = .slice A n c) ∧ ∃ A n c, vT = .slice A n c) ∧
    (askE a.data.toList b.data.toList = 0 → Kd.R (Kd.int .i32) 21 w' w.heap.size (fun _ => True) vP (fnums a.data.toList) ∧ Kd.R (Kd.int .i32) 21 w' w.heap.size (fun _ => True) vT (fnums b.data.toList))
theorem R_below {e : Nat} {w1 w2 : World} {base : Nat} {v : Value} {xs : List Int} (h : Kd.R (Kd.int .i32) e w1 base (fun _ => True) v xs) (hb : Below w1.heap.size w1 w2) : Kd.R (Kd.int .i32) e w2 base (fun _ => True) v xs := by
  have ho := Kd.own_of_R h
  refine Kd.R_of_own (own_move ho fun k hk => ?_) (fun _ _ => trivial)
  exact hb.block k (ho.lt k hk).2

theorem two_at (a b : ByteArray) : (∀ W : World, (Instr.index 95 (.agg #[.string a, .string b]) (.int .i64 0)).run Tryd.prog W = .ok (.string a) W) ∧ (∀ W : World, (Instr.index 95 (.agg #[.string a, .string b]) (.int .i64 1)).run Tryd.prog W = .ok (.string b) W) := by
  have h : Tryd.prog.underlying 95 = some (.array 2 9) := by kernel_rfl
  constructor <;> intro W <;> simp [Instr.index, run_underlying h, asIntOf, go_sem]

set_option maxHeartbeats 8000000 in
set_option maxRecDepth 1000000 in
theorem asked_calls (a b : ByteArray) (w : World) (ha : a.size ≤ 17592186044416) (hb : b.size ≤ 17592186044416) (hT : Tabs w) :
    Calls Tryd.prog 43 #[.string a, .string b] w (AskDone a b w) := by
  have c1 := fun W (h : Tabs W) => Units_calls a W (by omega) h
  have c2 := fun W (h : Tabs W) => Units_calls b W (by omega) h
  have c3 := fun W => Fold_calls a W (by omega)
  have c4 := fun W => Fold_calls b W (by omega)
  have c5 : valid a.data.toList = true → ∀ W, _ := fun h W => convert_runes a h ha W
  have c6 : valid b.data.toList = true → ∀ W, _ := fun h W => convert_runes b h hb W
  have hl1 : (fnums a.data.toList).length ≤ 17592186044416 := by have := fnums_len a.data.toList; rw [← size_eq] at this; omega
  have hl2 : (fnums b.data.toList).length ≤ 17592186044416 := by have := fnums_len b.data.toList; rw [← size_eq] at this; omega
  have hE : askE a.data.toList b.data.toList = if valid a.data.toList = true ∧ valid b.data.toList = true then (if 64 < (fnums a.data.toList).length ∨ 256 < (fnums b.data.toList).length then 3 else 0) else 5 := rfl
  unfold AskDone
  generalize askE a.data.toList b.data.toList = E at *
  unfold errOf at c1 c2
  generalize countOf a.data.toList = n1 at *
  generalize countOf b.data.toList = n2 at *
  generalize fnums a.data.toList = P at *
  generalize fnums b.data.toList = T at *
  generalize (⟨(fold a.data.toList).toArray⟩ : ByteArray) = fa at *
  generalize (⟨(fold b.data.toList).toArray⟩ : ByteArray) = fb at *
  obtain ⟨va, hva⟩ : ∃ v, valid a.data.toList = v := ⟨_, rfl⟩
  obtain ⟨vb, hvb⟩ : ∃ v, valid b.data.toList = v := ⟨_, rfl⟩
  rw [hva] at c1 c5 hE
  rw [hvb] at c2 c6 hE
  clear hva hvb
  have HT := Lib.hid hT
  have C1 := Lib.hid c1
  have C2 := Lib.hid c2
  have C3 := Lib.hid c3
  have C4 := Lib.hid c4
  have C5 := Lib.hid c5
  have C6 := Lib.hid c6
  have HE := Lib.hid hE
  obtain ⟨x0, x1⟩ := two_at a b
  clear c1 c2 c3 c4 c5 c6 hT hE ha hb
  go_enter Tryd.func43, Tryd.ntmps43
  go_wp2
  go_loopw [14] (fun i wr => Below w.heap.size w wr ∧ (i = .int .i64 0 ∨ (i = .int .i64 1 ∧ va = true) ∨ (i = .int .i64 2 ∧ va = true ∧ vb = true))) (fun i _ => 2 - (RowKit.intOf i).toNat)
  case atStart => exact ⟨Below.refl _ _, .inl rfl⟩
  case round =>
    obtain ⟨hbw, hrel⟩ := hrel
    have B0 := Lib.hid hbw
    clear hbw
    rcases hrel with rfl | ⟨rfl, rfl⟩ | ⟨rfl, rfl, rfl⟩
    · go_wp2_with fail
      refine (C1.out _ (HT.out.below B0.out)).mono ?_
      rintro e w1 ⟨rfl, hb1⟩
      have B1 := Lib.hid (B0.out.trans (hb1.mono B0.out.size))
      clear hb1
      cases va with
      | false =>
        simp only [Bool.false_eq_true, if_false]
        go_wp2
        go_ret3
        exact ⟨.slice none 0 0, .slice none 0 0, by rw [HE.out]; simp, B1.out, ⟨⟨_, _, _, rfl⟩, _, _, _, rfl⟩, fun h => by rw [HE.out] at h; simp at h⟩
      | true =>
        simp only [if_true]
        go_wp2
        go_roundw
        case rel => exact ⟨B1.out, .inr (.inl ⟨rfl, by trivial⟩)⟩
        case measure => simp [RowKit.intOf]
    · go_wp2_with fail
      refine (C2.out _ (HT.out.below B0.out)).mono ?_
      rintro e w1 ⟨rfl, hb1⟩
      have B1 := Lib.hid (B0.out.trans (hb1.mono B0.out.size))
      clear hb1
      cases vb with
      | false =>
        simp only [Bool.false_eq_true, if_false]
        go_wp2
        go_ret3
        exact ⟨.slice none 0 0, .slice none 0 0, by rw [HE.out]; simp, B1.out, ⟨⟨_, _, _, rfl⟩, _, _, _, rfl⟩, fun h => by rw [HE.out] at h; simp at h⟩
      | true =>
        simp only [if_true]
        go_wp2
        go_roundw
        case rel => exact ⟨B1.out, .inr (.inr ⟨rfl, by trivial, by trivial⟩)⟩
        case measure => simp [RowKit.intOf]
    · go_wp2_with fail
      refine (C3.out _).mono ?_
      rintro e w1 ⟨rfl, hb1⟩
      have B1 := Lib.hid (B0.out.trans (hb1.mono B0.out.size))
      clear hb1
      obtain ⟨cap1, cv1, k1, k2⟩ := C5.out (by trivial) w1
      have R1 := Lib.hid (row_of_runes P w1.drew cap1 k1 k2)
      have A1 := Lib.hid (B1.out.trans ((below_drew1 (Below.refl w1.heap.size w1)).alloc (Nat.le_refl _) (.cells ((nums .i32 P).toArray ++ Array.replicate (cap1 - P.length) (.int .i32 0)) 21) |>.mono B1.out.size))
      have S1 := Lib.hid B1.out.size
      clear k1 k2 B1
      go_wp2_with fail
      clear cv1
      refine (C4.out _).mono ?_
      rintro e w2 ⟨rfl, hb2⟩
      have B2 := Lib.hid (A1.out.trans (hb2.mono A1.out.size))
      have R2 := Lib.hid (Kd.R_lower (R_below R1.out hb2) S1.out)
      clear hb2 A1 R1 S1
      obtain ⟨cap2, cv2, k1, k2⟩ := C6.out (by trivial) w2
      have R3 := Lib.hid (Kd.R_lower (row_of_runes T w2.drew cap2 k1 k2) B2.out.size)
      have hbz := (below_drew1 (Below.refl w2.heap.size w2)).alloc (Nat.le_refl _) (.cells ((nums .i32 T).toArray ++ Array.replicate (cap2 - T.length) (.int .i32 0)) 21)
      have R4 := Lib.hid (R_below R2.out hbz)
      have B3 := Lib.hid (B2.out.trans (hbz.mono B2.out.size))
      have hE := HE.out
      simp only [and_self, if_true] at hE
      clear k1 k2 hbz B2 R2 HE
      by_cases l1 : 64 < P.length
      · rw [if_pos (.inl l1)] at hE
        have d1 : decide ((64 : Int) < (P.length : Int)) = true := by simp; omega
        go_wp2
        go_ret3
        exact ⟨.slice none 0 0, .slice none 0 0, by rw [hE]; rfl, B3.out, ⟨⟨_, _, _, rfl⟩, _, _, _, rfl⟩, fun h => by rw [hE] at h; cases h⟩
      · have d1 : decide ((64 : Int) < (P.length : Int)) = false := by simp; omega
        by_cases l2 : 256 < T.length
        · rw [if_pos (.inr l2)] at hE
          have d2 : decide ((256 : Int) < (T.length : Int)) = true := by simp; omega
          go_wp2
          go_ret3
          exact ⟨.slice none 0 0, .slice none 0 0, by rw [hE]; rfl, B3.out, ⟨⟨_, _, _, rfl⟩, _, _, _, rfl⟩, fun h => by rw [hE] at h; cases h⟩
        · rw [if_neg (by omega)] at hE
          have d2 : decide ((256 : Int) < (T.length : Int)) = false := by simp; omega
          go_wp2
          go_ret3
          exact ⟨_, _, by rw [hE]; rfl, B3.out, ⟨⟨_, _, _, rfl⟩, _, _, _, rfl⟩, fun _ => ⟨R4.out, R3.out⟩⟩
end Go.Proofs.YtkdjkndnilmjmaaDoor.U
/- glob.Fits: a pattern is held against a text. -/
set_option linter.unusedVariables false
set_option linter.unusedSimpArgs false
namespace Go.Proofs.YtkdjkndnilmjmaaDoor.U
open Go.RowKit Go.Proofs Go.Lib Go.Proofs.YtkdjkndnilmjmaaDoorW.PrintWords

/-- A row of letters that is read, in a block below N. -/
def Row32 (w : World) (N : Nat) (v : Value) (xs : List Int) : Prop :=
  ∃ A c, v = .slice A xs.length c ∧ xs.length ≤ c ∧ (0 < xs.length → ∃ g, A = some ⟨g, 0, none⟩ ∧ g < N ∧ ∀ j, j < xs.length → w.cell? ⟨g, j, none⟩ = some (.int .i32 (xs.getD j 0)))
theorem Row32.of_R {w : World} {e base : Nat} {v : Value} {xs : List Int} (h : Kd.R (Kd.int .i32) e w base (fun _ => True) v xs) : Row32 w w.heap.size v xs := by
  obtain ⟨A, c, h1, h2, h3⟩ := open_row h
  refine ⟨A, c, h1, h2, fun h0 => ?_⟩
  obtain ⟨g, e, _, hg, hc⟩ := h3 h0
  exact ⟨g, e, hg, hc⟩
theorem Row32.kept {w w' : World} {N : Nat} {v : Value} {xs : List Int} (h : Row32 w N v xs) (hk : ∀ k, k < N → w'.heap[k]? = w.heap[k]?) : Row32 w' N v xs := by
  obtain ⟨A, c, h1, h2, h3⟩ := h
  refine ⟨A, c, h1, h2, fun h0 => ?_⟩
  obtain ⟨g, e, hg, hc⟩ := h3 h0
  exact ⟨g, e, hg, fun j hj => (World.cell?_of_block (a := ⟨g, j, none⟩) (hk g hg)).trans (hc j hj)⟩

/-- What lies in memory while a pattern is held against a text: the two rows, and at which letter of the pattern one is. -/
def FM (w : World) (N : Nat) (vP vT : Value) (P T : List Int) (i : Nat) : Prop :=
  w.heap[N]? = some (.cells #[vP] 79 (0, 0)) ∧ w.heap[N + 1]? = some (.cells #[vT] 79 (0, 0)) ∧ w.heap[N + 1 + 1]? = some (.cells #[.int .i64 (i : Int)] 3 (0, 0)) ∧ Row32 w N vP P ∧ Row32 w N vT T
def oneB (P T : List Int) (i at' : Nat) : Bool := decide (i < P.length) && (decide (P.getD i 0 ≠ 42) && okc (P.getD i 0) (T.getD at' 0))

set_option maxHeartbeats 8000000 in
set_option maxRecDepth 1000000 in
theorem one_calls (w : World) (N : Nat) (vP vT : Value) (P T : List Int) (i at' : Nat) (h : FM w N vP vT P T i) (hi : i ≤ P.length) (ha : at' < T.length) (hP : P.length ≤ 64) (hT : T.length ≤ 256) :
    Calls Tryd.prog 44 #[.int .i64 at', .pointer (some ⟨N + 1 + 1, 0, none⟩), .pointer (some ⟨N, 0, none⟩), .pointer (some ⟨N + 1, 0, none⟩)] w fun e w' => e = .returned (.bool (oneB P T i at')) ∧ ∃ q, w' = w.drewN q := by
  obtain ⟨h1, h2, h3, ⟨A1, cp1, rfl, hl1, hr1⟩, ⟨A2, cp2, rfl, hl2, hr2⟩⟩ := h
  have c1 : w.cell? ⟨N, 0, none⟩ = some (.slice A1 P.length cp1) := by rw [Lib.cell_of_heap h1]; rfl
  have c2 : w.cell? ⟨N + 1, 0, none⟩ = some (.slice A2 T.length cp2) := by rw [Lib.cell_of_heap h2]; rfl
  have c3 : w.cell? ⟨N + 1 + 1, 0, none⟩ = some (.int .i64 (i : Int)) := by rw [Lib.cell_of_heap h3]; rfl
  obtain ⟨g2, rfl, _, k2⟩ := hr2 (by omega)
  have x2 := k2 at' ha
  unfold oneB okc
  generalize T.getD at' 0 = tt at *
  clear h1 h2 h3 hr2 k2
  by_cases hip : i < P.length
  · obtain ⟨g1, rfl, _, k1⟩ := hr1 (by omega)
    have x1 := k1 i hip
    generalize P.getD i 0 = pp at *
    have d0 : decide ((i : Int) < (P.length : Int)) = true := by simp; omega
    rw [decide_eq_true hip, Bool.true_and]
    generalize P.length = m at *
    generalize T.length = n at *
    clear hr1 k1
    by_cases h42 : pp = 42
    · subst h42
      go_enter Tryd.func44, Tryd.ntmps44
      go_wp2
      repeat (go_quiet (fail); try go_wp2)
      go_ret
      exact ⟨rfl, _, rfl⟩
    · have d1 : (pp == 42) = false := by simp [h42]
      rw [decide_eq_true h42, Bool.true_and]
      by_cases h63 : pp = 63
      · subst h63
        go_enter Tryd.func44, Tryd.ntmps44
        go_wp2
        repeat (go_quiet (fail); try go_wp2)
        go_ret
        exact ⟨rfl, _, rfl⟩
      · have d2 : (pp == 63) = false := by simp [h63]
        rw [decide_eq_false h63, Bool.false_or]
        go_enter Tryd.func44, Tryd.ntmps44
        go_wp2
        repeat (go_quiet (fail); try go_wp2)
        go_ret
        exact ⟨by simp [BEq.beq]; intro _; exact h42, _, rfl⟩
  · have d0 : decide ((i : Int) < (P.length : Int)) = false := by simp; omega
    rw [decide_eq_false hip, Bool.false_and]
    generalize P.length = m at *
    generalize T.length = n at *
    go_enter Tryd.func44, Tryd.ntmps44
    go_wp2
    repeat (go_quiet (fail); try go_wp2)
    go_ret
    exact ⟨rfl, _, rfl⟩
end Go.Proofs.YtkdjkndnilmjmaaDoor.U
/- glob.Fits, its walk. -/
set_option linter.unusedVariables false
set_option linter.unusedSimpArgs false
namespace Go.Proofs.YtkdjkndnilmjmaaDoor.U
open Go.RowKit Go.Proofs Go.Lib Go.Proofs.YtkdjkndnilmjmaaDoorW.PrintWords

def fitB (a b : List UInt8) : Bool := if askE a b = 0 then mt (fnums a) (fnums b) else false

theorem FM_start (w : World) (vP vT : Value) (P T : List Int) (h1 : Row32 w w.heap.size vP P) (h2 : Row32 w w.heap.size vT T) :
    FM (((w.alloc (.cells #[vP] 79)).alloc (.cells #[vT] 79)).alloc (.cells #[Value.int .i64 0] 3)) w.heap.size vP vT P T 0 := by
  have hk : ∀ k, k < w.heap.size → (((w.alloc (.cells #[vP] 79)).alloc (.cells #[vT] 79)).alloc (.cells #[Value.int .i64 0] 3)).heap[k]? = w.heap[k]? := fun k hk => by
    rw [Lib.alloc_old _ _ k (by simp; omega), Lib.alloc_old _ _ k (by simp; omega), Lib.alloc_old _ _ k hk]
  refine ⟨?_, ?_, ?_, h1.kept hk, h2.kept hk⟩
  · rw [Lib.alloc_old _ _ _ (by simp; omega), Lib.alloc_old _ _ _ (by simp)]
    exact heap_alloc_new w _
  · rw [Lib.alloc_old _ _ _ (by simp)]
    have := heap_alloc_new (w.alloc (.cells #[vP] 79)) (.cells #[vT] 79)
    simpa using this
  · have := heap_alloc_new ((w.alloc (.cells #[vP] 79)).alloc (.cells #[vT] 79)) (.cells #[Value.int .i64 0] 3)
    simpa using this
theorem FM.set {w : World} {N : Nat} {vP vT : Value} {P T : List Int} {i : Nat} (h : FM w N vP vT P T i) (j : Nat) : FM (w.setCell ⟨N + 1 + 1, 0, none⟩ (.int .i64 (j : Int))) N vP vT P T j := by
  obtain ⟨h1, h2, h3, h4, h5⟩ := h
  have hk : ∀ k, k ≠ N + 1 + 1 → (w.setCell ⟨N + 1 + 1, 0, none⟩ (.int .i64 (j : Int))).heap[k]? = w.heap[k]? := fun k hk => Below.heap_setCell _ _ _ _ hk
  refine ⟨(hk _ (by omega)).trans h1, (hk _ (by omega)).trans h2, ?_, h4.kept fun k h => hk k (by omega), h5.kept fun k h => hk k (by omega)⟩
  simp only [World.setCell, Array.getElem?_modify, if_true, h3, Option.map_some]
  rfl
theorem FM.cell {w : World} {N : Nat} {vP vT : Value} {P T : List Int} {i : Nat} (h : FM w N vP vT P T i) : w.cell? ⟨N, 0, none⟩ = some vP ∧ w.cell? ⟨N + 1, 0, none⟩ = some vT ∧ w.cell? ⟨N + 1 + 1, 0, none⟩ = some (.int .i64 (i : Int)) ∧ w.frozen? ⟨N + 1 + 1, 0, none⟩ = false := by
  obtain ⟨h1, h2, h3, _, _⟩ := h
  refine ⟨by rw [Lib.cell_of_heap h1]; rfl, by rw [Lib.cell_of_heap h2]; rfl, by rw [Lib.cell_of_heap h3]; rfl, Lib.frozen_of_heap h3 0⟩
/-- At which letter of the pattern one is. -/
def iOf (N : Nat) (w : World) : Nat := match w.cell? ⟨N + 1 + 1, 0, none⟩ with
  | some (.int _ z) => z.toNat
  | _ => 0
theorem FM.iOf {w : World} {N : Nat} {vP vT : Value} {P T : List Int} {i : Nat} (h : FM w N vP vT P T i) : U.iOf N w = i := by
  unfold U.iOf
  rw [h.cell.2.2.1]
  simp

def starZ : Option Nat → Int
  | none => -1
  | some s => (s : Int)
theorem seen_slices {w : World} {N : Nat} {A1 A2 : Option Addr} {n1 c1 n2 c2 : Nat} {P T : List Int} {i : Nat} (h : FM w N (.slice A1 n1 c1) (.slice A2 n2 c2) P T i) : n1 = P.length ∧ n2 = T.length := by
  obtain ⟨_, _, _, ⟨A, c, e, _⟩, ⟨A', c', e', _⟩⟩ := h
  injection e with _ e _
  injection e' with _ e' _
  exact ⟨e, e'⟩

set_option maxHeartbeats 8000000 in
set_option maxRecDepth 1000000 in
theorem Fits_calls (a b : ByteArray) (w : World) (ha : a.size ≤ 17592186044416) (hb : b.size ≤ 17592186044416) (hT : Tabs w) :
    Calls Tryd.prog 26 #[.string a, .string b] w fun e w' => e = .returned (.tuple #[.bool (fitB a.data.toList b.data.toList), .int .i64 (askE a.data.toList b.data.toList)]) ∧ Below w.heap.size w w' := by
  have cA := asked_calls a b w ha hb hT
  unfold AskDone at cA
  have hE : askE a.data.toList b.data.toList = 0 → (fnums a.data.toList).length ≤ 64 ∧ (fnums b.data.toList).length ≤ 256 := by
    unfold askE
    split
    · split
      · intro h; cases h
      · omega
    · intro h; cases h
  unfold fitB
  generalize askE a.data.toList b.data.toList = E at *
  generalize fnums a.data.toList = P at *
  generalize fnums b.data.toList = T at *
  obtain ⟨r, hr⟩ : ∃ r, (if E = 0 then mt P T else false) = r := ⟨_, rfl⟩
  rw [hr]
  have CA := Lib.hid cA
  clear cA hT
  go_enter Tryd.func26, Tryd.ntmps26
  go_wp2_with fail
  go_step3
  go_wp2_with fail
  refine (CA.out).mono ?_
  rintro e w1 ⟨vP, vT, rfl, hb1, ⟨⟨A1, n1, c1, rfl⟩, A2, n2, c2, rfl⟩, hR⟩
  have B1 := Lib.hid hb1
  clear hb1 CA
  by_cases h0 : E = 0
  · subst h0
    obtain ⟨hP, hT⟩ := hE rfl
    obtain ⟨r1, r2⟩ := hR rfl
    have R1 := Lib.hid (Row32.of_R r1)
    have R2 := Lib.hid (Row32.of_R r2)
    clear r1 r2 hR hE
    rw [if_pos rfl] at hr
    have HR := Lib.hid hr
    have HP := Lib.hid hP
    have HT := Lib.hid hT
    clear hr hP hT
    go_wp2
    have hF : FM (((w1.alloc (.cells #[Value.slice A1 n1 c1] 79)).alloc (.cells #[Value.slice A2 n2 c2] 79)).alloc (.cells #[Value.int .i64 0] 3)) w1.heap.size (.slice A1 n1 c1) (.slice A2 n2 c2) P T 0 := FM_start w1 _ _ P T R1.out R2.out
    have hB : Below w.heap.size w (((w1.alloc (.cells #[Value.slice A1 n1 c1] 79)).alloc (.cells #[Value.slice A2 n2 c2] 79)).alloc (.cells #[Value.int .i64 0] 3)) := ((B1.out.alloc B1.out.size _).alloc (by have := B1.out.size; simp; omega) _).alloc (by have := B1.out.size; simp; omega) _
    have HF := Lib.hid hF
    have HB := Lib.hid hB
    have HN : Hid (w.heap.size ≤ w1.heap.size) := Lib.hid B1.out.size
    clear hF hB R1 R2 B1
    generalize w1.heap.size = N at *
    go_step3
    go_wp2
    go_loopw [10, 11, 13] (fun star mark at' wr => ∃ (i a' m : Nat) (st : Option Nat), star = .int .i64 (starZ st) ∧ mark = .int .i64 (m : Int) ∧ at' = .int .i64 (a' : Int) ∧ (st = none → m = 0) ∧ FM wr N (.slice A1 n1 c1) (.slice A2 n2 c2) P T i ∧ Gi P T i a' st m ∧ Below w.heap.size w wr)
      (fun _ mark at' wr => (T.length - (RowKit.intOf mark).toNat) * (P.length + T.length + 1) + (P.length - iOf N wr) + (T.length - (RowKit.intOf at').toNat))
    case atStart => exact ⟨0, 0, 0, none, rfl, rfl, rfl, fun _ => rfl, HF.out, G0 P T, HB.out⟩
    case round =>
      clear HF HB
      obtain ⟨i, at', m, st, rfl, rfl, rfl, hm0, hF, hG, hB⟩ := hrel
      have hs := seen_slices hF
      obtain ⟨e1, e2⟩ := hs
      subst e1 e2
      obtain ⟨q1, q2, q3, q4⟩ := hF.cell
      have hi := hG.1
      have ha := hG.2.1
      have hio := hF.iOf
      have zi : i ≤ 64 := by have := HP.out; omega
      have za : at' ≤ 256 := by have := HT.out; omega
      by_cases hat : at' < T.length
      · have d0 : decide ((at' : Int) < (T.length : Int)) = true := by simp; omega
        have cO := one_calls wr N _ _ P T i at' hF hi hat HP.out HT.out
        have CO := Lib.hid cO
        have HF := Lib.hid hF
        have HB := Lib.hid hB
        have HG := Lib.hid hG
        have HM := Lib.hid hm0
        clear cO hF hB hG hm0
        go_wp2_with fail
        refine (CO.out).mono ?_
        rintro e w2' ⟨rfl, q, rfl⟩
        obtain ⟨w2, hw2⟩ : ∃ w2, wr.drewN q = w2 := ⟨_, rfl⟩
        have hF2 : FM w2 N (.slice A1 P.length c1) (.slice A2 T.length c2) P T i := by rw [← hw2]; exact HF.out
        have hB2 : Below w.heap.size w w2 := by rw [← hw2]; exact pw_below_drewN HB.out q
        rw [hw2]
        clear hw2 CO HB
        obtain ⟨p1, p2, p3, p4⟩ := hF2.cell
        clear q1 q2 q3 q4
        have hS : FM (w2.setCell ⟨N + 1 + 1, 0, none⟩ (.int .i64 ((i : Int) + 1))) N (.slice A1 P.length c1) (.slice A2 T.length c2) P T (i + 1) := by
          have := hF2.set (i + 1)
          rwa [Int.natCast_succ] at this
        have HB2 := Lib.hid hB2
        have hNN : w.heap.size ≤ N + 1 + 1 := by have := HN.out; omega
        have HSB := Lib.hid (hB2.setCell (p := ⟨N + 1 + 1, 0, none⟩) hNN (.int .i64 ((i : Int) + 1)))
        have HS := Lib.hid hS
        have HF2 := Lib.hid hF2
        have HI := Lib.hid hS.iOf
        clear hB2 hF2 hS
        by_cases hone : oneB P T i at' = true
        · rw [hone]
          have hk : i < P.length ∧ P.getD i 0 ≠ 42 ∧ okc (P.getD i 0) (T.getD at' 0) = true := by
            unfold oneB at hone
            simp only [Bool.and_eq_true, decide_eq_true_eq] at hone
            exact hone
          have HG1 := Lib.hid (G1 HG.out hk.1 hat hk.2.1 hk.2.2)
          have hik := hk.1
          clear hone hk
          go_wp2
          go_roundw
          case rel => exact ⟨i + 1, at' + 1, m, st, rfl, rfl, by rw [Int.natCast_succ], HM.out, HS.out, HG1.out, HSB.out⟩
          case measure =>
            rw [HI.out, hio]
            simp only [RowKit.intOf, Int.toNat_natCast]
            have e : ((at' : Int) + 1).toNat = at' + 1 := by omega
            rw [e]
            omega
        · rw [Bool.not_eq_true] at hone
          rw [hone]
          by_cases h42 : i < P.length ∧ P.getD i 0 = 42
          · obtain ⟨hik, h42⟩ := h42
            obtain ⟨_, _, _, ⟨A, c, eA, _, hr⟩, _⟩ := HF2.out
            injection eA with eA _ eC
            subst eA eC
            obtain ⟨g, rfl, _, hc⟩ := hr (by omega)
            have x1 := hc i hik
            rw [h42] at x1
            have d3 : decide ((i : Int) < (P.length : Int)) = true := by simp; omega
            have HG2 := Lib.hid (G2 HG.out hik h42)
            have hma : m ≤ at' := by
              cases st with
              | none => rw [HM.out rfl]; omega
              | some s => exact HG.out.2.2.2.1
            clear hc hr hone h42
            go_wp2
            go_roundw
            case rel => exact ⟨i + 1, at', at', some i, rfl, rfl, rfl, fun h => (by cases h), HS.out, HG2.out, HSB.out⟩
            case measure =>
              rw [HI.out, hio]
              simp only [RowKit.intOf, Int.toNat_natCast]
              have := Nat.mul_le_mul_right (P.length + T.length + 1) (show T.length - at' ≤ T.length - m by omega)
              omega
          · have hno : i < P.length → P.getD i 0 ≠ 42 ∧ okc (P.getD i 0) (T.getD at' 0) = false := by
              intro h
              have h1 : P.getD i 0 ≠ 42 := fun e => h42 ⟨h, e⟩
              refine ⟨h1, ?_⟩
              unfold oneB at hone
              rw [decide_eq_true h, decide_eq_true h1, Bool.true_and, Bool.true_and] at hone
              exact hone
            have HNO := Lib.hid hno
            cases st with
            | none =>
              have h4 := G4 HG.out hat hno
              rw [HR.out] at h4
              subst h4
              have hzz : starZ none = -1 := rfl
              rw [hzz]
              clear hzz
              by_cases hik : i < P.length
              · obtain ⟨_, _, _, ⟨A, c, eA, _, hr⟩, _⟩ := HF2.out
                injection eA with eA _ eC
                subst eA eC
                obtain ⟨g, rfl, _, hc⟩ := hr (by omega)
                have x1 := hc i hik
                have d3 : decide ((i : Int) < (P.length : Int)) = true := by simp; omega
                have d4 : (P.getD i 0 == 42) = false := by simp; exact (hno hik).1
                generalize P.getD i 0 = pp at *
                clear hc hr hone h42 hno
                go_wp2
                try rw [Exit.noGoto_ret]
                go_ret2
                exact ⟨rfl, HB2.out⟩
              · have d3 : decide ((i : Int) < (P.length : Int)) = false := by simp; omega
                clear hone h42 hno
                go_wp2
                try rw [Exit.noGoto_ret]
                go_ret2
                exact ⟨rfl, HB2.out⟩
            | some s =>
              have hs1 : s < i := HG.out.2.2.1
              have hma : m ≤ at' := HG.out.2.2.2.1
              have HG3 := Lib.hid (G3 HG.out hat hno)
              have hzz : starZ (some s) = (s : Int) := rfl
              rw [hzz]
              have d5 : decide ((s : Int) < 0) = false := by simp
              have hS3 : FM (w2.setCell ⟨N + 1 + 1, 0, none⟩ (.int .i64 ((s : Int) + 1))) N (.slice A1 P.length c1) (.slice A2 T.length c2) P T (s + 1) := by
                have := HF2.out.set (s + 1)
                rwa [Int.natCast_succ] at this
              have HSB3 := Lib.hid (HB2.out.setCell (p := ⟨N + 1 + 1, 0, none⟩) hNN (.int .i64 ((s : Int) + 1)))
              have HS3 := Lib.hid hS3
              have HI3 := Lib.hid hS3.iOf
              clear hS3
              have hlt : (T.length - (m + 1)) * (P.length + T.length + 1) + (P.length + T.length + 1) ≤ (T.length - m) * (P.length + T.length + 1) := by
                rw [show T.length - m = T.length - (m + 1) + 1 by omega, Nat.add_mul, Nat.one_mul]
                exact Nat.le_refl _
              have HLT := Lib.hid hlt
              clear hlt
              by_cases hik : i < P.length
              · obtain ⟨_, _, _, ⟨A, c, eA, _, hr⟩, _⟩ := HF2.out
                injection eA with eA _ eC
                subst eA eC
                obtain ⟨g, rfl, _, hc⟩ := hr (by omega)
                have x1 := hc i hik
                have d3 : decide ((i : Int) < (P.length : Int)) = true := by simp; omega
                have d4 : (P.getD i 0 == 42) = false := by simp; exact (hno hik).1
                generalize P.getD i 0 = pp at *
                clear hc hr hone h42 hno
                go_wp2
                go_roundw
                case rel => exact ⟨s + 1, m + 1, m + 1, some s, rfl, by rw [Int.natCast_succ], by rw [Int.natCast_succ], fun h => (by cases h), HS3.out, HG3.out, HSB3.out⟩
                case measure =>
                  rw [HI3.out, hio]
                  simp only [RowKit.intOf, Int.toNat_natCast]
                  have e : ((m : Int) + 1).toNat = m + 1 := by omega
                  rw [e]
                  have := HLT.out
                  omega
              · have d3 : decide ((i : Int) < (P.length : Int)) = false := by simp; omega
                clear hone h42 hno
                go_wp2
                go_roundw
                case rel => exact ⟨s + 1, m + 1, m + 1, some s, rfl, by rw [Int.natCast_succ], by rw [Int.natCast_succ], fun h => (by cases h), HS3.out, HG3.out, HSB3.out⟩
                case measure =>
                  rw [HI3.out, hio]
                  simp only [RowKit.intOf, Int.toNat_natCast]
                  have e : ((m : Int) + 1).toNat = m + 1 := by omega
                  rw [e]
                  have := HLT.out
                  omega
      · have d0 : decide ((at' : Int) < (T.length : Int)) = false := by simp; omega
        have h5 := G5 hG (by omega)
        rw [HR.out] at h5
        have H5 := Lib.hid h5.symm
        have HF := Lib.hid hF
        have HB := Lib.hid hB
        clear h5 hF hB hG hm0 za hio
        go_wp2
        go_loopw [61] (fun _ wx => ∃ j : Nat, FM wx N (.slice A1 P.length c1) (.slice A2 T.length c2) P T j ∧ j ≤ P.length ∧ mt (P.drop j) [] = r ∧ Below w.heap.size w wx) (fun _ wx => P.length - iOf N wx)
        case atStart => exact ⟨i, HF.out, hi, H5.out, HB.out⟩
        case round =>
          clear HF HB H5 q1 q2 q3 q4 zi hi ha
          obtain ⟨j, hF, hj, hr, hB⟩ := hrel
          obtain ⟨q1, q2, q3, q4⟩ := hF.cell
          have hio := hF.iOf
          have zj : j ≤ 64 := by have := HP.out; omega
          have HR5 := Lib.hid hr
          by_cases hjl : j < P.length
          · have d3 : decide ((j : Int) < (P.length : Int)) = true := by simp; omega
            have hF' := hF
            obtain ⟨_, _, _, ⟨A, c, eA, _, hr⟩, _⟩ := hF
            injection eA with eA _ eC
            subst eA eC
            obtain ⟨g, rfl, _, hc⟩ := hr (by omega)
            have x1 := hc j hjl
            by_cases h42 : P.getD j 0 = 42
            · have HN6 := Lib.hid ((G6 hjl h42).symm.trans HR5.out)
              rw [h42] at x1
              have hS : FM (wr.setCell ⟨N + 1 + 1, 0, none⟩ (.int .i64 ((j : Int) + 1))) N (.slice (some ⟨g, 0, none⟩) P.length c1) (.slice A2 T.length c2) P T (j + 1) := by
                have := hF'.set (j + 1)
                rwa [Int.natCast_succ] at this
              have HSB := Lib.hid (hB.setCell (p := ⟨N + 1 + 1, 0, none⟩) (show w.heap.size ≤ N + 1 + 1 by have := HN.out; omega) (.int .i64 ((j : Int) + 1)))
              have HS := Lib.hid hS
              have HI := Lib.hid hS.iOf
              clear hc hr h42 hS hB hF'
              go_wp2
              go_roundw
              case rel => exact ⟨j + 1, HS.out, by omega, HN6.out, HSB.out⟩
              case measure =>
                rw [HI.out, hio]
                omega
            · have h7 := G7 hj (fun _ => h42)
              rw [HR5.out] at h7
              have H7 := Lib.hid h7
              have d4 : (P.getD j 0 == 42) = false := by simp; exact h42
              have HB := Lib.hid hB
              have hne : ¬ j = P.length := by omega
              have d6 : ((j : Int) == (P.length : Int)) = false := by simp; omega
              generalize P.getD j 0 = pp at *
              clear hc hr h42 h7 hB
              go_wp2
              try rw [Exit.noGoto_ret]
              go_ret2
              exact ⟨by rw [H7.out, decide_eq_false hne]; rfl, HB.out⟩
          · have h7 := G7 hj (fun h => absurd h hjl)
            rw [HR5.out] at h7
            have H7 := Lib.hid h7
            have d3 : decide ((j : Int) < (P.length : Int)) = false := by simp; omega
            have he : j = P.length := by omega
            have d6 : ((j : Int) == (P.length : Int)) = true := by simp; omega
            have HB := Lib.hid hB
            clear h7 hB hr hF
            go_wp2
            try rw [Exit.noGoto_ret]
            go_ret2
            exact ⟨by rw [H7.out, decide_eq_true he]; rfl, HB.out⟩
  · rw [if_neg h0] at hr
    subst hr
    have d0 : (E == 0) = false := by simp [h0]
    clear hR hE
    go_wp2
    try rw [Exit.noGoto_ret]
    go_ret2
    exact ⟨rfl, (B1.out.alloc B1.out.size _).alloc (by have := B1.out.size; simp; omega) _⟩
end Go.Proofs.YtkdjkndnilmjmaaDoor.U
