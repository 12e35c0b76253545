/- The texts Uspec, Uunits, Ubuild, Ufold, Uorder, Ualike, Rfirst, Pspec, Pname, Pparse, Pbegins, Rpath, Pbase, Bulk, Pjoin, Rjoin, OpenS, one behind the other. -/
import Derived.Lib.ValidLaws
import Derived.Lib.RuneBytes
import Derived.Test.YtlmadihedejaaaaDoorShelf
import Derived.WalkKit
import Derived.Lib.OthersKept
import Derived.Lib.Hide
import Derived.Lib.FrozenHead2
import Derived.Lib.Builder
import Derived.Shelf.Strings.BuilderK
import Derived.Test.YtlmadihedejaaaaDoorWWords
import Derived.Laws.AppendOwn
import Derived.Deep.QuietTactic
import Derived.BigQuiet
import Derived.Test.YtlmadihedejaaaaDoorPRx34
import Derived.Lib.Split
import Derived.Lib.SplitLaws
import Derived.Lib.Join
import Derived.Lib.IndexBytes
import Derived.Test.YtlmadihedejaaaaDoorPRx55
import Derived.Test.YtlmadihedejaaaaDoorPRx57
import Derived.Test.YtlmadihedejaaaaDoorPRx58
import Derived.Test.YtlmadihedejaaaaDoorPRx66
import Derived.Test.YtlmadihedejaaaaDoorPRx38
import Derived.Test.YtlmadihedejaaaaDoorRows
import Derived.Shelf.Strings.OnBuilder
import Derived.Deep.RegionHeld3
import Derived.OwnWalk
import Derived.ProofKit
import Derived.OpenShut
import Derived.SliceStrings
import Derived.ChangeOld
import Derived.Below
import Derived.Carry
/- Texts as lists of bytes: letters, their bytes, folding; plain Lean over the library's decoder. No program, no condition. -/
set_option linter.unusedVariables false
namespace Go.Proofs.YtlmadihedejaaaaDoor.U
open Go.Lib

/-- At the head of l: a byte that belongs to no letter. -/
def Bad (l : List UInt8) : Prop := (decodeL l).1 = 65533 ∧ (decodeL l).2 = 1
instance (l : List UInt8) : Decidable (Bad l) := inferInstanceAs (Decidable (_ ∧ _))

/-- The letter at the head; a byte that belongs to none is one above all. -/
def letter1 (l : List UInt8) : Nat := if Bad l then 1114112 + (l.headD 0).toNat else (decodeL l).1
theorem letter1_good {l : List UInt8} {r wd : Nat} (h : decodeL l = (r, wd)) (hb : ¬ (r = 65533 ∧ wd = 1)) : letter1 l = r := by
  have : ¬ Bad l := by unfold Bad; rw [h]; exact hb
  unfold letter1
  rw [if_neg this, h]
theorem letter1_bad {l : List UInt8} (h : decodeL l = (65533, 1)) : letter1 l = 1114112 + (l.headD 0).toNat := by
  have : Bad l := by unfold Bad; rw [h]; exact ⟨rfl, rfl⟩
  unfold letter1
  rw [if_pos this]
def lettersN : Nat → List UInt8 → List Nat
  | 0, _ => []
  | n + 1, l => if l = [] then [] else letter1 l :: lettersN n (l.drop (decodeL l).2)
def letters (l : List UInt8) : List Nat := lettersN l.length l

theorem lettersN_nil : ∀ n, lettersN n [] = []
  | 0 => rfl
  | n + 1 => by simp [lettersN]
theorem lettersN_fuel : ∀ (n m : Nat) (l : List UInt8), l.length ≤ n → l.length ≤ m → lettersN n l = lettersN m l
  | 0, m, l, hn, _ => by
    have : l = [] := List.eq_nil_of_length_eq_zero (by omega)
    subst this
    rw [lettersN_nil, lettersN_nil]
  | n + 1, 0, l, _, hm => by
    have : l = [] := List.eq_nil_of_length_eq_zero (by omega)
    subst this
    rw [lettersN_nil, lettersN_nil]
  | n + 1, m + 1, l, hn, hm => by
    unfold lettersN
    by_cases hne : l = []
    · simp [hne]
    · have hw := decodeL_width l
      have hl : 0 < l.length := List.length_pos_iff.2 hne
      rw [if_neg hne, if_neg hne, lettersN_fuel n m (l.drop (decodeL l).2) (by rw [List.length_drop]; omega) (by rw [List.length_drop]; omega)]
theorem letters_nil : letters [] = [] := rfl
theorem letters_step (l : List UInt8) (hne : l ≠ []) : letters l = letter1 l :: letters (l.drop (decodeL l).2) := by
  have hl : 0 < l.length := List.length_pos_iff.2 hne
  have hw := decodeL_width l
  obtain ⟨n, hn⟩ : ∃ n, l.length = n + 1 := ⟨l.length - 1, by omega⟩
  unfold letters
  rw [hn]
  show (if l = [] then [] else _) = _
  rw [if_neg hne, lettersN_fuel n (l.drop (decodeL l).2).length _ (by rw [List.length_drop]; omega) (Nat.le_refl _)]

/-- A rule of induction: what is left behind a letter is shorter. -/
theorem by_letters {p : List UInt8 → Prop} (h0 : p []) (h1 : ∀ l, l ≠ [] → p (l.drop (decodeL l).2) → p l) : ∀ l, p l := by
  have go : ∀ n (l : List UInt8), l.length ≤ n → p l := by
    intro n
    induction n with
    | zero =>
      intro l hl
      have : l = [] := List.eq_nil_of_length_eq_zero (by omega)
      subst this
      exact h0
    | succ n ih =>
      intro l hl
      by_cases hne : l = []
      · subst hne; exact h0
      · have hw := decodeL_width l
        have hl0 : 0 < l.length := List.length_pos_iff.2 hne
        exact h1 l hne (ih _ (by rw [List.length_drop]; omega))
  exact fun l => go l.length l (Nat.le_refl _)

/-- The bytes of a letter, by its number; of one above all its own byte. -/
def enc (n : Nat) : List UInt8 :=
  if n < 128 then [UInt8.ofNat n]
  else if n < 2048 then [UInt8.ofNat (192 + n / 64), UInt8.ofNat (128 + n % 64)]
  else if n < 65536 then [UInt8.ofNat (224 + n / 4096), UInt8.ofNat (128 + n / 64 % 64), UInt8.ofNat (128 + n % 64)]
  else if n < 1114112 then [UInt8.ofNat (240 + n / 262144), UInt8.ofNat (128 + n / 4096 % 64), UInt8.ofNat (128 + n / 64 % 64), UInt8.ofNat (128 + n % 64)]
  else [UInt8.ofNat (n - 1114112)]

/-- A letter's number. -/
def IsLetter (n : Nat) : Prop := n < 55296 ∨ (57344 ≤ n ∧ n < 1114112)
instance (n : Nat) : Decidable (IsLetter n) := inferInstanceAs (Decidable (_ ∨ _))

theorem byte_eq {a : UInt8} {n : Nat} (h : a.toNat = n) : UInt8.ofNat n = a := by
  subst h
  simp

/-- What may stand at the head. -/
theorem shape (l : List UInt8) (hne : l ≠ []) :
    (∃ a t, l = a :: t ∧ a.toNat < 128 ∧ decodeL l = (a.toNat, 1)) ∨
    (∃ a b t, l = a :: b :: t ∧ a.toNat / 32 = 6 ∧ b.toNat / 64 = 2 ∧ 128 ≤ a.toNat % 32 * 64 + b.toNat % 64 ∧ decodeL l = (a.toNat % 32 * 64 + b.toNat % 64, 2)) ∨
    (∃ a b c t, l = a :: b :: c :: t ∧ a.toNat / 16 = 14 ∧ b.toNat / 64 = 2 ∧ c.toNat / 64 = 2 ∧ 2048 ≤ a.toNat % 16 * 4096 + b.toNat % 64 * 64 + c.toNat % 64 ∧
      (a.toNat % 16 * 4096 + b.toNat % 64 * 64 + c.toNat % 64 < 55296 ∨ 57344 ≤ a.toNat % 16 * 4096 + b.toNat % 64 * 64 + c.toNat % 64) ∧
      decodeL l = (a.toNat % 16 * 4096 + b.toNat % 64 * 64 + c.toNat % 64, 3)) ∨
    (∃ a b c d t, l = a :: b :: c :: d :: t ∧ a.toNat / 8 = 30 ∧ b.toNat / 64 = 2 ∧ c.toNat / 64 = 2 ∧ d.toNat / 64 = 2 ∧
      65536 ≤ a.toNat % 8 * 262144 + b.toNat % 64 * 4096 + c.toNat % 64 * 64 + d.toNat % 64 ∧ a.toNat % 8 * 262144 + b.toNat % 64 * 4096 + c.toNat % 64 * 64 + d.toNat % 64 ≤ 1114111 ∧
      decodeL l = (a.toNat % 8 * 262144 + b.toNat % 64 * 4096 + c.toNat % 64 * 64 + d.toNat % 64, 4)) ∨
    (∃ a t, l = a :: t ∧ 128 ≤ a.toNat ∧ decodeL l = (65533, 1)) := by
  cases l with
  | nil => exact absurd rfl hne
  | cons a t =>
    by_cases ha : a.toNat < 128
    · exact .inl ⟨a, t, rfl, ha, decodeL_ascii a t ha⟩
    · have hN := decodeL_N (a :: t)
      rcases decodeN_shape (a :: t).length ((a :: t).getD 0 0).toNat ((a :: t).getD 1 0).toNat ((a :: t).getD 2 0).toNat ((a :: t).getD 3 0).toNat with ⟨c, e⟩ | ⟨c1, c2, c3, cv, e⟩ | ⟨c1, c2, c3, c4, cv, cs, e⟩ | ⟨c1, c2, c3, c4, c5, cv, cw, e⟩ | e
      · exact absurd c ha
      · rcases t with _ | ⟨b, t⟩
        · exact absurd c2 (by simp only [List.length_cons, List.length_nil]; omega)
        · exact .inr (.inl ⟨a, b, t, rfl, c1, c3, cv, hN.trans e⟩)
      · rcases t with _ | ⟨b, _ | ⟨c, t⟩⟩
        · exact absurd c2 (by simp only [List.length_cons, List.length_nil]; omega)
        · exact absurd c2 (by simp only [List.length_cons, List.length_nil]; omega)
        · exact .inr (.inr (.inl ⟨a, b, c, t, rfl, c1, c3, c4, cv, cs, hN.trans e⟩))
      · rcases t with _ | ⟨b, _ | ⟨c, _ | ⟨d, t⟩⟩⟩
        · exact absurd c2 (by simp only [List.length_cons, List.length_nil]; omega)
        · exact absurd c2 (by simp only [List.length_cons, List.length_nil]; omega)
        · exact absurd c2 (by simp only [List.length_cons, List.length_nil]; omega)
        · exact .inr (.inr (.inr (.inl ⟨a, b, c, d, t, rfl, c1, c3, c4, c5, cv, cw, hN.trans e⟩)))
      · exact .inr (.inr (.inr (.inr ⟨a, t, rfl, by omega, hN.trans e⟩)))

/-- The head's bytes are its letter's. -/
theorem head_enc (l : List UInt8) (hne : l ≠ []) : l = enc (letter1 l) ++ l.drop (decodeL l).2 := by
  rcases shape l hne with ⟨a, t, rfl, ha, e⟩ | ⟨a, b, t, rfl, c1, c3, cv, e⟩ | ⟨a, b, c, t, rfl, c1, c3, c4, cv, cs, e⟩ | ⟨a, b, c, d, t, rfl, c1, c3, c4, c5, cv, cw, e⟩ | ⟨a, t, rfl, ha, e⟩
  · have hb : ¬ Bad (a :: t) := by unfold Bad; rw [e]; simp; omega
    unfold letter1 enc
    rw [if_neg hb, e]
    dsimp only
    rw [if_pos ha, byte_eq rfl]
    rfl
  · have hb : ¬ Bad (a :: b :: t) := by unfold Bad; rw [e]; simp
    have h1 := a.toNat_lt
    have h2 := b.toNat_lt
    unfold letter1 enc
    rw [if_neg hb, e]
    dsimp only
    rw [if_neg (by omega), if_pos (by omega), byte_eq (a := a) (by omega), byte_eq (a := b) (by omega)]
    rfl
  · have hb : ¬ Bad (a :: b :: c :: t) := by unfold Bad; rw [e]; simp
    have h1 := a.toNat_lt
    have h2 := b.toNat_lt
    have h3 := c.toNat_lt
    unfold letter1 enc
    rw [if_neg hb, e]
    dsimp only
    rw [if_neg (by omega), if_neg (by omega), if_pos (by omega), byte_eq (a := a) (by omega), byte_eq (a := b) (by omega), byte_eq (a := c) (by omega)]
    rfl
  · have hb : ¬ Bad (a :: b :: c :: d :: t) := by unfold Bad; rw [e]; simp
    have h1 := a.toNat_lt
    have h2 := b.toNat_lt
    have h3 := c.toNat_lt
    have h4 := d.toNat_lt
    unfold letter1 enc
    rw [if_neg hb, e]
    dsimp only
    rw [if_neg (by omega), if_neg (by omega), if_neg (by omega), if_pos (by omega), byte_eq (a := a) (by omega), byte_eq (a := b) (by omega), byte_eq (a := c) (by omega), byte_eq (a := d) (by omega)]
    rfl
  · have hb : Bad (a :: t) := by unfold Bad; rw [e]; simp
    have h1 : letter1 (a :: t) = 1114112 + a.toNat := by unfold letter1; rw [if_pos hb]; rfl
    rw [h1, e]
    unfold enc
    rw [if_neg (by omega), if_neg (by omega), if_neg (by omega), if_neg (by omega), byte_eq (a := a) (by omega)]
    rfl

/-- A text is its letters' bytes. -/
theorem enc_letters : ∀ l : List UInt8, (letters l).flatMap enc = l := by
  refine by_letters rfl ?_
  intro l hne ih
  rw [letters_step l hne, List.flatMap_cons, ih]
  exact (head_enc l hne).symm
theorem letters_inj {a b : List UInt8} (h : letters a = letters b) : a = b := by
  rw [← enc_letters a, ← enc_letters b, h]

/-- A letter's bytes are read as it, whatever follows. -/
theorem decode_enc (n : Nat) (hn : IsLetter n) (t : List UInt8) : decodeL (enc n ++ t) = (n, (enc n).length) ∧ ¬ Bad (enc n ++ t) := by
  have key : decodeL (enc n ++ t) = (n, (enc n).length) := by
    unfold IsLetter at hn
    rw [decodeL_N]
    unfold enc
    by_cases h1 : n < 128
    · simp only [if_pos h1]
      simp [decodeN, Nat.mod_eq_of_lt (show n < 256 by omega)]
      omega
    · by_cases h2 : n < 2048
      · simp only [if_neg h1, if_pos h2]
        have e1 : (192 + n / 64) % 256 = 192 + n / 64 := by omega
        have e2 : (128 + n % 64) % 256 = 128 + n % 64 := by omega
        simp [decodeN, e1, e2]
        rw [if_neg (by omega), if_pos (by omega), if_pos (by omega)]
        congr 1
        omega
      · by_cases h3 : n < 65536
        · simp only [if_neg h1, if_neg h2, if_pos h3]
          have e1 : (224 + n / 4096) % 256 = 224 + n / 4096 := by omega
          have e2 : (128 + n / 64 % 64) % 256 = 128 + n / 64 % 64 := by omega
          have e3 : (128 + n % 64) % 256 = 128 + n % 64 := by omega
          simp [decodeN, e1, e2, e3]
          rw [if_neg (by omega), if_neg (by omega), if_pos (by omega), if_pos (by omega)]
          congr 1
          omega
        · have h4 : n < 1114112 := by omega
          simp only [if_neg h1, if_neg h2, if_neg h3, if_pos h4]
          have e1 : (240 + n / 262144) % 256 = 240 + n / 262144 := by omega
          have e2 : (128 + n / 4096 % 64) % 256 = 128 + n / 4096 % 64 := by omega
          have e3 : (128 + n / 64 % 64) % 256 = 128 + n / 64 % 64 := by omega
          have e4 : (128 + n % 64) % 256 = 128 + n % 64 := by omega
          simp [decodeN, e1, e2, e3, e4]
          rw [if_neg (by omega), if_neg (by omega), if_neg (by omega), if_pos (by omega), if_pos (by omega)]
          congr 1
          omega
  refine ⟨key, ?_⟩
  unfold Bad
  rw [key]
  rintro ⟨h1, h2⟩
  dsimp only at h1 h2
  subst h1
  simp [enc] at h2

theorem enc_ne (n : Nat) : enc n ≠ [] := by
  unfold enc
  repeat' split
  all_goals simp

/-- A letter that is read is one. -/
theorem letter1_is (l : List UInt8) (hne : l ≠ []) (hb : ¬ Bad l) : IsLetter (letter1 l) := by
  unfold letter1
  rw [if_neg hb]
  unfold IsLetter
  rcases shape l hne with ⟨a, t, rfl, ha, e⟩ | ⟨a, b, t, rfl, c1, c3, cv, e⟩ | ⟨a, b, c, t, rfl, c1, c3, c4, cv, cs, e⟩ | ⟨a, b, c, d, t, rfl, c1, c3, c4, c5, cv, cw, e⟩ | ⟨a, t, rfl, ha, e⟩
  · rw [e]; dsimp only; omega
  · rw [e]; dsimp only; omega
  · have h1 := a.toNat_lt
    rw [e]; dsimp only; omega
  · rw [e]; dsimp only; omega
  · exact absurd (by unfold Bad; rw [e]; simp) hb

/-- Is it a text? -/
def valid (l : List UInt8) : Bool := validD l
theorem valid_step (l : List UInt8) (hne : l ≠ []) : valid l = if Bad l then false else valid (l.drop (decodeL l).2) := validD_step l hne
theorem valid_iff : ∀ l : List UInt8, valid l = true ↔ ∀ n ∈ letters l, IsLetter n := by
  refine by_letters ⟨fun _ n h => by simp [letters_nil] at h, fun _ => rfl⟩ ?_
  intro l hne ih
  rw [valid_step l hne, letters_step l hne]
  by_cases hb : Bad l
  · rw [if_pos hb]
    refine ⟨fun h => (by cases h), fun h => ?_⟩
    have := h (letter1 l) List.mem_cons_self
    unfold letter1 IsLetter at this
    rw [if_pos hb] at this
    omega
  · rw [if_neg hb, ih]
    refine ⟨fun h n hn => ?_, fun h n hn => h n (List.mem_cons_of_mem _ hn)⟩
    rcases List.mem_cons.1 hn with rfl | hn
    · exact letter1_is l hne hb
    · exact h n hn

/-- Letters put together. -/
theorem letters_enc : ∀ (ns : List Nat) (t : List UInt8), (∀ n ∈ ns, IsLetter n) → letters (ns.flatMap enc ++ t) = ns ++ letters t
  | [], t, _ => rfl
  | n :: ns, t, h => by
    obtain ⟨h1, h2⟩ := decode_enc n (h n List.mem_cons_self) (ns.flatMap enc ++ t)
    rw [List.flatMap_cons, List.append_assoc, letters_step _ (by simp [enc_ne])]
    unfold letter1
    rw [if_neg h2, h1]
    dsimp only
    rw [List.drop_left, letters_enc ns t (fun m hm => h m (List.mem_cons_of_mem _ hm)), List.cons_append]
theorem letters_of_enc (ns : List Nat) (h : ∀ n ∈ ns, IsLetter n) : letters (ns.flatMap enc) = ns := by
  have := letters_enc ns [] h
  rwa [List.append_nil, letters_nil, List.append_nil] at this
theorem letters_append (s t : List UInt8) (hs : valid s = true) : letters (s ++ t) = letters s ++ letters t := by
  have := letters_enc (letters s) t ((valid_iff s).1 hs)
  rwa [enc_letters s] at this
theorem valid_append (s t : List UInt8) (hs : valid s = true) : valid (s ++ t) = valid t := by
  rw [Bool.eq_iff_iff, valid_iff, valid_iff, letters_append s t hs]
  exact ⟨fun h n hn => h n (List.mem_append_right _ hn), fun h n hn => (List.mem_append.1 hn).elim (fun h1 => (valid_iff s).1 hs n h1) (h n)⟩

/-- A letter, folded; a byte, folded. -/
def foldN (n : Nat) : Nat := if 65 ≤ n ∧ n ≤ 90 then n + 32 else n
def foldB (b : UInt8) : UInt8 := if 65 ≤ b.toNat ∧ b.toNat ≤ 90 then b + 32 else b
def fold (l : List UInt8) : List UInt8 := l.map foldB

theorem foldB_nat (b : UInt8) : (foldB b).toNat = foldN b.toNat := by
  have := b.toNat_lt
  unfold foldB foldN
  split
  · rw [UInt8.toNat_add]
    show (b.toNat + 32) % 256 = _
    omega
  · rfl
theorem foldB_high (b : UInt8) (h : 91 ≤ b.toNat) : foldB b = b := by unfold foldB; rw [if_neg (by omega)]
theorem foldN_high (n : Nat) (h : 91 ≤ n) : foldN n = n := by unfold foldN; rw [if_neg (by omega)]
theorem foldN_is {n : Nat} (h : IsLetter n) : IsLetter (foldN n) := by unfold IsLetter foldN at *; split <;> omega
theorem foldN_low (n : Nat) (h : n < 128) : foldN n < 128 := by unfold foldN; split <;> omega
theorem foldN_foldN (n : Nat) : foldN (foldN n) = foldN n := by
  unfold foldN
  by_cases h : 65 ≤ n ∧ n ≤ 90
  · rw [if_pos h, if_neg (by omega)]
  · rw [if_neg h, if_neg h]
theorem foldB_foldB (b : UInt8) : foldB (foldB b) = foldB b := by
  apply UInt8.toNat_inj.1
  rw [foldB_nat, foldB_nat, foldN_foldN]
theorem fold_fold (l : List UInt8) : fold (fold l) = fold l := by
  unfold fold
  rw [List.map_map]
  exact List.map_congr_left (fun b _ => foldB_foldB b)
theorem fold_length (l : List UInt8) : (fold l).length = l.length := by simp [fold]
theorem fold_append (s t : List UInt8) : fold (s ++ t) = fold s ++ fold t := by simp [fold]

/-- Folding turns no bytes of letters but those of A to Z. -/
theorem enc_fold (n : Nat) : enc (foldN n) = fold (enc n) ∨ 1114112 ≤ n := by
  by_cases h : 1114112 ≤ n
  · exact .inr h
  · left
    by_cases h1 : n < 128
    · have h2 := foldN_low n h1
      unfold enc
      rw [if_pos h1, if_pos h2]
      simp only [fold, List.map_cons, List.map_nil]
      congr 1
      apply UInt8.toNat_inj.1
      rw [foldB_nat]
      simp
      rw [Nat.mod_eq_of_lt (by omega), Nat.mod_eq_of_lt (by omega)]
    · rw [foldN_high n (by omega)]
      unfold enc
      repeat' split
      all_goals simp only [fold, List.map_cons, List.map_nil]
      all_goals (repeat (rw [foldB_high]))
      all_goals (try (simp only [UInt8.toNat_ofNat']; omega))

theorem decodeN_low (n b0 b1 b2 b3 c1 c2 c3 : Nat) (h1 : b1 / 64 = 2 ∨ c1 / 64 = 2 → b1 = c1) (h2 : b2 / 64 = 2 ∨ c2 / 64 = 2 → b2 = c2) (h3 : b3 / 64 = 2 ∨ c3 / 64 = 2 → b3 = c3) (h0 : 128 ≤ b0) :
    decodeN n b0 b1 b2 b3 = decodeN n b0 c1 c2 c3 := by
  by_cases k1 : b1 / 64 = 2 ∨ c1 / 64 = 2
  · obtain rfl := h1 k1
    by_cases k2 : b2 / 64 = 2 ∨ c2 / 64 = 2
    · obtain rfl := h2 k2
      by_cases k3 : b3 / 64 = 2 ∨ c3 / 64 = 2
      · obtain rfl := h3 k3
        rfl
      · simp [decodeN, show ¬ b3 / 64 = 2 from fun h => k3 (.inl h), show ¬ c3 / 64 = 2 from fun h => k3 (.inr h)]
    · simp [decodeN, show ¬ b2 / 64 = 2 from fun h => k2 (.inl h), show ¬ c2 / 64 = 2 from fun h => k2 (.inr h)]
  · simp [decodeN, show ¬ b1 / 64 = 2 from fun h => k1 (.inl h), show ¬ c1 / 64 = 2 from fun h => k1 (.inr h)]

theorem fold_getD (l : List UInt8) (i : Nat) : (fold l).getD i 0 = foldB (l.getD i 0) := by
  unfold fold
  by_cases h : i < l.length
  · simp [List.getD, h]
  · simp [List.getD, List.getElem?_eq_none (Nat.not_lt.1 h), foldB]
theorem foldN_cont (n : Nat) : n / 64 = 2 ∨ foldN n / 64 = 2 → n = foldN n := by unfold foldN; split <;> omega

/-- A folded text is read at the same places: its letter there is the folded one. -/
theorem decode_fold (l : List UInt8) (hne : l ≠ []) : decodeL (fold l) = (foldN (decodeL l).1, (decodeL l).2) ∧ (Bad (fold l) ↔ Bad l) := by
  have key : decodeL (fold l) = (foldN (decodeL l).1, (decodeL l).2) := by
    cases l with
    | nil => exact absurd rfl hne
    | cons a t =>
      by_cases ha : a.toNat < 128
      · rw [decodeL_ascii a t ha]
        show decodeL (foldB a :: fold t) = _
        rw [decodeL_ascii (foldB a) _ (by rw [foldB_nat]; exact foldN_low _ ha), foldB_nat]
      · have e : decodeL (fold (a :: t)) = decodeL (a :: t) := by
          rw [decodeL_N, decodeL_N, fold_length, fold_getD, fold_getD, fold_getD, fold_getD, foldB_nat, foldB_nat, foldB_nat, foldB_nat]
          rw [show foldN ((a :: t).getD 0 0).toNat = ((a :: t).getD 0 0).toNat from foldN_high _ (by show 91 ≤ a.toNat; omega)]
          exact (decodeN_low _ _ _ _ _ _ _ _ (foldN_cont _) (foldN_cont _) (foldN_cont _) (by show 128 ≤ a.toNat; omega)).symm
        rw [e]
        rcases shape (a :: t) hne with ⟨a', t', h, ha', e⟩ | ⟨a', b, t', h, c1, c3, cv, e⟩ | ⟨a', b, c, t', h, c1, c3, c4, cv, cs, e⟩ | ⟨a', b, c, d, t', h, c1, c3, c4, c5, cv, cw, e⟩ | ⟨a', t', h, ha', e⟩
        · injection h with h _; subst h; omega
        all_goals (rw [e]; dsimp only; rw [foldN_high _ (by omega)])
  refine ⟨key, ?_⟩
  unfold Bad
  rw [key]
  dsimp only
  unfold foldN
  split
  · constructor <;> rintro ⟨h1, _⟩ <;> omega
  · exact Iff.rfl
theorem letter1_fold (l : List UInt8) (hne : l ≠ []) : letter1 (fold l) = foldN (letter1 l) := by
  obtain ⟨h1, h2⟩ := decode_fold l hne
  unfold letter1
  by_cases hb : Bad l
  · rw [if_pos (h2.2 hb), if_pos hb, foldN_high _ (by omega)]
    rcases shape l hne with ⟨a, t, rfl, ha, e⟩ | ⟨a, b, t, rfl, c1, c3, cv, e⟩ | ⟨a, b, c, t, rfl, c1, c3, c4, cv, cs, e⟩ | ⟨a, b, c, d, t, rfl, c1, c3, c4, c5, cv, cw, e⟩ | ⟨a, t, rfl, ha, e⟩
    · unfold Bad at hb; rw [e] at hb; simp at hb; omega
    · unfold Bad at hb; rw [e] at hb; simp at hb
    · unfold Bad at hb; rw [e] at hb; simp at hb
    · unfold Bad at hb; rw [e] at hb; simp at hb
    · simp only [fold, List.map_cons, List.headD_cons]
      rw [foldB_high a (by omega)]
  · rw [if_neg (fun h => hb (h2.1 h)), if_neg hb, h1]
theorem letters_fold : ∀ l : List UInt8, letters (fold l) = (letters l).map foldN := by
  refine by_letters rfl ?_
  intro l hne ih
  have hf : fold l ≠ [] := by unfold fold; simpa using hne
  obtain ⟨h1, _⟩ := decode_fold l hne
  rw [letters_step l hne, letters_step _ hf, letter1_fold l hne, h1, List.map_cons]
  dsimp only
  rw [← ih]
  congr 2
  unfold fold
  rw [List.map_drop]
theorem valid_fold (l : List UInt8) : valid (fold l) = valid l := by
  rw [Bool.eq_iff_iff, valid_iff, valid_iff, letters_fold]
  constructor
  · intro h n hn
    have := h (foldN n) (List.mem_map.2 ⟨n, hn, rfl⟩)
    unfold IsLetter foldN at *
    split at this <;> omega
  · intro h n hn
    obtain ⟨m, hm, rfl⟩ := List.mem_map.1 hn
    exact foldN_is (h m hm)
end Go.Proofs.YtlmadihedejaaaaDoor.U
/- utf.Units: how many units a text has, or its error; for texts of at most 2^45 bytes, the library's two tables lying as they are laid. -/
set_option linter.unusedVariables false
namespace Go.Proofs.YtlmadihedejaaaaDoor.U
open Go.RowKit Go.Proofs Go.Lib

/-- The library's two tables lie as its text lays them. -/
def Tabs (w : World) : Prop := Lib.Utf8Tabs 0 1 w
theorem Tabs.below {w w' : World} (h : Tabs w) (hb : Below w.heap.size w w') : Tabs w' := Utf8Tabs_below h hb

/-- The units of letters. -/
def unit (n : Nat) : List Nat := if n < 65536 then [n] else [55296 + (n - 65536) / 1024, 56320 + (n - 65536) % 1024]
def units (l : List UInt8) : List Nat := (letters l).flatMap unit
def errOf (l : List UInt8) : Int := if valid l = true then 0 else 5
def countOf (l : List UInt8) : Int := if valid l = true then ((units l).length : Int) else 0

theorem valid_calls (s : ByteArray) (w : World) (hs : s.size ≤ 9223372036854775807) (hT : Tabs w) :
    Calls Tryd.prog 40 #[.string s] w fun e w' => e = .returned (.bool (valid s.data.toList)) ∧ Below w.heap.size w w' :=
  Any.utf8_ValidString Tryd.laysValid s w hs hT

/-- What 'next' tells at a place: a letter and its width, by names of their own. -/
theorem next_facts (s : ByteArray) (pos : Nat) (h : pos < s.size) : ∃ r wd : Nat, Utf8.decode s pos = (r, wd) ∧ decodeL (s.data.toList.drop pos) = (r, wd) ∧ 1 ≤ wd ∧ r ≤ 1114111 ∧ s.data.toList.drop pos ≠ [] := by
  refine ⟨(Utf8.decode s pos).1, (Utf8.decode s pos).2, rfl, decodeL_drop s pos, Lib.width_pos s pos, Lib.rune_le s pos, ?_⟩
  intro h0
  have := congrArg List.length h0
  rw [List.length_drop, ← size_eq] at this
  simp at this
  omega
theorem next_run {P : Program} {s : ByteArray} {pos r wd : Nat} (hde : Utf8.decode s pos = (r, wd)) (hp : pos < s.size) (wr : World) (k : Nat) (hit : wr.heap[k]? = some (.stringIter s pos)) (ty : TypeId) :
    (Instr.next (.pointer (some ⟨k, 0, none⟩)) true ty).run P wr = .ok (.tuple #[.bool true, .int .i64 pos, .int .i32 r]) (wr.iterAt k s (pos + wd)) := by
  rw [Lib.run_next_any_at wr k s pos ty hit hp, hde]
theorem units_step {s : ByteArray} {pos r wd : Nat} (hd : decodeL (s.data.toList.drop pos) = (r, wd)) (hne : s.data.toList.drop pos ≠ []) (hv : valid (s.data.toList.drop pos) = true) :
    units (s.data.toList.drop pos) = unit r ++ units (s.data.toList.drop (pos + wd)) ∧ valid (s.data.toList.drop (pos + wd)) = true ∧
      letters (s.data.toList.drop pos) = r :: letters (s.data.toList.drop (pos + wd)) := by
  have hb : ¬ Bad (s.data.toList.drop pos) := by
    intro hb
    rw [valid_step _ hne, if_pos hb] at hv
    cases hv
  have hl : letters (s.data.toList.drop pos) = r :: letters (s.data.toList.drop (pos + wd)) := by
    rw [letters_step _ hne]
    unfold letter1
    rw [if_neg hb, hd, List.drop_drop]
  refine ⟨?_, ?_, hl⟩
  · unfold units
    rw [hl]
    rfl
  · rw [valid_step _ hne, if_neg hb, hd, List.drop_drop] at hv
    exact hv
theorem letters_len (l : List UInt8) : (letters l).length ≤ l.length := by
  revert l
  refine by_letters (by simp [letters_nil]) ?_
  intro l hne ih
  have hw := decodeL_width l
  have hl0 : 0 < l.length := List.length_pos_iff.2 hne
  rw [letters_step l hne, List.length_cons]
  rw [List.length_drop] at ih
  omega
theorem unit_len (n : Nat) : 1 ≤ (unit n).length ∧ (unit n).length ≤ 2 := by unfold unit; split <;> simp
theorem flat_len (ns : List Nat) : (ns.flatMap unit).length ≤ 2 * ns.length := by
  induction ns with
  | nil => simp
  | cons n ns ih =>
    have := unit_len n
    simp only [List.flatMap_cons, List.length_append, List.length_cons]
    omega
theorem units_len (l : List UInt8) : (units l).length ≤ 2 * l.length := by
  have h1 := flat_len (letters l)
  have h2 := letters_len l
  unfold units
  omega

set_option maxHeartbeats 4000000 in
set_option maxRecDepth 1000000 in
theorem Units_yes (s : ByteArray) (w : World) (hs : s.size ≤ 35184372088832) (hT : Tabs w) (hv : valid s.data.toList = true) :
    Calls Tryd.prog 29 #[.string s] w fun e w' => e = .returned (.tuple #[.int .i64 ((units s.data.toList).length : Nat), .int .i64 0]) ∧ Below w.heap.size w w' := by
  have cV := valid_calls s w (by omega) hT
  rw [hv] at cV
  have CV := Lib.hid cV
  clear cV
  have HV := Lib.hid hv
  clear hv hT
  obtain ⟨tot, htot⟩ : ∃ tot, (units s.data.toList).length = tot := ⟨_, rfl⟩
  rw [htot]
  have hlt := units_len s.data.toList
  rw [htot, ← size_eq] at hlt
  have HT := Lib.hid htot
  clear htot
  go_enter Tryd.func29, Tryd.ntmps29
  go_wp2_with (go_at_call 40; refine (CV.out).mono ?_; rintro e w1 ⟨rfl, hb1⟩)
  go_loopw [4] (fun n wr => ∃ pos k : Nat, n = .int .i64 k ∧ wr.heap[w1.heap.size]? = some (.stringIter s pos) ∧ Below w.heap.size w wr ∧ valid (s.data.toList.drop pos) = true ∧ k + (units (s.data.toList.drop pos)).length = tot) (fun _ wr => s.size - wr.iterPos w1.heap.size)
  case atStart =>
    refine ⟨0, 0, rfl, ?_, ?_, HV.out, by rw [List.drop_zero]; simpa using HT.out⟩
    · have := World.iter_heap w1 s 0
      simpa using this
    · exact hb1.alloc hb1.size _
  case round =>
    obtain ⟨pos, k, rfl, hit, hbw, hv, hk⟩ := hrel
    have hsz : w1.heap.size < wr.heap.size := (Array.getElem?_eq_some_iff.1 hit).1
    have hz1 := hb1.size
    by_cases hp : pos < s.size
    · obtain ⟨r, wd, hde, hdl, hwd, hd1, hne⟩ := next_facts s pos hp
      have hnx := next_run (P := Tryd.prog) hde hp wr w1.heap.size hit
      have hit2 := Lib.iterAt_heap wr w1.heap.size s pos (pos + wd) hit
      have hbw2 := Lib.below_iterAt hbw (k := w1.heap.size) (by omega) s (pos + wd)
      obtain ⟨h1, h2, _⟩ := units_step hdl hne hv
      have hk2 := hk
      rw [h1, List.length_append] at hk2
      by_cases hr : r < 65536
      · have hu : (unit r).length = 1 := by unfold unit; rw [if_pos hr]; rfl
        rw [hu] at hk2
        have HK := Lib.hid hk2
        have HIT := Lib.hid hit
        have HIT2 := Lib.hid hit2
        have H2 := Lib.hid h2
        have hkb : k < 9223372036854775800 := by omega
        have hdec : decide ((65536 : Int) ≤ (r : Int)) = false := by simp; omega
        clear hk2 hk h1 h2 hu hit hit2 hv hde hdl hne hr hd1
        go_wp2
        go_roundw
        case rel => exact ⟨pos + wd, k + 1, by go_num, HIT2.out, hbw2, H2.out, by have := HK.out; omega⟩
        case measure =>
          have e1 := HIT.out
          have e2 := HIT2.out
          simp only [World.iterPos, e1, e2]
          omega
      · have hu : (unit r).length = 2 := by unfold unit; rw [if_neg hr]; rfl
        rw [hu] at hk2
        have HK := Lib.hid hk2
        have HIT := Lib.hid hit
        have HIT2 := Lib.hid hit2
        have H2 := Lib.hid h2
        have hkb : k < 9223372036854775800 := by omega
        have hdec : decide ((65536 : Int) ≤ (r : Int)) = true := by simp; omega
        clear hk2 hk h1 h2 hu hit hit2 hv hde hdl hne hr hd1
        go_wp2
        go_roundw
        case rel => exact ⟨pos + wd, k + 2, by go_num, HIT2.out, hbw2, H2.out, by have := HK.out; omega⟩
        case measure =>
          have e1 := HIT.out
          have e2 := HIT2.out
          simp only [World.iterPos, e1, e2]
          omega
    · have hnx : ∀ ty, (Instr.next (.pointer (some ⟨w1.heap.size, 0, none⟩)) true ty).run Tryd.prog wr = _ := fun ty => Lib.run_next_end_at wr w1.heap.size s pos ty hit hp
      have he : s.data.toList.drop pos = [] := List.drop_eq_nil_of_le (by rw [← size_eq]; omega)
      rw [he] at hk
      have hk0 : k = tot := by simpa [units, letters_nil] using hk
      subst hk0
      clear hk hv he
      go_wp2
      go_ret2
      exact ⟨rfl, hbw⟩

set_option maxHeartbeats 4000000 in
set_option maxRecDepth 1000000 in
theorem Units_no (s : ByteArray) (w : World) (hs : s.size ≤ 35184372088832) (hT : Tabs w) (hv : valid s.data.toList = false) :
    Calls Tryd.prog 29 #[.string s] w fun e w' => e = .returned (.tuple #[.int .i64 0, .int .i64 5]) ∧ Below w.heap.size w w' := by
  have cV := valid_calls s w (by omega) hT
  rw [hv] at cV
  have CV := Lib.hid cV
  clear cV hv hT
  go_enter Tryd.func29, Tryd.ntmps29
  go_wp2_with (go_at_call 40; refine (CV.out).mono ?_; rintro e w1 ⟨rfl, hb1⟩)
  go_ret2
  exact ⟨rfl, hb1⟩

theorem Units_calls (s : ByteArray) (w : World) (hs : s.size ≤ 35184372088832) (hT : Tabs w) :
    Calls Tryd.prog 29 #[.string s] w fun e w' => e = .returned (.tuple #[.int .i64 (countOf s.data.toList), .int .i64 (errOf s.data.toList)]) ∧ Below w.heap.size w w' := by
  unfold countOf errOf
  cases hv : valid s.data.toList with
  | true => simp only [if_true]; exact Units_yes s w hs hT hv
  | false => simp only [Bool.false_eq_true, if_false]; exact Units_no s w hs hT hv
end Go.Proofs.YtlmadihedejaaaaDoor.U
/- strings.Builder's copyCheck and its writers, at a builder that the call itself has made: each adds its bytes; the frame of the shelf's forms '_k'. -/
set_option linter.unusedVariables false
namespace Go.Proofs.YtlmadihedejaaaaDoor.U
open Go.RowKit Go.Proofs

theorem infoByte : (Tryd.prog.info? 5).map (fun i => (i.zero, i.size, i.bytes)) = some (some (.int .u8 0), 1, 1) := by kernel_rfl
theorem sizeBuilder : (Tryd.prog.info? 51).map (fun i => i.size) = some 2 := by kernel_rfl
theorem liesBuilder : liesAt Tryd.prog Tryd.prog.depth 51 (2 / Tryd.prog.cellsOf 51) 0 51 1 = true := by kernel_rfl

set_option maxHeartbeats 1000000 in
set_option maxRecDepth 100000 in
/-- copyCheck at a builder that has been used: nothing turns. -/
theorem copyCheck_used (b : Nat) (w : World) (h0 : w.cell? ⟨b, 0, none⟩ = some (.pointer (some ⟨b, 0, none⟩))) :
    Calls Tryd.prog 44 #[.pointer (some ⟨b, 0, none⟩)] w fun e w' => e = .returned (.tuple #[]) ∧ w' = w := by
  obtain ⟨j, hj, _⟩ := Option.map_eq_some_iff.1 sizeBuilder
  go_enter Tryd.func44, Tryd.ntmps44
  go_wp2
  rw [Lib.run_neq_ptr_same w _ Tryd.underlying48 hj]
  go_wp2
  go_end0
  exact ⟨rfl, rfl⟩

set_option maxHeartbeats 1000000 in
set_option maxRecDepth 100000 in
/-- copyCheck at a fresh builder: it stores its own address. -/
theorem copyCheck_fresh (b : Nat) (w : World) (h0 : w.cell? ⟨b, 0, none⟩ = some (.pointer none)) (hsh : w.shape? b = some (51, 2)) (hfz : w.frozen? ⟨b, 0, none⟩ = false) :
    Calls Tryd.prog 44 #[.pointer (some ⟨b, 0, none⟩)] w fun e w' => e = .returned (.tuple #[]) ∧ w' = w.setCell ⟨b, 0, none⟩ (.pointer (some ⟨b, 0, none⟩)) := by
  obtain ⟨j, hj, hjs⟩ := Option.map_eq_some_iff.1 sizeBuilder
  go_enter Tryd.func44, Tryd.ntmps44
  go_wp2
  rw [Lib.run_to_unsafe w ⟨b, 0, none⟩ Tryd.underlying48 Tryd.underlying74 hj (by rw [hjs]; decide) hsh (Nat.zero_lt_succ 1)]
  simp only [Result.andThen]
  rw [Oper.upon_value]
  go_wp2
  rw [run_callFunc_extern Tryd.func54 (by kernel_rfl) (by kernel_rfl) (by kernel_rfl) (e := Extern.AbiNoEscape.same) (by kernel_rfl)]
  rw [Lib.run_noEscape]
  simp only [Result.andThen]
  rw [Oper.upon_value]
  go_wp2
  rw [Lib.run_from_unsafe w ⟨b, 0, none⟩ Tryd.underlying74 Tryd.underlying48 hj hsh liesBuilder]
  simp only [Result.andThen]
  rw [Oper.upon_value]
  go_wp2
  go_end0
  exact ⟨rfl, rfl⟩

theorem copyCheck_k (B b : Nat) (bs : List Value) (w : World) (h : Lib.IsBuilderF 51 5 B b bs w) :
    Calls Tryd.prog 44 #[.pointer (some ⟨b, 0, none⟩)] w fun e w' => e = .returned (.tuple #[]) ∧ (Lib.BuilderAtF 51 5 B b (.pointer (some ⟨b, 0, none⟩)) bs w' ∧ Below B w w' ∧ Lib.OthersKept 5 (some b) w w') := by
  rcases h with h | h
  · refine (copyCheck_fresh b w h.cell0 h.shape h.frozen0).mono ?_
    rintro e w' ⟨rfl, rfl⟩
    exact ⟨rfl, h.used _, (Below.refl B w).setCell (p := ⟨b, 0, none⟩) h.1 _, (Lib.OthersKept.refl _ _ w).setCell ⟨b, 0, none⟩ rfl _⟩
  · refine (copyCheck_used b w h.cell0).mono ?_
    rintro e w' ⟨rfl, rfl⟩
    exact ⟨rfl, h, Below.refl B _, Lib.OthersKept.refl _ _ _⟩

set_option maxHeartbeats 2000000 in
set_option maxRecDepth 100000 in
/-- WriteByte. -/
theorem WriteByte_k (B b : Nat) (bs : List Value) (c : Int) (w : World) (h : Lib.IsBuilderF 51 5 B b bs w) (hlen : bs.length + 1 ≤ 140737488355328) (hBw : B ≤ w.heap.size) :
    Calls Tryd.prog 34 #[.pointer (some ⟨b, 0, none⟩), .int .u8 c] w fun e w' => e = .returned .nilIface ∧ (Lib.BuilderAtF 51 5 B b (.pointer (some ⟨b, 0, none⟩)) (bs ++ [.int .u8 c]) w' ∧ Below B w w' ∧ Lib.OthersKept 5 (some b) w w') := by
  obtain ⟨i0, hi, hz0, hz1, hz2⟩ := info_parts infoByte
  go_enter Tryd.func34, Tryd.ntmps34
  go_wp2_with (go_at_call 44; refine (copyCheck_k B b bs _ h).mono ?_)
  rintro e w1 ⟨rfl, h1, hb1, hk1⟩
  obtain ⟨hB, v, hbk, hown, hne⟩ := h1
  have c0 : w1.cell? ⟨b, 0, none⟩ = some (.pointer (some ⟨b, 0, none⟩)) := by rw [Lib.cell_of_heap hbk]; rfl
  have c1 : w1.cell? ⟨b, 1, none⟩ = some v := by rw [Lib.cell_of_heap hbk]; rfl
  go_wp2_with (at_builtin; refine wpList_append_ownF _ rfl _ _ 49 rfl B 5 i0 (.int .u8 0) 1 1 Tryd.underlying49 hi hz0 hz1 hz2 rfl (by decide) _ _ _ rfl (hown.alloc _) ⟨w1.heap.size, 0, none⟩ 1 1 [.int .u8 c] rfl rfl ?c1 ?c2 ?c3 ?c4 ?c5 ?_)
  case c1 =>
    intro j u hj
    match j, hj with
    | 0, hj => simp at hj; subst hj; simp [Addr.add]
  case c2 => intro u hu; simp at hu; subst hu; rfl
  case c3 => unfold maxLen; omega
  case c4 => omega
  case c5 => have := hb1.size; simp; omega
  intro v' w2 hown' hgrow _
  have hlt : b < w1.heap.size := by
    rcases Nat.lt_or_ge b w1.heap.size with h' | h'
    · exact h'
    · simp [Array.getElem?_eq_none h'] at hbk
  have hb2 : w2.heap[b]? = some (.cells #[.pointer (some ⟨b, 0, none⟩), v] 51 (0, 0)) := by
    rw [hgrow.block b (by simp; omega) (fun e => hne e.symm), Lib.alloc_old w1 _ b hlt]
    exact hbk
  have d0 : w2.cell? ⟨b, 0, none⟩ = some (.pointer (some ⟨b, 0, none⟩)) := by rw [Lib.cell_of_heap hb2]; rfl
  have d1 : w2.cell? ⟨b, 1, none⟩ = some v := by rw [Lib.cell_of_heap hb2]; rfl
  have f1 : w2.frozen? ⟨b, 1, none⟩ = false := Lib.frozen_of_heap hb2 1
  obtain ⟨g, cap, rfl⟩ : ∃ g cap, v' = .slice (some ⟨g, 0, none⟩) (bs.length + 1) cap := by
    rcases hown'.2 with ⟨_, h0⟩ | ⟨g, cap, cur, fz, hv, _⟩
    · omega
    · exact ⟨g, cap, hv⟩
  go_wp2
  go_ret
  refine ⟨rfl, ?_, ?_, ((hk1.alloc _).grown hgrow (Lib.ownsRowF_kind (hown.alloc _))).setCell ⟨b, 1, none⟩ rfl _⟩
  · exact Lib.BuilderAtF.put (T := 51) (e := 5) hB hb2 (bs' := bs ++ [.int .u8 c]) (by simpa using hown') (by decide)
  · exact ((hb1.alloc (by have := hb1.size; omega) _).grown hgrow (by have := hb1.size; simp; omega) (fun k hk => (hown.lt k hk).1)).setCell (p := ⟨b, 1, none⟩) hB _
end Go.Proofs.YtlmadihedejaaaaDoor.U
/- utf.fold and utf.Fold: a letter, a text, folded; for texts of at most 2^45 bytes. -/
set_option linter.unusedVariables false
set_option linter.unusedSimpArgs false
namespace Go.Proofs.YtlmadihedejaaaaDoor.U
open Go.RowKit Go.Proofs

theorem foldR_calls (n : Nat) (w : World) (hn : n ≤ 1114600) :
    Calls Tryd.prog 35 #[.int .i32 n] w fun e w' => e = .returned (.int .i32 (foldN n : Nat)) ∧ w = w' := by
  by_cases h1 : 65 ≤ n
  · have d1 : decide ((65 : Int) ≤ (n : Int)) = true := by simp; omega
    by_cases h2 : n ≤ 90
    · have d2 : decide ((n : Int) ≤ (90 : Int)) = true := by simp; omega
      have hf : foldN n = n + 32 := by unfold foldN; rw [if_pos ⟨h1, h2⟩]
      rw [hf]
      clear hf
      go_enter Tryd.func35, Tryd.ntmps35
      go_wp2
      go_ret
      refine ⟨?_, rfl⟩
      simp
      omega
    · have d2 : decide ((n : Int) ≤ (90 : Int)) = false := by simp; omega
      have hf : foldN n = n := by unfold foldN; rw [if_neg (by omega)]
      rw [hf]
      clear hf
      go_enter Tryd.func35, Tryd.ntmps35
      go_wp2
      go_ret
      exact ⟨rfl, rfl⟩
  · have d1 : decide ((65 : Int) ≤ (n : Int)) = false := by simp; omega
    have hf : foldN n = n := by unfold foldN; rw [if_neg (by omega)]
    rw [hf]
    clear hf
    go_enter Tryd.func35, Tryd.ntmps35
    go_wp2
    go_ret
    exact ⟨rfl, rfl⟩

theorem take_fold (l : List UInt8) (k : Nat) (h : k < l.length) : (fold l).take (k + 1) = (fold l).take k ++ [foldB l[k]] := by
  rw [List.take_succ_eq_append_getElem (by rw [fold_length]; exact h)]
  simp [fold]

set_option maxHeartbeats 4000000 in
set_option maxRecDepth 1000000 in
theorem Fold_calls (s : ByteArray) (w : World) (hs : s.size ≤ 35184372088832) :
    Calls Tryd.prog 24 #[.string s] w fun e w' => e = .returned (.string ⟨(fold s.data.toList).toArray⟩) ∧ Below w.heap.size w w' := by
  go_enter Tryd.func24, Tryd.ntmps24
  go_wp2
  go_loopw [7] (fun i wr => ∃ k : Nat, k ≤ s.size ∧ i = .int .i64 k ∧ Lib.IsBuilderF 51 5 w.heap.size w.heap.size (Lib.byteCells ((fold s.data.toList).take k)) wr ∧ Below w.heap.size w wr) (fun i _ => s.size - (RowKit.intOf i).toNat)
  case atStart =>
    exact ⟨0, Nat.zero_le _, rfl, Lib.IsBuilderF.of (Lib.fresh_isBuilder 51 5 w), (Below.refl _ w).alloc (Nat.le_refl _) _⟩
  case round =>
    obtain ⟨k, hk, rfl, hI, hb⟩ := hrel
    have hz := hb.size
    by_cases hlt : k < s.size
    · have d0 : decide ((k : Int) < (s.size : Int)) = true := by simp; omega
      have hl : k < s.data.toList.length := by rw [← Lib.size_eq]; exact hlt
      have hts := take_fold s.data.toList k hl
      rw [show s.data.toList[k] = s[k] from rfl] at hts
      have hlen : (Lib.byteCells ((fold s.data.toList).take k)).length + 1 ≤ 140737488355328 := by
        rw [Lib.byteCells_length, List.length_take, fold_length]; omega
      have h256 := s[k].toNat_lt
      have HT := Lib.hid hts
      have HI := Lib.hid hI
      have HL := Lib.hid hlen
      have hf := foldB_nat s[k]
      have hf2 := (foldB s[k]).toNat_lt
      rw [hf] at hf2
      have HF := Lib.hid hf
      clear hts hI hlen hf
      go_wp2_with (go_at_call 35; with_reducible refine (foldR_calls _ _ (by omega)).mono ?_)
      rintro e w' ⟨rfl, rfl⟩
      go_wp2_with (go_at_call 34; with_reducible refine (WriteByte_k w.heap.size w.heap.size _ (foldN s[k].toNat : Nat) _ HI.out HL.out hz).mono ?_)
      rintro e W1 ⟨rfl, h1, b1, k1⟩
      have h1' : Lib.IsBuilderF 51 5 w.heap.size w.heap.size (Lib.byteCells ((fold s.data.toList).take (k + 1))) W1 := by
        rw [HT.out, Lib.byteCells_append]
        have e : Lib.byteCells [foldB s[k]] = [.int .u8 (foldN s[k].toNat : Nat)] := by
          unfold Lib.byteCells
          rw [List.map_cons, HF.out]
          rfl
        rw [e]
        exact Or.inr h1
      have H1 := Lib.hid h1'
      clear h1' h1
      go_wp2
      go_roundw
      case rel => exact ⟨k + 1, by omega, by go_num, H1.out, hb.trans b1⟩
      case measure => simp [RowKit.intOf]; omega
    · have d0 : decide ((k : Int) < (s.size : Int)) = false := by simp; omega
      have hk' : k = s.size := by omega
      subst hk'
      rw [List.take_of_length_le (by rw [fold_length, ← Lib.size_eq]; exact Nat.le_refl _)] at hI
      have HI := Lib.hid hI
      clear hI
      go_wp2_with (go_at_call 36; with_reducible refine (Tryd.Builder_String_any_k w.heap.size w.heap.size _ _ HI.out hz).mono ?_)
      rintro e W1 ⟨rfl, _, b1, _⟩
      go_wp2
      go_ret
      exact ⟨rfl, hb.trans b1⟩
end Go.Proofs.YtlmadihedejaaaaDoor.U
/- utf.letters, order, Alike, Ahead: the order of folded letters; for texts of at most 2^40 bytes. -/
set_option linter.unusedVariables false
set_option linter.unusedSimpArgs false
namespace Go.Proofs.YtlmadihedejaaaaDoor.U
open Go.RowKit Go.Proofs Go.Lib Go.Proofs.YtlmadihedejaaaaDoorW.PrintWords

/-- The folded letters. -/
def flet (l : List UInt8) : List Nat := (letters l).map foldN
def fnums (l : List UInt8) : List Int := (flet l).map fun n : Nat => (n : Int)

/-- U+FFFD stands there, or it is told of a byte that is none. -/
theorem prefix_fffd (l : List UInt8) (wd : Nat) (hne : l ≠ []) (h : decodeL l = (65533, wd)) : Lib.hasPrefix l [239, 191, 189] = decide (wd ≠ 1) := by
  rcases shape l hne with ⟨a, t, rfl, ha, e⟩ | ⟨a, b, t, rfl, c1, c3, cv, e⟩ | ⟨a, b, c, t, rfl, c1, c3, c4, cv, cs, e⟩ | ⟨a, b, c, d, t, rfl, c1, c3, c4, c5, cv, cw, e⟩ | ⟨a, t, rfl, ha, e⟩
  · rw [h] at e
    injection e with e1 e2
    omega
  · have h1 := a.toNat_lt
    have h2 := b.toNat_lt
    rw [h] at e
    injection e with e1 e2
    omega
  · have h1 := a.toNat_lt
    have h2 := b.toNat_lt
    have h3 := c.toNat_lt
    rw [h] at e
    injection e with e1 e2
    subst e2
    have ea : a = 239 := UInt8.toNat_inj.1 (by show a.toNat = 239; omega)
    have eb : b = 191 := UInt8.toNat_inj.1 (by show b.toNat = 191; omega)
    have ec : c = 189 := UInt8.toNat_inj.1 (by show c.toNat = 189; omega)
    subst ea eb ec
    rfl
  · rw [h] at e
    injection e with e1 e2
    omega
  · rw [h] at e
    injection e with e1 e2
    subst e2
    -- were it the prefix, the letter would be three bytes wide
    have hb : Bad (a :: t) := by unfold Bad; rw [h]; exact ⟨rfl, rfl⟩
    rw [show decide ((1 : Nat) ≠ 1) = false from rfl]
    rw [Bool.eq_false_iff]
    intro hp
    have hx : ∃ t', a :: t = enc 65533 ++ t' := by
      rcases t with _ | ⟨b, _ | ⟨c, t⟩⟩
      · simp [Lib.hasPrefix] at hp
      · simp [Lib.hasPrefix] at hp
      · simp [Lib.hasPrefix] at hp
        obtain ⟨rfl, rfl, rfl⟩ := hp
        exact ⟨t, rfl⟩
    obtain ⟨t', ht⟩ := hx
    rw [ht] at hb
    exact (decode_enc 65533 (by unfold IsLetter; omega) t').2 hb

theorem infoI32 : (Tryd.prog.info? 21).map (fun i => (i.zero, i.size, i.bytes)) = some (some (.int .i32 0), 1, 4) := by kernel_rfl
theorem fnums_step {s : ByteArray} {pos r wd : Nat} (hd : decodeL (s.data.toList.drop pos) = (r, wd)) (hne : s.data.toList.drop pos ≠ []) :
    fnums (s.data.toList.drop pos) = ((foldN (letter1 (s.data.toList.drop pos)) : Nat) : Int) :: fnums (s.data.toList.drop (pos + wd)) := by
  unfold fnums flet
  rw [letters_step _ hne, hd, List.drop_drop]
  rfl
theorem fnums_len (l : List UInt8) : (fnums l).length ≤ l.length := by
  have := letters_len l
  simpa [fnums, flet] using this
/-- The loop's relation. -/
def LetAt (s : ByteArray) (w : World) (tot : List Int) (pos : Nat) (v : Value) (done : List Int) (wr : World) : Prop :=
  wr.heap[w.heap.size]? = some (.stringIter s pos) ∧ wr.ownsRow w.heap.size 21 1 v done.length (nums .i32 done) ∧ Below w.heap.size w wr ∧ done ++ fnums (s.data.toList.drop pos) = tot
theorem let_next {s : ByteArray} {w wr : World} {tot : List Int} {pos : Nat} {v : Value} {done : List Int} (h : LetAt s w tot pos v done wr) (pos' : Nat) (e : fnums (s.data.toList.drop pos) = fnums (s.data.toList.drop pos)) :
    (wr.iterAt w.heap.size s pos').heap[w.heap.size]? = some (.stringIter s pos') ∧ (wr.iterAt w.heap.size s pos').ownsRow w.heap.size 21 1 v done.length (nums .i32 done) ∧ Below w.heap.size w (wr.iterAt w.heap.size s pos') := by
  obtain ⟨hit, hown, hbw, _⟩ := h
  refine ⟨Lib.iterAt_heap wr _ s pos pos' hit, ?_, Lib.below_iterAt hbw (Nat.le_refl _) s pos'⟩
  refine own_move hown (fun k hk => Lib.iterAt_other _ _ _ _ _ ?_)
  rintro rfl
  obtain ⟨c, hc⟩ := own_typed hown _ hk
  rw [hit] at hc
  cases hc

theorem let_on {s : ByteArray} {w wr w2 : World} {pos : Nat} {v v' : Value} {done : List Int} {y : Int} {o : Obj} (h : wr.heap[w.heap.size]? = some (.stringIter s pos) ∧ wr.ownsRow w.heap.size 21 1 v done.length (nums .i32 done) ∧ Below w.heap.size w wr)
    (hown' : w2.ownsRow w.heap.size 21 1 v' (done.length + 1) (nums .i32 done ++ [.int .i32 y])) (hg : (wr.alloc o).grownBy w2 v.ownBlock) :
    w2.heap[w.heap.size]? = some (.stringIter s pos) ∧ w2.ownsRow w.heap.size 21 1 v' (done ++ [y]).length (nums .i32 (done ++ [y])) ∧ Below w.heap.size w w2 := by
  obtain ⟨h1, h2, h3⟩ := h
  have hsz : w.heap.size < wr.heap.size := (Array.getElem?_eq_some_iff.1 h1).1
  refine ⟨?_, ?_, (h3.alloc h3.size _).grown hg (by simp; omega) (fun k hk => (h2.lt k hk).1)⟩
  · rw [hg.block _ (by simp; omega) ?_, Lib.alloc_old wr _ _ hsz]
    · exact h1
    · intro e
      obtain ⟨c, hc⟩ := own_typed h2 _ e.symm
      rw [h1] at hc
      cases hc
  · rw [List.length_append, nums_append]
    exact hown'

set_option maxHeartbeats 4000000 in
set_option maxRecDepth 1000000 in
theorem letters_calls (s : ByteArray) (w : World) (hs : s.size ≤ 17592186044416) :
    Calls Tryd.prog 60 #[.string s] w fun e w' => ∃ v, e = .returned v ∧ Kd.R (Kd.int .i32) 21 w' w.heap.size (fun _ => True) v (fnums s.data.toList) ∧ Below w.heap.size w w' := by
  obtain ⟨i0, hi, hz0, hz1, hz2⟩ := info_parts infoI32
  obtain ⟨tot, htot⟩ : ∃ tot, fnums s.data.toList = tot := ⟨_, rfl⟩
  rw [htot]
  have hlt : tot.length ≤ s.size := by rw [← htot, size_eq]; exact fnums_len _
  have HT := Lib.hid htot
  clear htot
  go_enter Tryd.func60, Tryd.ntmps60
  go_wp2
  go_loopw [3] (fun v wr => ∃ pos done, LetAt s w tot pos v done wr) (fun _ wr => s.size - wr.iterPos w.heap.size)
  case atStart =>
    refine ⟨0, [], ?_, own_nil _ _ _ _, (Below.refl _ w).alloc (Nat.le_refl _) _, by rw [List.drop_zero]; simpa using HT.out⟩
    have := World.iter_heap w s 0
    simpa using this
  case round =>
    obtain ⟨pos, done, hL⟩ := hrel
    obtain ⟨hit, hown, hbw, hk⟩ := hL
    have hz := hbw.size
    have hsz : w.heap.size < wr.heap.size := (Array.getElem?_eq_some_iff.1 hit).1
    by_cases hp : pos < s.size
    · obtain ⟨r, wd, hde, hdl, hwd, hd1, hne⟩ := next_facts s pos hp
      have hnx := next_run (P := Tryd.prog) hde hp wr w.heap.size hit
      have hst := let_next ⟨hit, hown, hbw, hk⟩ (pos + wd) rfl
      have hfs := fnums_step hdl hne
      have hdn : done.length + 1 ≤ s.size := by
        have := congrArg List.length hk
        rw [hfs, List.length_append, List.length_cons] at this
        omega
      have HST := Lib.hid hst
      have HIT := Lib.hid hit
      rw [hfs] at hk
      have HK := Lib.hid hk
      have HDL := Lib.hid hdl
      clear hst hit hk hdl hfs hown hde
      have HNE := Lib.hid hne
      clear hne
      by_cases hr : r = 65533
      · subst hr
        have d0 : (((65533 : Nat) : Int) == 65533) = true := rfl
        have cP : ∀ W, Calls Tryd.prog 67 #[.string (s.extract pos s.size), .string ⟨#[239, 191, 189]⟩] W fun e w' => e = .returned (.bool (decide (wd ≠ 1))) ∧ w' = W := by
          intro W
          have := Tryd.strings_HasPrefix (s.extract pos s.size) ⟨#[239, 191, 189]⟩ W
          rw [Lib.extract_to_end] at this
          rw [← prefix_fffd _ wd HNE.out HDL.out]
          exact this
        by_cases hw : wd = 1
        · subst hw
          rw [show decide ((1 : Nat) ≠ 1) = false from rfl] at cP
          have CP := Lib.hid cP
          clear cP
          have h256 := s[pos].toNat_lt
          have hl1 : letter1 (s.data.toList.drop pos) = 1114112 + s[pos].toNat := by
            rw [letter1_bad HDL.out]
            congr 1
            rw [List.drop_eq_getElem_cons (by rw [← size_eq]; exact hp)]
            rfl
          have HK2 := HK.out
          rw [hl1] at HK2
          have HK3 := Lib.hid HK2
          clear HK2 hl1
          go_wp2_with (go_at_call 67; refine (CP.out _).mono ?_)
          rintro e w' ⟨rfl, rfl⟩
          go_wp2_with fail
          rw [show (1114112 + (s[pos].toNat : Int)) = ((1114112 + s[pos].toNat : Nat) : Int) from rfl]
          refine (foldR_calls (1114112 + s[pos].toNat) _ (by omega)).mono ?_
          rintro e w' ⟨rfl, rfl⟩
          go_wp2_with (at_builtin; refine wpList_append_own _ rfl _ _ 82 rfl w.heap.size 21 i0 (.int .i32 0) 1 4 Tryd.underlying82 hi hz0 hz1 hz2 rfl (by decide) _ _ _ rfl (HST.out.2.1.alloc _) ⟨(wr.iterAt w.heap.size s (pos + 1)).heap.size, 0, none⟩ 1 1 [.int .i32 ((foldN (1114112 + s[pos].toNat) : Nat) : Int)] rfl rfl ?c1 ?c2 ?c3 ?c4 ?c5 ?_)
          case c1 =>
            intro j u hj
            match j, hj with
            | 0, hj => simp at hj; subst hj; simp [Addr.add]
          case c2 => intro u hu; simp at hu; subst hu; rfl
          case c3 => unfold maxLen; omega
          case c4 => omega
          case c5 => simp [Lib.iterAt_size]; omega
          intro v' w2 hown' hgrow _
          have hon := let_on HST.out hown' hgrow
          have HON := Lib.hid hon
          clear hon hown' hgrow
          go_wp2
          go_roundw
          case rel => exact ⟨pos + 1, done ++ [_], HON.out.1, HON.out.2.1, HON.out.2.2, by have := HK3.out; rw [List.append_assoc]; exact this⟩
          case measure =>
            have e1 := HIT.out
            have e2 := HON.out.1
            simp only [World.iterPos, e1, e2]
            omega
        · rw [show decide (wd ≠ 1) = true by simp; omega] at cP
          have CP := Lib.hid cP
          clear cP
          have hl1 : letter1 (s.data.toList.drop pos) = 65533 := letter1_good HDL.out (fun h => hw h.2)
          have HK2 := HK.out
          rw [hl1] at HK2
          have HK3 := Lib.hid HK2
          clear HK2 hl1
          go_wp2_with (go_at_call 67; refine (CP.out _).mono ?_)
          rintro e w' ⟨rfl, rfl⟩
          go_wp2_with (go_at_call 35; refine (foldR_calls 65533 _ (by omega)).mono ?_)
          rintro e w' ⟨rfl, rfl⟩
          go_wp2_with (at_builtin; refine wpList_append_own _ rfl _ _ 82 rfl w.heap.size 21 i0 (.int .i32 0) 1 4 Tryd.underlying82 hi hz0 hz1 hz2 rfl (by decide) _ _ _ rfl (HST.out.2.1.alloc _) ⟨(wr.iterAt w.heap.size s (pos + wd)).heap.size, 0, none⟩ 1 1 [.int .i32 ((foldN 65533 : Nat) : Int)] rfl rfl ?c1 ?c2 ?c3 ?c4 ?c5 ?_)
          case c1 =>
            intro j u hj
            match j, hj with
            | 0, hj => simp at hj; subst hj; simp [Addr.add]
          case c2 => intro u hu; simp at hu; subst hu; rfl
          case c3 => unfold maxLen; omega
          case c4 => omega
          case c5 => simp [Lib.iterAt_size]; omega
          intro v' w2 hown' hgrow _
          have hon := let_on HST.out hown' hgrow
          have HON := Lib.hid hon
          clear hon hown' hgrow
          go_wp2
          go_roundw
          case rel => exact ⟨pos + wd, done ++ [_], HON.out.1, HON.out.2.1, HON.out.2.2, by have := HK3.out; rw [List.append_assoc]; exact this⟩
          case measure =>
            have e1 := HIT.out
            have e2 := HON.out.1
            simp only [World.iterPos, e1, e2]
            omega
      · have d0 : ((r : Int) == 65533) = false := by simp; omega
        have hl1 : letter1 (s.data.toList.drop pos) = r := letter1_good HDL.out (fun h => hr h.1)
        have HK2 := HK.out
        rw [hl1] at HK2
        have HK3 := Lib.hid HK2
        clear HK2 hl1
        go_wp2_with (go_at_call 35; with_reducible refine (foldR_calls r _ (by omega)).mono ?_)
        rintro e w' ⟨rfl, rfl⟩
        go_wp2_with (at_builtin; refine wpList_append_own _ rfl _ _ 82 rfl w.heap.size 21 i0 (.int .i32 0) 1 4 Tryd.underlying82 hi hz0 hz1 hz2 rfl (by decide) _ _ _ rfl (HST.out.2.1.alloc _) ⟨(wr.iterAt w.heap.size s (pos + wd)).heap.size, 0, none⟩ 1 1 [.int .i32 ((foldN r : Nat) : Int)] rfl rfl ?c1 ?c2 ?c3 ?c4 ?c5 ?_)
        case c1 =>
          intro j u hj
          match j, hj with
          | 0, hj => simp at hj; subst hj; simp [Addr.add]
        case c2 => intro u hu; simp at hu; subst hu; rfl
        case c3 => unfold maxLen; omega
        case c4 => omega
        case c5 => simp [Lib.iterAt_size]; omega
        intro v' w2 hown' hgrow _
        have hon := let_on HST.out hown' hgrow
        have HON := Lib.hid hon
        clear hon hown' hgrow
        go_wp2
        go_roundw
        case rel => exact ⟨pos + wd, done ++ [_], HON.out.1, HON.out.2.1, HON.out.2.2, by have := HK3.out; rw [List.append_assoc]; exact this⟩
        case measure =>
          have e1 := HIT.out
          have e2 := HON.out.1
          simp only [World.iterPos, e1, e2]
          omega
    · have hnx : ∀ ty, (Instr.next (.pointer (some ⟨w.heap.size, 0, none⟩)) true ty).run Tryd.prog wr = _ := fun ty => Lib.run_next_end_at wr w.heap.size s pos ty hit hp
      have he : s.data.toList.drop pos = [] := List.drop_eq_nil_of_le (by rw [← size_eq]; omega)
      have hd : done = tot := by
        have h0 : fnums (s.data.toList.drop pos) = [] := by rw [he]; rfl
        rw [h0, List.append_nil] at hk
        exact hk
      subst hd
      have hR : Kd.R (Kd.int .i32) 21 wr w.heap.size (fun _ => True) _ done := Kd.R_of_own hown (fun _ _ => trivial)
      have HR := Lib.hid hR
      clear hk he hit hown hR
      go_wp2
      go_ret
      exact ⟨_, rfl, HR.out, hbw⟩

/-- Below 0: the first is ahead; 0: alike. -/
def ordN : List Nat → List Nat → Int
  | x :: xs, y :: ys => if x = y then ordN xs ys else (x : Int) - (y : Int)
  | xs, ys => (xs.length : Int) - (ys.length : Int)
theorem ordN_end (xs ys : List Nat) (h : xs = [] ∨ ys = []) : ordN xs ys = (xs.length : Int) - (ys.length : Int) := by
  rcases h with rfl | rfl
  · unfold ordN
    rfl
  · cases xs <;> rfl

/-- A row of the call's own: its shape and its cells. -/
theorem open_row {k : IntKind} {e : Nat} {w : World} {base : Nat} {v : Value} {xs : List Int} (h : Kd.R (Kd.int k) e w base (fun _ => True) v xs) :
    ∃ A c, v = .slice A xs.length c ∧ xs.length ≤ c ∧ (0 < xs.length → ∃ g, A = some ⟨g, 0, none⟩ ∧ base ≤ g ∧ g < w.heap.size ∧ ∀ j, j < xs.length → w.cell? ⟨g, j, none⟩ = some (.int k (xs.getD j 0))) := by
  have ho := Kd.own_of_R h
  rcases Nat.eq_zero_or_pos xs.length with h0 | h0
  · obtain ⟨A, c, hv⟩ := own_slice ho
    refine ⟨A, c, hv, by omega, fun hp => absurd hp (by omega)⟩
  · obtain ⟨g, cap, rfl, hb, hl⟩ := ho.form h0
    have hcap : xs.length ≤ cap := by
      rcases ho.2 with ⟨_, h1⟩ | ⟨g', cap', cur, he, _, _, h1, _⟩
      · omega
      · injection he with _ _ he
        omega
    have hg : g < w.heap.size := own_lt ho g rfl
    refine ⟨_, cap, rfl, hcap, fun _ => ⟨g, rfl, hb, hg, fun j hj => ?_⟩⟩
    have := ho.cells (g := g) rfl j (.int k (xs.getD j 0)) (by simp [encs, List.getElem?_eq_getElem hj, List.getD_eq_getElem?_getD])
    rwa [add_plain] at this

theorem drop_cons {xs : List Nat} {k : Nat} (h : k < xs.length) : xs.drop k = xs.getD k 0 :: xs.drop (k + 1) := by
  rw [List.drop_eq_getElem_cons h, List.getD_eq_getElem?_getD, List.getElem?_eq_getElem h]
  rfl
theorem getD_nums (xs : List Nat) (k : Nat) : (xs.map fun n : Nat => (n : Int)).getD k 0 = ((xs.getD k 0 : Nat) : Int) := by
  rw [List.getD_eq_getElem?_getD, List.getD_eq_getElem?_getD, List.getElem?_map]
  cases xs[k]? <;> rfl
theorem letters_bound : ∀ l : List UInt8, ∀ n ∈ letters l, n ≤ 1114500 := by
  refine by_letters (fun n h => by simp [letters_nil] at h) ?_
  intro l hne ih m hm
  rw [letters_step l hne] at hm
  rcases List.mem_cons.1 hm with rfl | hm
  · unfold letter1
    have h1 := (l.headD 0).toNat_lt
    have h2 := decodeL_rune l
    split <;> omega
  · exact ih m hm
theorem flet_bound (l : List UInt8) : ∀ n ∈ flet l, n ≤ 1114600 := by
  unfold flet
  intro n hn
  obtain ⟨m, hm, rfl⟩ := List.mem_map.1 hn
  have := letters_bound l m hm
  unfold foldN
  split <;> omega

set_option maxHeartbeats 4000000 in
set_option maxRecDepth 1000000 in
theorem order_calls (a b : ByteArray) (w : World) (ha : a.size ≤ 17592186044416) (hb : b.size ≤ 17592186044416) :
    Calls Tryd.prog 50 #[.string a, .string b] w fun e w' => e = .returned (.int .i64 (ordN (flet a.data.toList) (flet b.data.toList))) ∧ Below w.heap.size w w' := by
  have cA := letters_calls a w ha
  have hl1 := fnums_len a.data.toList
  have hl2 := fnums_len b.data.toList
  rw [← size_eq] at hl1 hl2
  have hx := flet_bound a.data.toList
  have hy := flet_bound b.data.toList
  unfold fnums at hl1 hl2
  obtain ⟨xs, hxs⟩ : ∃ xs, flet a.data.toList = xs := ⟨_, rfl⟩
  obtain ⟨ys, hys⟩ : ∃ ys, flet b.data.toList = ys := ⟨_, rfl⟩
  have cB := fun W => letters_calls b W hb
  unfold fnums at cA cB
  rw [hxs] at cA hl1 hx
  rw [hys] at cB hl2 hy
  rw [hxs, hys]
  rw [List.length_map] at hl1 hl2
  obtain ⟨tot, htot⟩ : ∃ tot, ordN xs ys = tot := ⟨_, rfl⟩
  rw [htot]
  have CA := Lib.hid cA
  have CB := Lib.hid cB
  have HT := Lib.hid htot
  have HX := Lib.hid hx
  have HY := Lib.hid hy
  obtain ⟨m, hm⟩ : ∃ m, xs.length = m := ⟨_, rfl⟩
  obtain ⟨n, hn⟩ : ∃ n, ys.length = n := ⟨_, rfl⟩
  rw [hm] at hl1
  rw [hn] at hl2
  have HM := Lib.hid hm
  have HN := Lib.hid hn
  clear cA cB htot hx hy hxs hys hm hn
  go_enter Tryd.func50, Tryd.ntmps50
  go_wp2_with fail
  refine (CA.out).mono ?_
  rintro e w1 ⟨v1, rfl, hR1, hb1⟩
  obtain ⟨A1, c1, rfl, hc1, hA1⟩ := open_row hR1
  rw [List.length_map, HM.out] at hc1 hA1 ⊢
  have HA1 := Lib.hid hA1
  clear hA1 hR1
  go_wp2_with fail
  refine (CB.out _).mono ?_
  rintro e w2 ⟨v2, rfl, hR2, hb2⟩
  obtain ⟨A2, c2, rfl, hc2, hA2⟩ := open_row hR2
  rw [List.length_map, HN.out] at hc2 hA2 ⊢
  have HA2 := Lib.hid hA2
  clear hA2 hR2
  have hbel : Below w.heap.size w w2 := hb1.trans (hb2.mono hb1.size)
  have HB2 := Lib.hid hb2
  clear hb1 hb2
  go_wp2
  go_loopw [7] (fun i wr => ∃ k q : Nat, i = .int .i64 k ∧ k ≤ m ∧ k ≤ n ∧ ordN (xs.drop k) (ys.drop k) = tot ∧ wr = w2.drewN q) (fun i _ => m - (RowKit.intOf i).toNat)
  case atStart => exact ⟨0, 0, rfl, Nat.zero_le _, Nat.zero_le _, HT.out, rfl⟩
  case round =>
    obtain ⟨k, q, rfl, hk1, hk2, hord, rfl⟩ := hrel
    have hbq : Below w.heap.size w (w2.drewN q) := pw_below_drewN hbel q
    by_cases h1 : k < m
    · by_cases h2 : k < n
      · obtain ⟨g1, rfl, _, hg1, hcell1⟩ := HA1.out (by omega)
        obtain ⟨g2, rfl, _, hg2, hcell2⟩ := HA2.out (by omega)
        have e1 := hcell1 k h1
        have e2 := hcell2 k h2
        rw [getD_nums] at e1 e2
        have f1 : w2.cell? ⟨g1, k, none⟩ = some (.int .i32 ((xs.getD k 0 : Nat) : Int)) := (HB2.out.cell (p := ⟨g1, k, none⟩) hg1).trans e1
        have f2 : w2.cell? ⟨g2, k, none⟩ = some (.int .i32 ((ys.getD k 0 : Nat) : Int)) := e2
        rw [drop_cons (xs := xs) (by have := HM.out; omega), drop_cons (xs := ys) (by have := HN.out; omega)] at hord
        obtain ⟨x, hx⟩ : ∃ x, xs.getD k 0 = x := ⟨_, rfl⟩
        obtain ⟨y, hy⟩ : ∃ y, ys.getD k 0 = y := ⟨_, rfl⟩
        have hxb : x ≤ 1114600 := by rw [← hx]; exact HX.out _ (by rw [List.getD_eq_getElem?_getD, List.getElem?_eq_getElem (by have := HM.out; omega)]; exact List.getElem_mem _)
        have hyb : y ≤ 1114600 := by rw [← hy]; exact HY.out _ (by rw [List.getD_eq_getElem?_getD, List.getElem?_eq_getElem (by have := HN.out; omega)]; exact List.getElem_mem _)
        rw [hx] at f1 hord
        rw [hy] at f2 hord
        have HO := Lib.hid hord
        have i0 : decide (k < m) = true := by simp; omega
        have i1 : decide (k < n) = true := by simp; omega
        have z0 : (0 : Int) ≤ (k : Int) := by omega
        have z1 : (k : Int) < (m : Int) := by omega
        have z2 : (k : Int) < (n : Int) := by omega
        clear hcell1 hcell2 e1 e2 hx hy hord HA1 HA2 hg1 hg2
        by_cases hxy : x = y
        · subst hxy
          have dd : ((x : Int) != (x : Int)) = false := by simp
          have HO2 := HO.out
          rw [ordN, if_pos rfl] at HO2
          have HO3 := Lib.hid HO2
          clear HO HO2
          go_wp2_with fail
          go_quiet (fail)
          go_wp2
          go_roundw
          case rel => exact ⟨k + 1, q + nq, by go_num, h1, h2, HO3.out, rfl⟩
          case measure => simp [RowKit.intOf]; omega
        · have dd : ((x : Int) != (y : Int)) = true := by simp; omega
          have HO2 := HO.out
          rw [ordN, if_neg hxy] at HO2
          subst HO2
          clear HO HT hxy
          go_wp2_with fail
          go_quiet (fail)
          go_wp2
          go_quiet (fail)
          go_wp2
          go_ret
          exact ⟨rfl, pw_below_drewN (pw_below_drewN hbq _) _⟩
      · have i0 : decide (k < m) = true := by simp; omega
        have i1 : decide (k < n) = false := by simp; omega
        have hd : ys.drop k = [] := List.drop_eq_nil_of_le (by have := HN.out; omega)
        rw [ordN_end _ _ (.inr hd), hd, List.length_drop, HM.out, List.length_nil] at hord
        have hk : k = n := by omega
        have HO1 : tot = (m : Int) - (n : Int) := by omega
        have HO := Lib.hid HO1
        clear HO1
        clear hord hd hk HT
        go_wp2
        go_ret
        exact ⟨by rw [HO.out]; rfl, hbq⟩
    · have i0 : decide (k < m) = false := by simp; omega
      have hd : xs.drop k = [] := List.drop_eq_nil_of_le (by have := HM.out; omega)
      rw [ordN_end _ _ (.inl hd), hd, List.length_drop, HN.out, List.length_nil] at hord
      have hk : k = m := by omega
      have HO1 : tot = (m : Int) - (n : Int) := by omega
      have HO := Lib.hid HO1
      clear HO1
      clear hord hd hk HT
      go_wp2
      go_ret
      exact ⟨by rw [HO.out]; rfl, hbq⟩

def alikeB (a b : List UInt8) : Bool := decide (ordN (flet a) (flet b) = 0)
def aheadB (a b : List UInt8) : Bool := decide (ordN (flet a) (flet b) < 0)
theorem Alike_calls (a b : ByteArray) (w : World) (ha : a.size ≤ 17592186044416) (hb : b.size ≤ 17592186044416) :
    Calls Tryd.prog 41 #[.string a, .string b] w fun e w' => e = .returned (.bool (alikeB a.data.toList b.data.toList)) ∧ Below w.heap.size w w' := by
  have c := order_calls a b w ha hb
  unfold alikeB
  generalize ordN (flet a.data.toList) (flet b.data.toList) = z at *
  go_enter Tryd.func41, Tryd.ntmps41
  go_wp2_with (go_at_call 50; with_reducible refine c.mono ?_)
  rintro e w' ⟨rfl, h⟩
  go_wp2
  go_ret
  exact ⟨by simp [BEq.beq], h⟩
end Go.Proofs.YtlmadihedejaaaaDoor.U
/- What is alike: the same, folded. -/
set_option linter.unusedVariables false
set_option linter.unusedSimpArgs false
namespace Go.Proofs.YtlmadihedejaaaaDoor.U
theorem ordN_nil (ys : List Nat) : ordN [] ys = -(ys.length : Int) := by rw [ordN_end _ _ (.inl rfl)]; simp
theorem ordN_nil' (xs : List Nat) : ordN xs [] = (xs.length : Int) := by rw [ordN_end _ _ (.inr rfl)]; simp
theorem ordN_cons (x y : Nat) (xs ys : List Nat) : ordN (x :: xs) (y :: ys) = if x = y then ordN xs ys else (x : Int) - (y : Int) := by rw [ordN]
theorem ordN_eq : ∀ xs ys : List Nat, ordN xs ys = 0 ↔ xs = ys := by
  intro xs
  induction xs with
  | nil =>
    intro ys
    rw [ordN_nil]
    cases ys with
    | nil => simp
    | cons y ys => simp; omega
  | cons x xs ih =>
    intro ys
    cases ys with
    | nil => rw [ordN_nil']; simp; omega
    | cons y ys =>
      rw [ordN_cons]
      split
      · rename_i h
        subst h
        simp [ih]
      · rename_i h
        simp [h]
        omega
theorem flet_fold (l : List UInt8) : flet l = letters (fold l) := by unfold flet; rw [letters_fold]
theorem flet_iff (a b : List UInt8) : flet a = flet b ↔ fold a = fold b := by
  rw [flet_fold, flet_fold]
  exact ⟨letters_inj, fun h => by rw [h]⟩
theorem alike_flet (a b : List UInt8) : alikeB a b = decide (flet a = flet b) := by
  unfold alikeB
  exact decide_eq_decide.2 (ordN_eq _ _)
theorem alike_eq (a b : List UInt8) : alikeB a b = decide (fold a = fold b) := by
  rw [alike_flet]
  exact decide_eq_decide.2 (flet_iff a b)
end Go.Proofs.YtlmadihedejaaaaDoor.U
/- The reference's letters, as the print tells them: they are the plain ones. No condition but the text's size. -/
set_option linter.unusedVariables false
set_option linter.unusedSimpArgs false
namespace Go.Proofs.YtlmadihedejaaaaDoor.U
open Go.RowKit Go.Proofs.YtlmadihedejaaaaDoorW.PrintWords Go.Proofs.YtlmadihedejaaaaDoor.PR Go.Lib

theorem w64 {x : Int} (h0 : -9223372036854775808 ≤ x) (h1 : x ≤ 9223372036854775807) : wrap64 x = x := by unfold wrap64; omega

theorem lead_eq (k : Nat) (c : Int) (h0 : 0 ≤ c) (h1 : c ≤ 255) : refectoryref02_lead.f (k + 3) c =
    some (if c < 128 then (1, c, 0) else if c < 192 then (0, 0, 0) else if c < 224 then (2, c - 192, 128) else if c < 240 then (3, c - 224, 2048) else if c < 248 then (4, c - 240, 65536) else (0, 0, 0)) := by
  unfold refectoryref02_lead.f
  by_cases a1 : c < 128
  · rw [if_pos a1, if_pos a1, w64 (by omega) (by omega)]
  · rw [if_neg a1, if_neg a1]
    by_cases a2 : c < 192
    · rw [if_neg (by omega), if_pos a2]
      show refectoryref02_lead.j0 ((k + 2) + 1) c false = _
      rw [refectoryref02_lead.j0]
      rw [if_neg (by decide), if_neg (by omega)]
      show refectoryref02_lead.j1 ((k + 1) + 1) c false = _
      rw [refectoryref02_lead.j1]
      rw [if_neg (by decide), if_neg (by omega)]
    · rw [if_pos (by omega), if_neg a2]
      show refectoryref02_lead.j0 ((k + 2) + 1) c _ = _
      rw [refectoryref02_lead.j0]
      by_cases a3 : c < 224
      · rw [if_pos (by simpa using a3), if_pos a3, w64 (x := c) (by omega) (by omega), w64 (by omega) (by omega)]
      · rw [if_neg (by simpa using a3), if_neg a3, if_pos (by omega)]
        show refectoryref02_lead.j1 ((k + 1) + 1) c _ = _
        rw [refectoryref02_lead.j1]
        by_cases a4 : c < 240
        · rw [if_pos (by simpa using a4), if_pos a4, w64 (x := c) (by omega) (by omega), w64 (by omega) (by omega)]
        · rw [if_neg (by simpa using a4), if_neg a4, if_pos (by omega)]
          by_cases a5 : c < 248
          · rw [if_pos a5, if_pos a5, w64 (x := c) (by omega) (by omega), w64 (by omega) (by omega)]
          · rw [if_neg a5, if_neg a5]

theorem letter_eq (n : Int) : refectoryref02_Letter.f n = some (decide (0 ≤ n ∧ n ≤ 1114111 ∧ (n < 55296 ∨ 57343 < n))) := by
  unfold refectoryref02_Letter.f
  by_cases a1 : n ≥ 0
  · by_cases a2 : n ≤ 1114111
    · by_cases a3 : n < 55296
      · rw [if_pos a1, if_pos a2, if_pos a3]; simp; omega
      · rw [if_pos a1, if_pos a2, if_neg a3]
        congr 1
        exact decide_eq_decide.2 ⟨fun h => ⟨by omega, by omega, by omega⟩, fun h => by omega⟩
    · rw [if_pos a1, if_neg a2]; simp; omega
  · rw [if_neg a1]; simp; omega

/-- One byte more. -/
theorem more_eq (k : Nat) (s : ByteArray) (at' sz n least i b : Int) (hi : i < sz) (h0 : 0 ≤ at' + i) (h1 : at' + i < s.size) (hs : s.size ≤ 17592186044416) (hb : bt s (at' + i) = b) (hbr : 0 ≤ b ∧ b ≤ 255) (hn : 0 ≤ n ∧ n ≤ 1114112) (hi2 : 0 ≤ i ∧ i ≤ 10) :
    refectoryref02_first.l0 (k + 1) s at' sz n least i = if 128 ≤ b ∧ b < 192 then refectoryref02_first.l0 k s at' sz (64 * n + b - 128) least (i + 1) else some (0, 0) := by
  rw [refectoryref02_first.l0, if_pos hi, w64 (x := at' + i) (by omega) (by omega), if_pos h0, if_pos h1, hb, w64 (x := b) (by omega) (by omega), w64 (x := 64 * n) (by omega) (by omega), w64 (x := 64 * n + b) (by omega) (by omega),
    w64 (x := 64 * n + b - 128) (by omega) (by omega), w64 (x := i + 1) (by omega) (by omega)]
  by_cases a1 : b < 128
  · rw [if_pos a1, if_neg (by omega)]
  · rw [if_neg a1]
    by_cases a2 : b ≥ 192
    · rw [if_pos a2, if_neg (by omega)]
    · rw [if_neg a2, if_pos (by omega)]
theorem last_eq (k : Nat) (s : ByteArray) (at' sz n least i : Int) (hi : ¬ i < sz) :
    refectoryref02_first.l0 (k + 1) s at' sz n least i = if least ≤ n ∧ 0 ≤ n ∧ n ≤ 1114111 ∧ (n < 55296 ∨ 57343 < n) then some (n, sz) else some (0, 0) := by
  rw [refectoryref02_first.l0, if_neg hi, letter_eq]
  by_cases a1 : n < least
  · rw [if_pos a1, if_neg (by omega)]
  · rw [if_neg a1]
    simp only [Option.bind_some]
    by_cases a2 : 0 ≤ n ∧ n ≤ 1114111 ∧ (n < 55296 ∨ 57343 < n)
    · rw [if_pos (by simpa using a2), if_pos ⟨by omega, a2⟩]
    · rw [if_neg (by simpa using a2), if_neg (fun h => a2 h.2)]

def firstOf (D : Nat × Nat) : Int × Int := if D.1 = 65533 ∧ D.2 = 1 then (0, 0) else ((D.1 : Int), (D.2 : Int))

theorem first_unf (k : Nat) (s : ByteArray) (at' a b d c : Int) (h0 : 0 ≤ at') (h1 : at' < s.size) (hc : bt s at' = c) (hl : refectoryref02_lead.f k c = some (a, b, d)) :
    refectoryref02_first.f k s at' = if a = 0 then refectoryref02_first.j0 k s at' a b d true else refectoryref02_first.j0 k s at' a b d (decide (wrap64 (at' + a) > (s.size : Int))) := by
  unfold refectoryref02_first.f
  rw [if_pos h0, if_pos h1, hc, hl]
  rfl
theorem pair_eq {a b c d : Int} (h : a = b) (h' : c = d) : (some (a, c) : Option (Int × Int)) = some (b, d) := by rw [h, h']
theorem firstOf_bad : firstOf (65533, 1) = (0, 0) := rfl
theorem firstOf_good (n w : Nat) (h : ¬ (n = 65533 ∧ w = 1)) : firstOf (n, w) = ((n : Int), (w : Int)) := by unfold firstOf; rw [if_neg h]
set_option maxHeartbeats 4000000 in
theorem first_N1 (k : Nat) (s : ByteArray) (pos b0 b1 b2 b3 n : Nat) (h : pos < s.size) (hs : s.size ≤ 17592186044416) (hn : n = s.size - pos) (h0 : b0 < 256) (h1 : b1 < 256) (h2 : b2 < 256) (h3 : b3 < 256)
    (e0 : bt s pos = b0) (e1 : pos + 1 < s.size → bt s (pos + 1) = b1) (e2 : pos + 2 < s.size → bt s (pos + 2) = b2) (e3 : pos + 3 < s.size → bt s (pos + 3) = b3) (hc : b0 < 128) :
    refectoryref02_first.f (k + 8) s pos = some (firstOf (decodeN n b0 b1 b2 b3)) := by
  have hl := lead_eq (k + 5) (b0 : Int) (by omega) (by omega)
  have a1 : b0 < 128 := hc
  have hd : decodeN n b0 b1 b2 b3 = (b0, 1) := by unfold decodeN; rw [if_pos a1]
  rw [if_pos (by omega)] at hl
  rw [first_unf _ _ _ _ _ _ _ (by omega) (by omega) e0 hl, hd, firstOf_good _ _ (by omega)]
  rw [if_neg (by omega), w64 (x := (pos : Int) + 1) (by omega) (by omega), decide_eq_false (by omega)]
  show refectoryref02_first.j0 ((k + 7) + 1) _ _ _ _ _ _ = _
  rw [refectoryref02_first.j0, if_neg (by decide)]
  show refectoryref02_first.l0 ((k + 6) + 1) _ _ _ _ _ _ = _
  rw [last_eq _ _ _ _ _ _ _ (by omega), if_pos (by omega)]
  rfl

set_option maxHeartbeats 4000000 in
theorem first_N2 (k : Nat) (s : ByteArray) (pos b0 b1 b2 b3 n : Nat) (h : pos < s.size) (hs : s.size ≤ 17592186044416) (hn : n = s.size - pos) (h0 : b0 < 256) (h1 : b1 < 256) (h2 : b2 < 256) (h3 : b3 < 256)
    (e0 : bt s pos = b0) (e1 : pos + 1 < s.size → bt s (pos + 1) = b1) (e2 : pos + 2 < s.size → bt s (pos + 2) = b2) (e3 : pos + 3 < s.size → bt s (pos + 3) = b3) (hc : 128 ≤ b0 ∧ b0 < 192) :
    refectoryref02_first.f (k + 8) s pos = some (firstOf (decodeN n b0 b1 b2 b3)) := by
  have hl := lead_eq (k + 5) (b0 : Int) (by omega) (by omega)
  have a1 : ¬ b0 < 128 := by omega
  rw [if_neg (by omega)] at hl
  have hd : decodeN n b0 b1 b2 b3 = (65533, 1) := by unfold decodeN; rw [if_neg a1, if_neg (by omega), if_neg (by omega), if_neg (by omega)]
  rw [if_pos (by omega)] at hl
  rw [first_unf _ _ _ _ _ _ _ (by omega) (by omega) e0 hl, hd, firstOf_bad]
  rw [if_pos rfl]
  show refectoryref02_first.j0 ((k + 7) + 1) _ _ _ _ _ _ = _
  rw [refectoryref02_first.j0, if_pos rfl]

set_option maxHeartbeats 4000000 in
theorem first_N3 (k : Nat) (s : ByteArray) (pos b0 b1 b2 b3 n : Nat) (h : pos < s.size) (hs : s.size ≤ 17592186044416) (hn : n = s.size - pos) (h0 : b0 < 256) (h1 : b1 < 256) (h2 : b2 < 256) (h3 : b3 < 256)
    (e0 : bt s pos = b0) (e1 : pos + 1 < s.size → bt s (pos + 1) = b1) (e2 : pos + 2 < s.size → bt s (pos + 2) = b2) (e3 : pos + 3 < s.size → bt s (pos + 3) = b3) (hc : 192 ≤ b0 ∧ b0 < 224) :
    refectoryref02_first.f (k + 8) s pos = some (firstOf (decodeN n b0 b1 b2 b3)) := by
  have hl := lead_eq (k + 5) (b0 : Int) (by omega) (by omega)
  have a1 : ¬ b0 < 128 := by omega
  rw [if_neg (by omega)] at hl
  rw [if_neg (by omega)] at hl
  rw [if_pos (by omega)] at hl
  rw [first_unf _ _ _ _ _ _ _ (by omega) (by omega) e0 hl]
  rw [if_neg (by omega), w64 (x := (pos : Int) + 2) (by omega) (by omega)]
  show refectoryref02_first.j0 ((k + 7) + 1) _ _ _ _ _ _ = _
  rw [refectoryref02_first.j0]
  have d3 : ¬ (b0 / 16 = 14 ∧ (1 < n ∧ b1 / 64 = 2) ∧ (2 < n ∧ b2 / 64 = 2)) := by omega
  have d4 : ¬ (b0 / 8 = 30 ∧ (1 < n ∧ b1 / 64 = 2) ∧ (2 < n ∧ b2 / 64 = 2) ∧ (3 < n ∧ b3 / 64 = 2)) := by omega
  by_cases a4 : 1 < n
  · rw [decide_eq_false (by omega), if_neg (by decide)]
    show refectoryref02_first.l0 ((k + 6) + 1) _ _ _ _ _ _ = _
    rw [more_eq _ _ _ _ _ _ _ (b1 : Int) (by omega) (by omega) (by omega) hs (e1 (by omega)) (by omega) (by omega) (by omega)]
    by_cases a5 : 128 ≤ b1 ∧ b1 < 192
    · rw [if_pos (by omega)]
      show refectoryref02_first.l0 ((k + 5) + 1) _ _ _ _ _ _ = _
      by_cases a6 : b0 % 32 * 64 + b1 % 64 ≥ 128
      · have hd : decodeN n b0 b1 b2 b3 = (b0 % 32 * 64 + b1 % 64, 2) := by unfold decodeN; rw [if_neg a1, if_pos (by omega), if_pos a6]
        rw [last_eq _ _ _ _ _ _ _ (by omega), if_pos (by omega), hd, firstOf_good _ _ (by omega)]
        exact pair_eq (by omega) (by omega)
      · have hd : decodeN n b0 b1 b2 b3 = (65533, 1) := by unfold decodeN; rw [if_neg a1, if_pos (by omega), if_neg a6]
        rw [last_eq _ _ _ _ _ _ _ (by omega), if_neg (by omega), hd, firstOf_bad]
    · have hd : decodeN n b0 b1 b2 b3 = (65533, 1) := by unfold decodeN; rw [if_neg a1, if_neg (by omega), if_neg d3, if_neg d4]
      rw [if_neg (by omega), hd, firstOf_bad]
  · have hd : decodeN n b0 b1 b2 b3 = (65533, 1) := by unfold decodeN; rw [if_neg a1, if_neg (by omega), if_neg d3, if_neg d4]
    rw [decide_eq_true (by omega), if_pos rfl, hd, firstOf_bad]

set_option maxHeartbeats 4000000 in
theorem first_N4 (k : Nat) (s : ByteArray) (pos b0 b1 b2 b3 n : Nat) (h : pos < s.size) (hs : s.size ≤ 17592186044416) (hn : n = s.size - pos) (h0 : b0 < 256) (h1 : b1 < 256) (h2 : b2 < 256) (h3 : b3 < 256)
    (e0 : bt s pos = b0) (e1 : pos + 1 < s.size → bt s (pos + 1) = b1) (e2 : pos + 2 < s.size → bt s (pos + 2) = b2) (e3 : pos + 3 < s.size → bt s (pos + 3) = b3) (hc : 224 ≤ b0 ∧ b0 < 240) :
    refectoryref02_first.f (k + 8) s pos = some (firstOf (decodeN n b0 b1 b2 b3)) := by
  have hl := lead_eq (k + 5) (b0 : Int) (by omega) (by omega)
  have a1 : ¬ b0 < 128 := by omega
  have d2 : ¬ (b0 / 32 = 6 ∧ (1 < n ∧ b1 / 64 = 2)) := by omega
  rw [if_neg (by omega)] at hl
  rw [if_neg (by omega)] at hl
  rw [if_neg (by omega)] at hl
  rw [if_pos (by omega)] at hl
  rw [first_unf _ _ _ _ _ _ _ (by omega) (by omega) e0 hl]
  rw [if_neg (by omega), w64 (x := (pos : Int) + 3) (by omega) (by omega)]
  show refectoryref02_first.j0 ((k + 7) + 1) _ _ _ _ _ _ = _
  rw [refectoryref02_first.j0]
  have d4 : ¬ (b0 / 8 = 30 ∧ (1 < n ∧ b1 / 64 = 2) ∧ (2 < n ∧ b2 / 64 = 2) ∧ (3 < n ∧ b3 / 64 = 2)) := by omega
  by_cases a5 : 2 < n
  · rw [decide_eq_false (by omega), if_neg (by decide)]
    show refectoryref02_first.l0 ((k + 6) + 1) _ _ _ _ _ _ = _
    rw [more_eq _ _ _ _ _ _ _ (b1 : Int) (by omega) (by omega) (by omega) hs (e1 (by omega)) (by omega) (by omega) (by omega)]
    by_cases a6 : 128 ≤ b1 ∧ b1 < 192
    · rw [if_pos (by omega)]
      show refectoryref02_first.l0 ((k + 5) + 1) _ _ _ _ _ _ = _
      rw [more_eq _ _ _ _ _ _ _ (b2 : Int) (by omega) (by omega) (by omega) hs (by rw [show ((pos : Int) + (1 + 1)) = (pos : Int) + 2 from by omega]; exact e2 (by omega)) (by omega) (by omega) (by omega)]
      by_cases a7 : 128 ≤ b2 ∧ b2 < 192
      · rw [if_pos (by omega)]
        show refectoryref02_first.l0 ((k + 4) + 1) _ _ _ _ _ _ = _
        by_cases a8 : b0 % 16 * 4096 + b1 % 64 * 64 + b2 % 64 ≥ 2048 ∧ (b0 % 16 * 4096 + b1 % 64 * 64 + b2 % 64 < 55296 ∨ (57344 ≤ b0 % 16 * 4096 + b1 % 64 * 64 + b2 % 64 ∧ b0 % 16 * 4096 + b1 % 64 * 64 + b2 % 64 ≤ 1114111))
        · have hd : decodeN n b0 b1 b2 b3 = (b0 % 16 * 4096 + b1 % 64 * 64 + b2 % 64, 3) := by unfold decodeN; rw [if_neg a1, if_neg d2, if_pos (by omega), if_pos a8]
          rw [last_eq _ _ _ _ _ _ _ (by omega), if_pos (by omega), hd, firstOf_good _ _ (by omega)]
          exact pair_eq (by omega) (by omega)
        · have hd : decodeN n b0 b1 b2 b3 = (65533, 1) := by unfold decodeN; rw [if_neg a1, if_neg d2, if_pos (by omega), if_neg a8]
          rw [last_eq _ _ _ _ _ _ _ (by omega), if_neg (by omega), hd, firstOf_bad]
      · have hd : decodeN n b0 b1 b2 b3 = (65533, 1) := by unfold decodeN; rw [if_neg a1, if_neg d2, if_neg (by omega), if_neg d4]
        rw [if_neg (by omega), hd, firstOf_bad]
    · have hd : decodeN n b0 b1 b2 b3 = (65533, 1) := by unfold decodeN; rw [if_neg a1, if_neg d2, if_neg (by omega), if_neg d4]
      rw [if_neg (by omega), hd, firstOf_bad]
  · have hd : decodeN n b0 b1 b2 b3 = (65533, 1) := by unfold decodeN; rw [if_neg a1, if_neg d2, if_neg (by omega), if_neg d4]
    rw [decide_eq_true (by omega), if_pos rfl, hd, firstOf_bad]

set_option maxHeartbeats 4000000 in
theorem first_N5 (k : Nat) (s : ByteArray) (pos b0 b1 b2 b3 n : Nat) (h : pos < s.size) (hs : s.size ≤ 17592186044416) (hn : n = s.size - pos) (h0 : b0 < 256) (h1 : b1 < 256) (h2 : b2 < 256) (h3 : b3 < 256)
    (e0 : bt s pos = b0) (e1 : pos + 1 < s.size → bt s (pos + 1) = b1) (e2 : pos + 2 < s.size → bt s (pos + 2) = b2) (e3 : pos + 3 < s.size → bt s (pos + 3) = b3) (hc : 240 ≤ b0 ∧ b0 < 248) :
    refectoryref02_first.f (k + 8) s pos = some (firstOf (decodeN n b0 b1 b2 b3)) := by
  have hl := lead_eq (k + 5) (b0 : Int) (by omega) (by omega)
  have a1 : ¬ b0 < 128 := by omega
  have d2 : ¬ (b0 / 32 = 6 ∧ (1 < n ∧ b1 / 64 = 2)) := by omega
  have d3 : ¬ (b0 / 16 = 14 ∧ (1 < n ∧ b1 / 64 = 2) ∧ (2 < n ∧ b2 / 64 = 2)) := by omega
  rw [if_neg (by omega)] at hl
  rw [if_neg (by omega)] at hl
  rw [if_neg (by omega)] at hl
  rw [if_neg (by omega)] at hl
  rw [if_pos (by omega)] at hl
  rw [first_unf _ _ _ _ _ _ _ (by omega) (by omega) e0 hl]
  rw [if_neg (by omega), w64 (x := (pos : Int) + 4) (by omega) (by omega)]
  show refectoryref02_first.j0 ((k + 7) + 1) _ _ _ _ _ _ = _
  rw [refectoryref02_first.j0]
  by_cases a6 : 3 < n
  · rw [decide_eq_false (by omega), if_neg (by decide)]
    show refectoryref02_first.l0 ((k + 6) + 1) _ _ _ _ _ _ = _
    rw [more_eq _ _ _ _ _ _ _ (b1 : Int) (by omega) (by omega) (by omega) hs (e1 (by omega)) (by omega) (by omega) (by omega)]
    by_cases a7 : 128 ≤ b1 ∧ b1 < 192
    · rw [if_pos (by omega)]
      show refectoryref02_first.l0 ((k + 5) + 1) _ _ _ _ _ _ = _
      rw [more_eq _ _ _ _ _ _ _ (b2 : Int) (by omega) (by omega) (by omega) hs (by rw [show ((pos : Int) + (1 + 1)) = (pos : Int) + 2 from by omega]; exact e2 (by omega)) (by omega) (by omega) (by omega)]
      by_cases a8 : 128 ≤ b2 ∧ b2 < 192
      · rw [if_pos (by omega)]
        show refectoryref02_first.l0 ((k + 4) + 1) _ _ _ _ _ _ = _
        rw [more_eq _ _ _ _ _ _ _ (b3 : Int) (by omega) (by omega) (by omega) hs (by rw [show ((pos : Int) + (1 + 1 + 1)) = (pos : Int) + 3 from by omega]; exact e3 (by omega)) (by omega) (by omega) (by omega)]
        by_cases a9 : 128 ≤ b3 ∧ b3 < 192
        · rw [if_pos (by omega)]
          show refectoryref02_first.l0 ((k + 3) + 1) _ _ _ _ _ _ = _
          by_cases a10 : b0 % 8 * 262144 + b1 % 64 * 4096 + b2 % 64 * 64 + b3 % 64 ≥ 65536 ∧ (b0 % 8 * 262144 + b1 % 64 * 4096 + b2 % 64 * 64 + b3 % 64 < 55296 ∨ (57344 ≤ b0 % 8 * 262144 + b1 % 64 * 4096 + b2 % 64 * 64 + b3 % 64 ∧ b0 % 8 * 262144 + b1 % 64 * 4096 + b2 % 64 * 64 + b3 % 64 ≤ 1114111))
          · have hd : decodeN n b0 b1 b2 b3 = (b0 % 8 * 262144 + b1 % 64 * 4096 + b2 % 64 * 64 + b3 % 64, 4) := by unfold decodeN; rw [if_neg a1, if_neg d2, if_neg d3, if_pos (by omega), if_pos a10]
            rw [last_eq _ _ _ _ _ _ _ (by omega), if_pos (by omega), hd, firstOf_good _ _ (by omega)]
            exact pair_eq (by omega) (by omega)
          · have hd : decodeN n b0 b1 b2 b3 = (65533, 1) := by unfold decodeN; rw [if_neg a1, if_neg d2, if_neg d3, if_pos (by omega), if_neg a10]
            rw [last_eq _ _ _ _ _ _ _ (by omega), if_neg (by omega), hd, firstOf_bad]
        · have hd : decodeN n b0 b1 b2 b3 = (65533, 1) := by unfold decodeN; rw [if_neg a1, if_neg d2, if_neg d3, if_neg (by omega)]
          rw [if_neg (by omega), hd, firstOf_bad]
      · have hd : decodeN n b0 b1 b2 b3 = (65533, 1) := by unfold decodeN; rw [if_neg a1, if_neg d2, if_neg d3, if_neg (by omega)]
        rw [if_neg (by omega), hd, firstOf_bad]
    · have hd : decodeN n b0 b1 b2 b3 = (65533, 1) := by unfold decodeN; rw [if_neg a1, if_neg d2, if_neg d3, if_neg (by omega)]
      rw [if_neg (by omega), hd, firstOf_bad]
  · have hd : decodeN n b0 b1 b2 b3 = (65533, 1) := by unfold decodeN; rw [if_neg a1, if_neg d2, if_neg d3, if_neg (by omega)]
    rw [decide_eq_true (by omega), if_pos rfl, hd, firstOf_bad]

set_option maxHeartbeats 4000000 in
theorem first_N6 (k : Nat) (s : ByteArray) (pos b0 b1 b2 b3 n : Nat) (h : pos < s.size) (hs : s.size ≤ 17592186044416) (hn : n = s.size - pos) (h0 : b0 < 256) (h1 : b1 < 256) (h2 : b2 < 256) (h3 : b3 < 256)
    (e0 : bt s pos = b0) (e1 : pos + 1 < s.size → bt s (pos + 1) = b1) (e2 : pos + 2 < s.size → bt s (pos + 2) = b2) (e3 : pos + 3 < s.size → bt s (pos + 3) = b3) (hc : 248 ≤ b0) :
    refectoryref02_first.f (k + 8) s pos = some (firstOf (decodeN n b0 b1 b2 b3)) := by
  have hl := lead_eq (k + 5) (b0 : Int) (by omega) (by omega)
  have a1 : ¬ b0 < 128 := by omega
  have d2 : ¬ (b0 / 32 = 6 ∧ (1 < n ∧ b1 / 64 = 2)) := by omega
  have d3 : ¬ (b0 / 16 = 14 ∧ (1 < n ∧ b1 / 64 = 2) ∧ (2 < n ∧ b2 / 64 = 2)) := by omega
  rw [if_neg (by omega)] at hl
  rw [if_neg (by omega)] at hl
  rw [if_neg (by omega)] at hl
  rw [if_neg (by omega)] at hl
  have hd : decodeN n b0 b1 b2 b3 = (65533, 1) := by unfold decodeN; rw [if_neg a1, if_neg d2, if_neg d3, if_neg (by omega)]
  rw [if_neg (by omega)] at hl
  rw [first_unf _ _ _ _ _ _ _ (by omega) (by omega) e0 hl, hd, firstOf_bad]
  rw [if_pos rfl]
  show refectoryref02_first.j0 ((k + 7) + 1) _ _ _ _ _ _ = _
  rw [refectoryref02_first.j0, if_pos rfl]

theorem first_N (k : Nat) (s : ByteArray) (pos b0 b1 b2 b3 n : Nat) (h : pos < s.size) (hs : s.size ≤ 17592186044416) (hn : n = s.size - pos) (h0 : b0 < 256) (h1 : b1 < 256) (h2 : b2 < 256) (h3 : b3 < 256)
    (e0 : bt s pos = b0) (e1 : pos + 1 < s.size → bt s (pos + 1) = b1) (e2 : pos + 2 < s.size → bt s (pos + 2) = b2) (e3 : pos + 3 < s.size → bt s (pos + 3) = b3) :
    refectoryref02_first.f (k + 8) s pos = some (firstOf (decodeN n b0 b1 b2 b3)) := by
  by_cases a1 : b0 < 128
  · exact first_N1 k s pos b0 b1 b2 b3 n h hs hn h0 h1 h2 h3 e0 e1 e2 e3 a1
  · by_cases a2 : b0 < 192
    · exact first_N2 k s pos b0 b1 b2 b3 n h hs hn h0 h1 h2 h3 e0 e1 e2 e3 ⟨by omega, a2⟩
    · by_cases a3 : b0 < 224
      · exact first_N3 k s pos b0 b1 b2 b3 n h hs hn h0 h1 h2 h3 e0 e1 e2 e3 ⟨by omega, a3⟩
      · by_cases a4 : b0 < 240
        · exact first_N4 k s pos b0 b1 b2 b3 n h hs hn h0 h1 h2 h3 e0 e1 e2 e3 ⟨by omega, a4⟩
        · by_cases a5 : b0 < 248
          · exact first_N5 k s pos b0 b1 b2 b3 n h hs hn h0 h1 h2 h3 e0 e1 e2 e3 ⟨by omega, a5⟩
          · exact first_N6 k s pos b0 b1 b2 b3 n h hs hn h0 h1 h2 h3 e0 e1 e2 e3 (by omega)

theorem bt_drop (s : ByteArray) (pos i : Nat) (h : pos + i < s.size) : bt s ((pos + i : Nat) : Int) = (((s.data.toList.drop pos).getD i 0).toNat : Int) := by
  have e : ((pos + i : Nat) : Int).toNat = pos + i := Int.toNat_natCast _
  unfold bt
  rw [dif_pos (by rw [e]; exact h), getD_dropU]
  congr 2
  simp only [e]
  rw [List.getD_eq_getElem?_getD, List.getElem?_eq_getElem (by rw [← size_eq]; exact h)]
  rfl
theorem first_eq (k : Nat) (s : ByteArray) (pos : Nat) (h : pos < s.size) (hs : s.size ≤ 17592186044416) :
    refectoryref02_first.f (k + 8) s pos = some (firstOf (decodeL (s.data.toList.drop pos))) := by
  rw [decodeL_N]
  refine first_N k s pos _ _ _ _ _ h hs (by rw [List.length_drop, ← size_eq]) (UInt8.toNat_lt _) (UInt8.toNat_lt _) (UInt8.toNat_lt _) (UInt8.toNat_lt _) ?_ ?_ ?_ ?_
  · have := bt_drop s pos 0 (by omega); simpa using this
  · intro hp; have := bt_drop s pos 1 hp; simpa using this
  · intro hp; have := bt_drop s pos 2 hp; simpa using this
  · intro hp; have := bt_drop s pos 3 hp; simpa using this

/-- The reference's letters. -/
def lnums (l : List UInt8) : List Int := (letters l).map fun n : Nat => (n : Int)
theorem letters_l0 (s : ByteArray) (hs : s.size ≤ 17592186044415) : ∀ (d k pos : Nat) (acc : List Int) (is : Bool), s.size - pos ≤ d → pos ≤ s.size → acc.length ≤ pos → d + 9 ≤ k →
    refectoryref02_Letters.l0 k s acc is pos = some (acc ++ lnums (s.data.toList.drop pos), is && valid (s.data.toList.drop pos)) := by
  intro d
  induction d with
  | zero =>
    intro k pos acc is hd hp ha hk
    obtain ⟨k, rfl⟩ : ∃ m, k = m + 1 := ⟨k - 1, by omega⟩
    have he : s.data.toList.drop pos = [] := List.drop_eq_nil_of_le (by rw [← size_eq]; omega)
    rw [refectoryref02_Letters.l0, if_neg (by omega), he]
    simp [lnums, letters_nil, valid, validD_nil]
  | succ d ih =>
    intro k pos acc is hd hp ha hk
    obtain ⟨k, rfl⟩ : ∃ m, k = m + 1 := ⟨k - 1, by omega⟩
    by_cases hlt : pos < s.size
    · obtain ⟨k', hk'⟩ : ∃ m, k = m + 8 := ⟨k - 8, by omega⟩
      have hne : s.data.toList.drop pos ≠ [] := by
        intro h0
        have := congrArg List.length h0
        rw [List.length_drop, ← size_eq] at this
        simp at this
        omega
      have hw := decodeL_width (s.data.toList.drop pos)
      have hwl := decodeL_le (s.data.toList.drop pos) hne
      rw [List.length_drop, ← size_eq] at hwl
      rw [refectoryref02_Letters.l0, if_pos (by omega), hk', first_eq k' s pos hlt (by omega), ← hk']
      simp only [Option.bind_some]
      rcases hD : decodeL (s.data.toList.drop pos) with ⟨r, wd⟩
      rw [hD] at hw hwl
      dsimp only at hw hwl
      by_cases hb : r = 65533 ∧ wd = 1
      · obtain ⟨rfl, rfl⟩ := hb
        have hbt := bt_drop s pos 0 (by omega)
        rw [Nat.add_zero] at hbt
        have h255 := ((s.data.toList.drop pos).getD 0 0).toNat_lt
        have hv : valid (s.data.toList.drop pos) = false := by rw [valid_step _ hne, if_pos (by unfold Bad; rw [hD]; exact ⟨rfl, rfl⟩)]
        have hl : lnums (s.data.toList.drop pos) = ((1114112 + ((s.data.toList.drop pos).getD 0 0).toNat : Nat) : Int) :: lnums (s.data.toList.drop (pos + 1)) := by
          unfold lnums
          rw [letters_step _ hne, letter1_bad hD, hD, List.drop_drop, List.map_cons]
          congr 3
          rcases s.data.toList.drop pos with _ | ⟨a, t⟩ <;> rfl
        rw [show firstOf (65533, 1) = (0, 0) from rfl]
        dsimp only
        rw [if_pos rfl, if_pos (by omega), if_pos (by omega), hbt, w64 (x := (((s.data.toList.drop pos).getD 0 0).toNat : Int)) (by omega) (by omega), w64 (x := 1114112 + _) (by omega) (by omega), w64 (x := (pos : Int) + 1) (by omega) (by omega)]
        rw [show ((pos : Int) + 1) = ((pos + 1 : Nat) : Int) from rfl, ih k (pos + 1) _ false (by omega) (by omega) (by simp; omega) (by omega), hv, hl]
        simp
      · have hv : valid (s.data.toList.drop pos) = valid (s.data.toList.drop (pos + wd)) := by rw [valid_step _ hne, if_neg (by unfold Bad; rw [hD]; exact hb), hD, List.drop_drop]
        have hl : lnums (s.data.toList.drop pos) = (r : Int) :: lnums (s.data.toList.drop (pos + wd)) := by
          unfold lnums
          rw [letters_step _ hne, letter1_good hD hb, hD, List.drop_drop]
          rfl
        have hf : firstOf (r, wd) = ((r : Int), (wd : Int)) := by unfold firstOf; rw [if_neg hb]
        rw [hf]
        dsimp only
        rw [if_neg (by omega), if_pos (by omega), w64 (by omega) (by omega)]
        rw [show ((pos : Int) + (wd : Int)) = ((pos + wd : Nat) : Int) from by omega, ih k (pos + wd) _ is (by omega) (by omega) (by simp; omega) (by omega), hv, hl]
        simp
    · have he : s.data.toList.drop pos = [] := List.drop_eq_nil_of_le (by rw [← size_eq]; omega)
      rw [refectoryref02_Letters.l0, if_neg (by omega), he]
      simp [lnums, letters_nil, valid, validD_nil]
theorem Letters_eq (s : ByteArray) (hs : s.size ≤ 17592186044415) (k : Nat) (hk : s.size + 9 ≤ k) : refectoryref02_Letters.f k s = some (lnums s.data.toList, valid s.data.toList) := by
  unfold refectoryref02_Letters.f
  have := letters_l0 s hs s.size k 0 [] true (by omega) (by omega) (by simp) hk
  simpa using this
end Go.Proofs.YtlmadihedejaaaaDoor.U
/- Names and paths, in plain words; their laws. -/
set_option linter.unusedVariables false
set_option linter.unusedSimpArgs false
namespace Go.Proofs.YtlmadihedejaaaaDoor.U
open Go.Lib

/-! ### Names -/
def barN (n : Nat) : Bool := n == 92 || n == 47 || n == 58 || n == 42 || n == 63 || n == 34 || n == 60 || n == 62 || n == 124
/-- Letters gone over, so many of them, the last one; the rest. -/
def nmL : Nat → Nat → List Nat → Bool
  | k, last, [] => decide (0 < k) && decide (k ≤ 32) && decide (last ≠ 32) && decide (last ≠ 46)
  | k, last, c :: t => if barN c then false else if c < 32 then false else nmL (k + 1) c t
def nameB (l : List UInt8) : Bool := valid l && nmL 0 0 (letters l)
def okN (n : Nat) : Bool := !barN n && !decide (n < 32)
theorem nmL_eq : ∀ (ns : List Nat) (k last : Nat), nmL k last ns = (ns.all okN && decide (0 < k + ns.length) && decide (k + ns.length ≤ 32) && decide (ns.getLastD last ≠ 32) && decide (ns.getLastD last ≠ 46)) := by
  intro ns
  induction ns with
  | nil => intro k last; rfl
  | cons c t ih =>
    intro k last
    rw [nmL, List.all_cons]
    have hg : (c :: t).getLastD last = t.getLastD c := by cases t <;> rfl
    rw [hg, show okN c = (!barN c && !decide (c < 32)) from rfl]
    cases hb : barN c with
    | true => simp
    | false =>
      by_cases h32 : c < 32
      · simp [h32]
      · rw [if_neg (by simp), if_neg h32, ih]
        rw [show k + 1 + t.length = k + (c :: t).length from by rw [List.length_cons]; omega]
        simp [h32]
theorem nameB_eq (l : List UInt8) : nameB l = (valid l && ((letters l).all okN && decide (1 ≤ (letters l).length) && decide ((letters l).length ≤ 32) && decide ((letters l).getLastD 0 ≠ 32) && decide ((letters l).getLastD 0 ≠ 46))) := by
  unfold nameB
  rw [nmL_eq, Nat.zero_add]
  rfl
theorem nameB_valid {l : List UInt8} (h : nameB l = true) : valid l = true := by
  unfold nameB at h
  rw [Bool.and_eq_true] at h
  exact h.1
theorem nameB_ne {l : List UInt8} (h : nameB l = true) : l ≠ [] := by
  rintro rfl
  revert h
  decide +kernel
theorem enc_byte (n : Nat) (hn : IsLetter n) (c : UInt8) (hc : c.toNat < 128) (h : c ∈ enc n) : n = c.toNat := by
  have key : ∀ k : Nat, k < 256 → c = UInt8.ofNat k → c.toNat = k := by
    intro k hk e
    rw [e, UInt8.toNat_ofNat', Nat.mod_eq_of_lt hk]
  unfold IsLetter at hn
  unfold enc at h
  split at h
  · exact (key _ (by omega) (List.mem_singleton.1 h)).symm
  · split at h
    · simp only [List.mem_cons, List.not_mem_nil, or_false] at h
      rcases h with h | h <;> have := key _ (by omega) h <;> omega
    · split at h
      · simp only [List.mem_cons, List.not_mem_nil, or_false] at h
        rcases h with h | h | h <;> have := key _ (by omega) h <;> omega
      · split at h
        · simp only [List.mem_cons, List.not_mem_nil, or_false] at h
          rcases h with h | h | h | h <;> have := key _ (by omega) h <;> omega
        · omega
theorem mem_letters {l : List UInt8} (hv : valid l = true) (c : UInt8) (hc : c.toNat < 128) (h : c ∈ l) : c.toNat ∈ letters l := by
  rw [← enc_letters l] at h
  obtain ⟨n, hn, hm⟩ := List.mem_flatMap.1 h
  rw [← enc_byte n ((valid_iff l).1 hv n hn) c hc hm]
  exact hn
theorem nameB_no92 {l : List UInt8} (h : nameB l = true) : (92 : UInt8) ∉ l := by
  intro hm
  have hv := nameB_valid h
  have h2 := mem_letters hv 92 (by decide) hm
  rw [nameB_eq] at h
  simp only [Bool.and_eq_true, List.all_eq_true] at h
  have := h.2.1.1.1.1 _ h2
  revert this
  decide
theorem barN_fold (c : Nat) : barN (foldN c) = barN c := by
  unfold foldN
  split
  · unfold barN
    rw [Bool.eq_iff_iff]
    simp
    omega
  · rfl
theorem fold_lt (c : Nat) : foldN c < 32 ↔ c < 32 := by unfold foldN; split <;> omega
theorem fold_is {c k : Nat} (hk : k < 65) : foldN c = k ↔ c = k := by unfold foldN; split <;> omega
theorem nmL_fold : ∀ (ns : List Nat) (k last : Nat), nmL k (foldN last) (ns.map foldN) = nmL k last ns := by
  intro ns
  induction ns with
  | nil =>
    intro k last
    show (decide (0 < k) && decide (k ≤ 32) && decide (foldN last ≠ 32) && decide (foldN last ≠ 46)) = (decide (0 < k) && decide (k ≤ 32) && decide (last ≠ 32) && decide (last ≠ 46))
    rw [decide_eq_decide.2 (not_congr (fold_is (c := last) (k := 32) (by omega))), decide_eq_decide.2 (not_congr (fold_is (c := last) (k := 46) (by omega)))]
  | cons c t ih =>
    intro k last
    rw [List.map_cons, nmL, nmL, barN_fold, ih]
    simp only [fold_lt]
theorem nameB_fold (l : List UInt8) : nameB (fold l) = nameB l := by
  unfold nameB
  rw [valid_fold, letters_fold]
  have := nmL_fold (letters l) 0 0
  rw [show foldN 0 = 0 from rfl] at this
  rw [this]

/-! ### Parts -/
def parts : List UInt8 → List (List UInt8)
  | [] => [[]]
  | b :: t => if b = 92 then [] :: parts t else match parts t with
    | [] => [[b]]
    | p :: r => (b :: p) :: r
def jn : List (List UInt8) → List UInt8
  | [] => []
  | [x] => x
  | x :: y :: r => x ++ 92 :: jn (y :: r)
theorem parts_ne : ∀ l : List UInt8, ∃ p r, parts l = p :: r := by
  intro l
  cases l with
  | nil => exact ⟨[], [], rfl⟩
  | cons b t =>
    rw [parts]
    split
    · exact ⟨_, _, rfl⟩
    · split
      · exact ⟨_, _, rfl⟩
      · exact ⟨_, _, rfl⟩
theorem parts_cons {b : UInt8} (hb : b ≠ 92) {t p : List UInt8} {r : List (List UInt8)} (h : parts t = p :: r) : parts (b :: t) = (b :: p) :: r := by
  rw [parts, if_neg hb, h]
theorem parts_sep (t : List UInt8) : parts (92 :: t) = [] :: parts t := by rw [parts, if_pos rfl]
theorem jn_head (b : UInt8) (p : List UInt8) (r : List (List UInt8)) : jn ((b :: p) :: r) = b :: jn (p :: r) := by cases r <;> rfl
theorem jn_parts : ∀ l : List UInt8, jn (parts l) = l := by
  intro l
  induction l with
  | nil => rfl
  | cons b t ih =>
    obtain ⟨p, r, h⟩ := parts_ne t
    by_cases hb : b = 92
    · subst hb
      rw [parts_sep, h]
      rw [h] at ih
      show 92 :: jn (p :: r) = _
      rw [ih]
    · rw [parts_cons hb h, jn_head]
      rw [h] at ih
      rw [ih]
theorem parts_app : ∀ (a t : List UInt8), (92 : UInt8) ∉ a → ∀ p r, parts t = p :: r → parts (a ++ t) = (a ++ p) :: r := by
  intro a
  induction a with
  | nil => intro t _ p r h; exact h
  | cons b a ih =>
    intro t hn p r h
    rw [List.mem_cons, not_or] at hn
    exact parts_cons (fun e => hn.1 e.symm) (ih t hn.2 p r h)
theorem parts_no (a : List UInt8) (h : (92 : UInt8) ∉ a) : parts a = [a] := by
  have := parts_app a [] h [] [] rfl
  rwa [List.append_nil] at this
theorem parts_cut (a t : List UInt8) (h : (92 : UInt8) ∉ a) : parts (a ++ 92 :: t) = a :: parts t := by
  have := parts_app a (92 :: t) h [] (parts t) (parts_sep t)
  rwa [List.append_nil] at this
theorem parts_jn : ∀ xs : List (List UInt8), xs ≠ [] → (∀ x ∈ xs, (92 : UInt8) ∉ x) → parts (jn xs) = xs := by
  intro xs
  induction xs with
  | nil => intro h; exact absurd rfl h
  | cons x r ih =>
    intro _ h
    have hx := h x List.mem_cons_self
    cases r with
    | nil => exact parts_no x hx
    | cons y r =>
      show parts (x ++ 92 :: jn (y :: r)) = _
      rw [parts_cut x _ hx, ih (by simp) fun z hz => h z (List.mem_cons_of_mem _ hz)]
theorem parts_mem : ∀ (l : List UInt8), ∀ x ∈ parts l, (92 : UInt8) ∉ x ∧ x.length ≤ l.length := by
  intro l
  induction l with
  | nil =>
    intro x hx
    rw [show parts [] = [[]] from rfl, List.mem_singleton] at hx
    subst hx
    exact ⟨by simp, Nat.le_refl _⟩
  | cons b t ih =>
    obtain ⟨p, r, h⟩ := parts_ne t
    intro x hx
    by_cases hb : b = 92
    · subst hb
      rw [parts_sep] at hx
      rcases List.mem_cons.1 hx with rfl | hx
      · exact ⟨by simp, by simp⟩
      · have := ih x hx
        exact ⟨this.1, by rw [List.length_cons]; omega⟩
    · rw [parts_cons hb h] at hx
      rw [h] at ih
      rcases List.mem_cons.1 hx with rfl | hx
      · have := ih p List.mem_cons_self
        refine ⟨?_, by rw [List.length_cons, List.length_cons]; omega⟩
        rw [List.mem_cons, not_or]
        exact ⟨fun e => hb e.symm, this.1⟩
      · have := ih x (List.mem_cons_of_mem _ hx)
        exact ⟨this.1, by rw [List.length_cons]; omega⟩
theorem parts_count : ∀ (l : List UInt8), (parts l).length = l.count 92 + 1 := by
  intro l
  induction l with
  | nil => rfl
  | cons b t ih =>
    obtain ⟨p, r, h⟩ := parts_ne t
    by_cases hb : b = 92
    · subst hb
      rw [parts_sep, List.length_cons, ih, List.count_cons_self]
    · rw [parts_cons hb h, List.count_cons_of_ne hb]
      rw [h] at ih
      exact ih
theorem foldB_sep (b : UInt8) : foldB b = 92 ↔ b = 92 := by
  constructor
  · intro e
    have := congrArg UInt8.toNat e
    rw [foldB_nat] at this
    apply UInt8.toNat_inj.1
    rw [show (92 : UInt8).toNat = 92 from rfl] at this ⊢
    unfold foldN at this
    split at this <;> omega
  · rintro rfl; rfl
theorem parts_fold : ∀ l : List UInt8, parts (fold l) = (parts l).map fold := by
  intro l
  induction l with
  | nil => rfl
  | cons b t ih =>
    obtain ⟨p, r, h⟩ := parts_ne t
    show parts (foldB b :: fold t) = _
    by_cases hb : b = 92
    · subst hb
      rw [show foldB 92 = 92 from rfl, parts_sep, parts_sep, ih]
      rfl
    · rw [h] at ih
      rw [parts_cons hb h, parts_cons (fun e => hb ((foldB_sep b).1 e)) ih]
      rfl
theorem indexByte_at : ∀ (a t : List UInt8), (92 : UInt8) ∉ a → Lib.indexByte (a ++ 92 :: t) 92 = a.length := by
  intro a
  induction a with
  | nil => intro t _; rfl
  | cons b a ih =>
    intro t h
    rw [List.mem_cons, not_or] at h
    have hb : ¬ (b == 92) = true := fun e => h.1 (beq_iff_eq.1 e).symm
    have hi := ih t h.2
    rw [List.cons_append, Lib.indexByte, if_neg hb, hi, if_neg (by simp), List.length_cons]
    omega
theorem splitK_parts : ∀ (k : Nat) (l : List UInt8), l.count 92 = k → Lib.splitK [92] 0 k l = parts l := by
  intro k
  induction k with
  | zero =>
    intro l h
    rw [Lib.splitK, parts_no l (fun hm => by rw [List.count_eq_zero] at h; exact h hm)]
  | succ k ih =>
    intro l h
    have hm : (92 : UInt8) ∈ l := List.count_pos_iff.1 (by omega)
    obtain ⟨a, t, rfl, ha⟩ := List.eq_append_cons_of_mem hm
    have hc : t.count 92 = k := by
      rw [List.count_append, List.count_cons_self, List.count_eq_zero.2 ha] at h
      omega
    have hi : Lib.index (a ++ 92 :: t) [92] = a.length := by rw [Lib.index_one, indexByte_at a t ha]
    rw [Lib.splitK, hi, if_neg (by simp), parts_cut a t ha, Int.toNat_natCast]
    rw [show (a ++ 92 :: t).take (a.length + 0) = a from by simp]
    rw [show (a ++ 92 :: t).drop (a.length + [(92 : UInt8)].length) = t from by simp [List.drop_append], ih t hc]
theorem join_jn : ∀ xs : List (List UInt8), Lib.join xs [92] = jn xs := by
  intro xs
  cases xs with
  | nil => rfl
  | cons x r =>
    rw [Lib.join_cons]
    induction r generalizing x with
    | nil => simp [Lib.joinTail, jn]
    | cons y r ih =>
      show x ++ Lib.joinTail [92] (y :: r) = x ++ 92 :: jn (y :: r)
      rw [← ih y]
      simp [Lib.joinTail]
theorem jn_length : ∀ (xs : List (List UInt8)) (m : Nat), (∀ x ∈ xs, x.length ≤ m) → (jn xs).length ≤ xs.length * (m + 1) := by
  intro xs m
  induction xs with
  | nil => intro _; simp [jn]
  | cons x r ih =>
    intro h
    have hx := h x List.mem_cons_self
    have hr := ih fun z hz => h z (List.mem_cons_of_mem _ hz)
    cases r with
    | nil => simp [jn]; omega
    | cons y r =>
      show (x ++ 92 :: jn (y :: r)).length ≤ _
      rw [List.length_append, List.length_cons, List.length_cons]
      rw [Nat.add_mul]
      omega

/-! ### Paths -/
def parseE (l : List UInt8) : Int := if l = [] then 0 else if (parts l).all nameB then (if (parts l).length ≤ 8 then 0 else 3) else 2
def parseL (l : List UInt8) : List (List UInt8) := if l = [] ∨ parseE l ≠ 0 then [] else parts l
def joinE (xs : List (List UInt8)) : Int := if xs.all nameB then (if xs.length ≤ 8 then 0 else 3) else 2
def joinS (xs : List (List UInt8)) : List UInt8 := if joinE xs = 0 then jn xs else []
theorem parse_nil : parseE [] = 0 ∧ parseL [] = [] := ⟨rfl, rfl⟩
theorem parse_cases (l : List UInt8) : parseE l = 0 ∨ parseE l = 2 ∨ parseE l = 3 := by
  unfold parseE
  split
  · exact .inl rfl
  · split
    · split
      · exact .inl rfl
      · exact .inr (.inr rfl)
    · exact .inr (.inl rfl)
theorem join_cases (l : List (List UInt8)) : joinE l = 0 ∨ joinE l = 2 ∨ joinE l = 3 := by
  unfold joinE
  split
  · split
    · exact .inl rfl
    · exact .inr (.inr rfl)
  · exact .inr (.inl rfl)
theorem parse_ok {l : List UInt8} (h : parseE l = 0) : (parseL l).all nameB = true ∧ (parseL l).length ≤ 8 ∧ jn (parseL l) = l ∧ (l ≠ [] → parseL l = parts l ∧ parseL l ≠ []) := by
  by_cases h0 : l = []
  · subst h0
    exact ⟨rfl, by decide, rfl, fun e => absurd rfl e⟩
  · have e : parseL l = parts l := by unfold parseL; rw [if_neg (by rintro (h1 | h1); exact h0 h1; exact h1 h)]
    unfold parseE at h
    rw [if_neg h0] at h
    split at h
    · rename_i ha
      split at h
      · rename_i hl
        rw [e]
        refine ⟨ha, hl, jn_parts l, fun _ => ⟨rfl, ?_⟩⟩
        obtain ⟨p, r, hp⟩ := parts_ne l
        rw [hp]
        simp
      · cases h
    · cases h
theorem jn_ne {xs : List (List UInt8)} (h : xs ≠ []) (hx : ∀ x ∈ xs, x ≠ []) : jn xs ≠ [] := by
  cases xs with
  | nil => exact absurd rfl h
  | cons x r =>
    have := hx x List.mem_cons_self
    cases r with
    | nil => exact this
    | cons y r =>
      show x ++ _ ≠ []
      intro e
      exact this (List.append_eq_nil_iff.1 e).1
theorem parse_jn {xs : List (List UInt8)} (h : joinE xs = 0) : parseE (jn xs) = 0 ∧ parseL (jn xs) = xs := by
  unfold joinE at h
  split at h
  · rename_i ha
    split at h
    · rename_i hl
      by_cases h0 : xs = []
      · subst h0; exact ⟨rfl, rfl⟩
      · have ha' := List.all_eq_true.1 ha
        have hne : jn xs ≠ [] := jn_ne h0 fun x hx => nameB_ne (ha' x hx)
        have hp : parts (jn xs) = xs := parts_jn xs h0 fun x hx => nameB_no92 (ha' x hx)
        have e : parseE (jn xs) = 0 := by
          unfold parseE
          rw [if_neg hne, hp, if_pos ha, if_pos hl]
        refine ⟨e, ?_⟩
        unfold parseL
        rw [if_neg (by rintro (h1 | h1); exact hne h1; exact h1 e), hp]
    · cases h
  · cases h
theorem join_parse {l : List UInt8} (h : parseE l = 0) : joinE (parseL l) = 0 ∧ joinS (parseL l) = l := by
  obtain ⟨h1, h2, h3, _⟩ := parse_ok h
  have e : joinE (parseL l) = 0 := by unfold joinE; rw [if_pos h1, if_pos h2]
  exact ⟨e, by unfold joinS; rw [if_pos e, h3]⟩
theorem parse_fold (l : List UInt8) : parseE (fold l) = parseE l ∧ parseL (fold l) = (parseL l).map fold := by
  have h0 : fold l = [] ↔ l = [] := by unfold fold; exact List.map_eq_nil_iff
  have ha : ((parts l).map fold).all nameB = (parts l).all nameB := by
    rw [List.all_map]
    congr 1
    funext x
    exact nameB_fold x
  have e : parseE (fold l) = parseE l := by
    unfold parseE
    rw [parts_fold, ha, List.length_map]
    simp only [h0]
  refine ⟨e, ?_⟩
  unfold parseL
  rw [e, parts_fold]
  simp only [h0]
  split <;> rfl

/-! ### One under another -/
def fnames (l : List UInt8) : List (List UInt8) := (parseL l).map fold
def begB (a b : List UInt8) : Bool := decide (parseE a = 0) && (decide (parseE b = 0) && (fnames b).isPrefixOf (fnames a))
def alikeP (a b : List UInt8) : Bool := begB a b && decide ((parseL a).length = (parseL b).length)
def underP (a b : List UInt8) : Bool := begB a b && decide ((parseL b).length < (parseL a).length)
theorem fnames_length (l : List UInt8) : (fnames l).length = (parseL l).length := by unfold fnames; rw [List.length_map]
theorem under_iff (a b : List UInt8) : underP a b = true ↔ parseE a = 0 ∧ parseE b = 0 ∧ fnames b <+: fnames a ∧ (fnames b).length < (fnames a).length := by
  unfold underP begB
  rw [fnames_length, fnames_length, Bool.and_eq_true, Bool.and_eq_true, Bool.and_eq_true, decide_eq_true_eq, decide_eq_true_eq, decide_eq_true_eq, List.isPrefixOf_iff_prefix, and_assoc, and_assoc]
theorem alike_iff (a b : List UInt8) : alikeP a b = true ↔ parseE a = 0 ∧ parseE b = 0 ∧ fnames a = fnames b := by
  unfold alikeP begB
  rw [Bool.and_eq_true, Bool.and_eq_true, Bool.and_eq_true, decide_eq_true_eq, decide_eq_true_eq, decide_eq_true_eq, List.isPrefixOf_iff_prefix, ← fnames_length, ← fnames_length, and_assoc, and_assoc]
  constructor
  · rintro ⟨h1, h2, h3, h4⟩
    exact ⟨h1, h2, (h3.eq_of_length h4.symm).symm⟩
  · rintro ⟨h1, h2, h3⟩
    refine ⟨h1, h2, ?_, ?_⟩
    · rw [h3]; exact List.prefix_refl _
    · rw [h3]
theorem under_trans {a b c : List UInt8} (h1 : underP a b = true) (h2 : underP b c = true) : underP a c = true := by
  rw [under_iff] at *
  exact ⟨h1.1, h2.2.1, h2.2.2.1.trans h1.2.2.1, by omega⟩
theorem under_not_self (a : List UInt8) : underP a a = false := by
  cases h : underP a a with
  | false => rfl
  | true => rw [under_iff] at h; omega
theorem under_asym {a b : List UInt8} (h : underP a b = true) : underP b a = false := by
  cases h2 : underP b a with
  | false => rfl
  | true => rw [under_iff] at h h2; omega
theorem under_not_alike {a b : List UInt8} (h : underP a b = true) : alikeP a b = false := by
  cases h2 : alikeP a b with
  | false => rfl
  | true =>
    rw [under_iff] at h
    rw [alike_iff] at h2
    have := h.2.2.2
    rw [h2.2.2] at this
    omega
theorem fnames_inj {a b : List UInt8} (ha : parseE a = 0) (hb : parseE b = 0) : fnames a = fnames b ↔ fold a = fold b := by
  have ea : jn (fnames a) = fold a := by
    have h := (parse_fold a).1
    rw [ha] at h
    have := (parse_ok h).2.2.1
    rwa [(parse_fold a).2] at this
  have eb : jn (fnames b) = fold b := by
    have h := (parse_fold b).1
    rw [hb] at h
    have := (parse_ok h).2.2.1
    rwa [(parse_fold b).2] at this
  constructor
  · intro h; rw [← ea, ← eb, h]
  · intro h
    have h1 := (parse_fold a).2
    have h2 := (parse_fold b).2
    unfold fnames
    rw [← h1, ← h2, h]
theorem alike_self {a : List UInt8} (ha : parseE a = 0) : alikeP a a = true := (alike_iff _ _).2 ⟨ha, ha, rfl⟩
theorem alike_fold {a : List UInt8} (ha : parseE a = 0) : alikeP a (fold a) = true := by
  refine (alike_iff _ _).2 ⟨ha, by rw [(parse_fold a).1, ha], ?_⟩
  unfold fnames
  rw [(parse_fold a).2, List.map_map]
  congr 1
  funext x
  exact (fold_fold x).symm
theorem alike_eqv {a b : List UInt8} (ha : parseE a = 0) (hb : parseE b = 0) : alikeP a b = decide (fold a = fold b) := by
  rw [Bool.eq_iff_iff, alike_iff, decide_eq_true_eq, fnames_inj ha hb]
  exact ⟨fun h => h.2.2, fun h => ⟨ha, hb, h⟩⟩
theorem alike_not {a b : List UInt8} (h : ¬ (parseE a = 0 ∧ parseE b = 0)) : alikeP a b = false ∧ underP a b = false := by
  constructor
  · cases h2 : alikeP a b with
    | false => rfl
    | true => rw [alike_iff] at h2; exact absurd ⟨h2.1, h2.2.1⟩ h
  · cases h2 : underP a b with
    | false => rfl
    | true => rw [under_iff] at h2; exact absurd ⟨h2.1, h2.2.1⟩ h
/-! ### Parents -/
def parentE (l : List UInt8) : Int := if parseE l = 0 then (if l = [] then 2 else 0) else parseE l
def parentD (l : List UInt8) : List UInt8 := if parentE l = 0 then jn (parseL l).dropLast else []
def parentN (l : List UInt8) : List UInt8 := if parentE l = 0 then (parseL l).getLastD [] else []
theorem parent_ok {l : List UInt8} (h : parentE l = 0) : parseE l = 0 ∧ l ≠ [] ∧ parseL l ≠ [] := by
  unfold parentE at h
  split at h
  · rename_i h1
    split at h
    · cases h
    · rename_i h2; exact ⟨h1, h2, ((parse_ok h1).2.2.2 h2).2⟩
  · contradiction
theorem drop_last {xs : List (List UInt8)} (h : xs ≠ []) : xs = xs.dropLast ++ [xs.getLastD []] := by
  rcases List.eq_nil_or_concat xs with rfl | ⟨t, x, rfl⟩
  · exact absurd rfl h
  · simp
theorem up_facts {l : List UInt8} (h : parentE l = 0) :
    parseE (parentD l) = 0 ∧ parseL (parentD l) = (parseL l).dropLast ∧ nameB (parentN l) = true ∧ underP l (parentD l) = true ∧
      joinE ((parseL l).dropLast ++ [parentN l]) = 0 ∧ joinS ((parseL l).dropLast ++ [parentN l]) = l := by
  obtain ⟨h1, h2, h3⟩ := parent_ok h
  obtain ⟨a1, a2, a3, _⟩ := parse_ok h1
  have hd := drop_last h3
  have hN : parentN l = (parseL l).getLastD [] := by unfold parentN; rw [if_pos h]
  have hD : parentD l = jn (parseL l).dropLast := by unfold parentD; rw [if_pos h]
  have hall := List.all_eq_true.1 a1
  have jE : joinE (parseL l).dropLast = 0 := by
    unfold joinE
    rw [if_pos (List.all_eq_true.2 fun x hx => hall x (List.dropLast_subset _ hx)), if_pos (by rw [List.length_dropLast]; omega)]
  obtain ⟨p1, p2⟩ := parse_jn jE
  rw [← hD] at p1 p2
  have hn : nameB (parentN l) = true := by
    rw [hN]
    refine hall _ ?_
    rw [hd]
    simp
  refine ⟨p1, p2, hn, ?_, ?_, ?_⟩
  · rw [under_iff]
    refine ⟨h1, p1, ?_, ?_⟩
    · unfold fnames
      rw [p2]
      conv => rhs; rw [hd]
      rw [List.map_append]
      exact List.prefix_append _ _
    · rw [fnames_length, fnames_length, p2, List.length_dropLast]
      have := List.length_pos_iff.2 h3
      omega
  · rw [hN, ← hd]
    exact (join_parse h1).1
  · rw [hN, ← hd]
    exact (join_parse h1).2
end Go.Proofs.YtlmadihedejaaaaDoor.U
/- path.Name: is it a name? -/
set_option linter.unusedVariables false
set_option linter.unusedSimpArgs false
namespace Go.Proofs.YtlmadihedejaaaaDoor.U
open Go.RowKit Go.Proofs Go.Lib Go.Proofs.YtlmadihedejaaaaDoorW.PrintWords

theorem bar_cases {r : Nat} (h : barN r = true) : r = 92 ∨ r = 47 ∨ r = 58 ∨ r = 42 ∨ r = 63 ∨ r = 34 ∨ r = 60 ∨ r = 62 ∨ r = 124 := by
  unfold barN at h
  simp only [Bool.or_eq_true, beq_iff_eq] at h
  omega
theorem bar_not {r : Nat} (h : barN r = false) : ((r : Int) == 92) = false ∧ ((r : Int) == 47) = false ∧ ((r : Int) == 58) = false ∧ ((r : Int) == 42) = false ∧ ((r : Int) == 63) = false ∧ ((r : Int) == 34) = false ∧ ((r : Int) == 60) = false ∧ ((r : Int) == 62) = false ∧ ((r : Int) == 124) = false := by
  unfold barN at h
  simp only [Bool.or_eq_false_iff, beq_eq_false_iff_ne] at h
  refine ⟨?_, ?_, ?_, ?_, ?_, ?_, ?_, ?_, ?_⟩ <;> (rw [beq_eq_false_iff_ne]; omega)
set_option maxHeartbeats 8000000 in
set_option maxRecDepth 1000000 in
theorem Name_calls (s : ByteArray) (w : World) (hs : s.size ≤ 17592186044416) (hT : Tabs w) :
    Calls Tryd.prog 18 #[.string s] w fun e w' => e = .returned (.bool (nameB s.data.toList)) ∧ Below w.heap.size w w' := by
  have c1 := Units_calls s w (by omega) hT
  unfold errOf at c1
  obtain ⟨P, hP⟩ : ∃ P, nameB s.data.toList = P := ⟨_, rfl⟩
  rw [hP]
  unfold nameB at hP
  cases hv : valid s.data.toList with
  | false =>
    rw [hv, if_neg (by decide)] at c1
    rw [hv, Bool.false_and] at hP
    subst hP
    have C1 := Lib.hid c1
    clear c1 hT hv
    go_enter Tryd.func18, Tryd.ntmps18
    go_wp2_with fail
    go_step3
    go_wp2_with fail
    refine (C1.out).mono ?_
    rintro e w1 ⟨rfl, hb1⟩
    have B1 := Lib.hid hb1
    clear hb1
    go_wp2_with fail
    try rw [Exit.noGoto_ret]
    go_ret
    exact ⟨rfl, B1.out⟩
  | true =>
    rw [hv, if_pos rfl] at c1
    rw [hv, Bool.true_and] at hP
    have C1 := Lib.hid c1
    have HV := Lib.hid hv
    have HP := Lib.hid hP
    clear c1 hT hv hP
    go_enter Tryd.func18, Tryd.ntmps18
    go_wp2_with fail
    go_step3
    go_wp2_with fail
    refine (C1.out).mono ?_
    rintro e w1 ⟨rfl, hb1⟩
    have B1 := Lib.hid hb1
    clear hb1 C1
    go_wp2_with fail
    go_step3
    go_wp2_with fail
    go_loopw [5, 6] (fun vn vl wr => ∃ pos n last : Nat, vn = .int .i64 (n : Int) ∧ vl = .int .i32 (last : Int) ∧ n ≤ pos ∧ last ≤ 1114111 ∧ wr.heap[w1.heap.size]? = some (.stringIter s pos) ∧ Below w1.heap.size w1 wr ∧ valid (s.data.toList.drop pos) = true ∧ nmL n last (letters (s.data.toList.drop pos)) = P) (fun _ _ wr => s.size - wr.iterPos w1.heap.size)
    case atStart => exact ⟨0, 0, 0, rfl, rfl, Nat.le_refl _, by omega, World.iter_heap w1 s 0, (Below.refl _ w1).alloc (Nat.le_refl _) _, HV.out, by rw [List.drop_zero]; exact HP.out⟩
    case round =>
      obtain ⟨pos, n, last, rfl, rfl, hn, hla, hit, hbw, hv, hk⟩ := hrel
      have hsz : w1.heap.size < wr.heap.size := (Array.getElem?_eq_some_iff.1 hit).1
      by_cases hp : pos < s.size
      · obtain ⟨r, wd, hde, hdd, hwd, hd1, hne⟩ := next_facts s pos hp
        have hnx := next_run (P := Tryd.prog) hde hp wr w1.heap.size hit
        obtain ⟨_, hv', hl⟩ := units_step hdd hne hv
        have hit2 := Lib.iterAt_heap wr w1.heap.size s pos (pos + wd) hit
        have hb2 := Lib.below_iterAt hbw (k := w1.heap.size) (Nat.le_refl _) s (pos + wd)
        rw [hl, nmL] at hk
        have HIT := Lib.hid hit
        have H2 := Lib.hid hit2
        have HB := Lib.hid hb2
        have HV' := Lib.hid hv'
        have HBF := Lib.hid (B1.out.trans (hb2.mono B1.out.size))
        clear hit hit2 hb2 hbw hv hv' hl hde hdd hne
        cases hbar : barN r with
        | true =>
          rw [hbar, if_pos rfl] at hk
          subst hk
          have hz : ∀ x : World, x.heap.size = x.heap.size := fun _ => rfl
          rcases bar_cases hbar with rfl | rfl | rfl | rfl | rfl | rfl | rfl | rfl | rfl
          all_goals
            clear hbar
            go_wp2_with fail
            try rw [Exit.noGoto_ret]
            go_ret
            exact ⟨rfl, HBF.out⟩
        | false =>
          rw [hbar, if_neg (by decide)] at hk
          obtain ⟨q1, q2, q3, q4, q5, q6, q7, q8, q9⟩ := bar_not hbar
          by_cases h32 : r < 32
          · rw [if_pos h32] at hk
            subst hk
            have d32 : decide ((r : Int) < 32) = true := by simp; omega
            go_wp2_with fail
            try rw [Exit.noGoto_ret]
            go_ret
            exact ⟨rfl, HBF.out⟩
          · rw [if_neg h32] at hk
            have d32 : decide ((r : Int) < 32) = false := by simp; omega
            have HK := Lib.hid hk
            clear hk
            go_wp2_with fail
            go_roundw
            case rel => exact ⟨pos + wd, n + 1, r, by rw [Int.natCast_succ], rfl, by omega, by omega, H2.out, HB.out, HV'.out, HK.out⟩
            case measure =>
              have e1 := HIT.out
              have e2 := H2.out
              simp only [World.iterPos, e1, e2]
              omega
      · have hnx : ∀ ty, (Instr.next (.pointer (some ⟨w1.heap.size, 0, none⟩)) true ty).run Tryd.prog wr = _ := fun ty => Lib.run_next_end_at wr w1.heap.size s pos ty hit hp
        have he : s.data.toList.drop pos = [] := List.drop_eq_nil_of_le (by rw [← size_eq]; omega)
        rw [he, letters_nil, nmL] at hk
        have HB := Lib.hid (B1.out.trans (hbw.mono B1.out.size))
        clear he hit hbw hv
        by_cases h0 : 0 < n
        · have e0 : decide (0 < (n : Int)) = true := by simp; omega
          by_cases h1 : n ≤ 32
          · have e1 : decide ((n : Int) ≤ 32) = true := by simp; omega
            by_cases h2 : last = 32
            · have e2 : ((last : Int) != 32) = false := by simp; omega
              have hF : P = false := by rw [← hk, h2]; simp
              subst hF
              clear hk
              go_wp2_with fail
              try rw [Exit.noGoto_ret]
              go_ret
              exact ⟨rfl, HB.out⟩
            · have e2 : ((last : Int) != 32) = true := by simp; omega
              by_cases h3 : last = 46
              · have e3 : ((last : Int) != 46) = false := by simp; omega
                have hF : P = false := by rw [← hk, h3]; simp
                subst hF
                clear hk
                go_wp2_with fail
                try rw [Exit.noGoto_ret]
                go_ret
                exact ⟨rfl, HB.out⟩
              · have e3 : ((last : Int) != 46) = true := by simp; omega
                have hF : P = true := by rw [← hk]; simp [h0, h1, h2, h3]
                subst hF
                clear hk
                go_wp2_with fail
                try rw [Exit.noGoto_ret]
                go_ret
                exact ⟨rfl, HB.out⟩
          · have e1 : decide ((n : Int) ≤ 32) = false := by simp; omega
            have hF : P = false := by rw [← hk]; simp [h1]
            subst hF
            clear hk
            go_wp2_with fail
            try rw [Exit.noGoto_ret]
            go_ret
            exact ⟨rfl, HB.out⟩
        · have e0 : decide (0 < (n : Int)) = false := by simp; omega
          have hF : P = false := by rw [← hk]; simp [h0]
          subst hF
          clear hk
          go_wp2_with fail
          try rw [Exit.noGoto_ret]
          go_ret
          exact ⟨rfl, HB.out⟩
end Go.Proofs.YtlmadihedejaaaaDoor.U
/- path.Parse: the names of a path. -/
set_option linter.unusedVariables false
set_option linter.unusedSimpArgs false
namespace Go.Proofs.YtlmadihedejaaaaDoor.U
open Go.RowKit Go.Proofs Go.Lib Go.Proofs.YtlmadihedejaaaaDoorW.PrintWords

def mkB (l : List UInt8) : ByteArray := ⟨l.toArray⟩
theorem mkB_list (l : List UInt8) : (mkB l).data.toList = l := rfl
theorem mkB_size (l : List UInt8) : (mkB l).size = l.length := by rw [size_eq, mkB_list]
theorem mkB_of (x : ByteArray) : mkB x.data.toList = x := by
  apply ByteArray.ext
  apply Array.toList_inj.1
  rfl
theorem map_mkB (xs : List ByteArray) : (xs.map fun x => x.data.toList).map mkB = xs := by
  rw [List.map_map]
  exact (List.map_congr_left fun x _ => mkB_of x).trans (List.map_id _)
def partsB (s : ByteArray) : List ByteArray := (parts s.data.toList).map mkB
def parseB (s : ByteArray) : List ByteArray := (parseL s.data.toList).map mkB

/-! ### Rows of strings -/
def SR (w : World) (base : Nat) (v : Value) (xs : List ByteArray) : Prop := Kd.R Kd.string 9 w base (fun _ => True) v xs
theorem SR.below {w w' : World} {base : Nat} {v : Value} {xs : List ByteArray} (h : SR w base v xs) (hb : Below w.heap.size w w') : SR w' base v xs := by
  have ho := Kd.own_of_R h
  refine Kd.R_of_own (own_move ho fun k hk => ?_) (fun _ _ => trivial)
  exact hb.block k (ho.lt k hk).2
theorem SR.nil (w : World) (base : Nat) : SR w base (.slice none 0 0) [] := Kd.R_nil _ _ _ _ _
theorem SR.new (xs : List ByteArray) (W : World) (hl : xs.length ≤ maxLen) : SR (W.alloc (.cells (xs.map Value.string).toArray 9)) W.heap.size (.slice (some ⟨W.heap.size, 0, none⟩) xs.length xs.length) xs := by
  refine Kd.R_of_own ⟨by simp [encs], .inr ⟨W.heap.size, xs.length, _, rfl, Nat.le_refl _, heap_alloc_new W _, Nat.le_refl _, hl, ?_, ?_⟩⟩ (fun _ _ => trivial)
  · simp
  · simp only [Nat.mul_one, List.toList_toArray]
    rw [List.take_of_length_le (by simp)]
    rfl
theorem SR.mono {w : World} {b b' : Nat} {v : Value} {xs : List ByteArray} (h : SR w b v xs) (hb : b' ≤ b) : SR w b' v xs := by
  have ho := Kd.own_of_R h
  refine Kd.R_of_own ⟨ho.1, ?_⟩ (fun _ _ => trivial)
  rcases ho.2 with h1 | ⟨g, cap, cur, he, hg, r⟩
  · exact .inl h1
  · exact .inr ⟨g, cap, cur, he, Nat.le_trans hb hg, r⟩
theorem SR.reads {w : World} {base : Nat} {v : Value} {xs : List ByteArray} (h : SR w base v xs) : ∃ A c, v = .slice A xs.length c ∧ xs.length ≤ c ∧ Kd.C Kd.string w A xs.length xs := Kd.R_reads h

/-! ### strings.Split, at the one separator -/
theorem split_eq (s : ByteArray) : Lib.splitB ⟨#[92]⟩ 0 (Lib.countB s ⟨#[92]⟩) s = partsB s := by
  have h := Lib.splitB_data ⟨#[92]⟩ 0 (Lib.countB s ⟨#[92]⟩) s
  have hc : Lib.countB s ⟨#[92]⟩ = s.data.toList.count 92 := Lib.count_one 92 s.data.toList
  rw [show (⟨#[92]⟩ : ByteArray).data.toList = [92] from rfl] at h
  conv at h => rhs; rw [hc]
  rw [splitK_parts _ _ rfl] at h
  unfold partsB
  rw [← h, map_mkB]
set_option maxHeartbeats 2000000 in
theorem Split_calls (s : ByteArray) (w : World) (hs : s.size < 4294967281) :
    Calls Tryd.prog 27 #[.string s, .string ⟨#[92]⟩] w fun e w' =>
      e = .returned (.slice (some ⟨w.heap.size, 0, none⟩) (partsB s).length (partsB s).length) ∧ w' = w.alloc (.cells ((partsB s).map Value.string).toArray 9) := by
  have hlen := Lib.splitB_all ⟨#[92]⟩ (by decide) 0 _ s rfl
  have hle := Lib.countB_le ⟨#[92]⟩ (by decide) s.size s (Nat.le_refl _)
  have c := Any.strings_genSplit_core Tryd.lays221 (by kernel_rfl) s ⟨#[92]⟩ 0 (-1) (Lib.countB s ⟨#[92]⟩ + 1) w hs (by decide) (Nat.zero_le _)
    (fun x c hx => (Tryd.strings_Index_one x 92 _).mono fun e w' ⟨he, hw⟩ => ⟨by rw [he, ← Lib.index_one], hw⟩)
    ((Tryd.strings_Count_one s 92 w).mono fun e w' ⟨he, hw⟩ => ⟨by rw [he]; show _ = Ending.returned (.int .i64 ((Lib.count s.data.toList [92] : Nat) : Int)); rw [Lib.count_one]; rfl, hw⟩)
    (by decide) (by decide) (by rw [if_pos (by decide)]; omega)
  rw [Nat.add_sub_cancel, hlen] at c
  have e2 : Lib.cellsOf (Lib.splitB ⟨#[92]⟩ 0 (Lib.countB s ⟨#[92]⟩) s) (Lib.countB s ⟨#[92]⟩ + 1) = ((Lib.splitB ⟨#[92]⟩ 0 (Lib.countB s ⟨#[92]⟩) s).map Value.string).toArray := by
    conv => lhs; rw [← hlen]
    exact Lib.cellsOf_full _
  have e3 : Lib.countB s ⟨#[92]⟩ + 1 = (partsB s).length := by rw [← split_eq s, hlen]
  rw [e2, e3, split_eq] at c
  have C := Lib.hid c
  clear c e2 e3 hlen hle
  go_enter Tryd.func27, Tryd.ntmps27
  go_wp2_with fail
  refine (C.out).mono ?_
  rintro e w1 ⟨rfl, rfl⟩
  go_wp2
  go_ret
  exact ⟨rfl, rfl⟩
theorem partsB_size (s : ByteArray) : ∀ x ∈ partsB s, x.size ≤ s.size := by
  intro x hx
  obtain ⟨l, hl, rfl⟩ := List.mem_map.1 hx
  rw [mkB_size, size_eq]
  exact (parts_mem _ l hl).2
theorem partsB_length (s : ByteArray) : (partsB s).length = (parts s.data.toList).length := by unfold partsB; rw [List.length_map]
theorem partsB_le (s : ByteArray) : (partsB s).length ≤ s.size + 1 := by
  rw [partsB_length, parts_count, size_eq]
  have := List.count_le_length (a := (92 : UInt8)) (l := s.data.toList)
  omega
theorem parse_bad {l x : List UInt8} (h : x ∈ parts l) (hx : nameB x = false) (h0 : l ≠ []) : parseE l = 2 ∧ parseL l = [] := by
  have ha : ¬ ((parts l).all nameB = true) := by
    intro e
    have := List.all_eq_true.1 e x h
    rw [hx] at this
    cases this
  have e : parseE l = 2 := by
    unfold parseE
    rw [if_neg h0, if_neg ha]
  exact ⟨e, by unfold parseL; rw [if_pos (.inr (by rw [e]; decide))]⟩
theorem parse_all {l : List UInt8} (h : ∀ x ∈ parts l, nameB x = true) (h0 : l ≠ []) : parseE l = (if (parts l).length ≤ 8 then 0 else 3) := by
  unfold parseE
  rw [if_neg h0, if_pos (List.all_eq_true.2 h)]
theorem parse_long {l : List UInt8} (h : parseE l ≠ 0) : parseL l = [] := by unfold parseL; rw [if_pos (.inr h)]
theorem parse_parts {l : List UInt8} (h : parseE l = 0) (h0 : l ≠ []) : parseL l = parts l := ((parse_ok h).2.2.2 h0).1
set_option maxHeartbeats 4000000 in
set_option maxRecDepth 1000000 in
theorem Parse_calls (s : ByteArray) (w : World) (hs : s.size ≤ 16777216) (hT : Tabs w) :
    Calls Tryd.prog 12 #[.string s] w fun e w' => ∃ v, e = .returned (.tuple #[v, .int .i64 (parseE s.data.toList)]) ∧ SR w' w.heap.size v (parseB s) ∧ Below w.heap.size w w' := by
  by_cases h0 : s.data.toList = []
  · obtain rfl : s = ⟨#[]⟩ := by rw [← mkB_of s, h0]; rfl
    clear hT h0
    go_enter Tryd.func12, Tryd.ntmps12
    go_wp2
    go_ret2
    exact ⟨_, rfl, SR.nil _ _, Below.refl _ _⟩
  · have hemp : s.toList.isEmpty = false := by
      rw [Lib.toList_data]
      cases h : s.data.toList with
      | nil => exact absurd h h0
      | cons _ _ => rfl
    have cS := Split_calls s w (by omega)
    have cN := fun W x (hx : x ∈ partsB s) h => Name_calls x W (by have := partsB_size s x hx; omega) h
    have hlen := partsB_le s
    have hnew := SR.new (partsB s) w (by unfold maxLen; omega)
    obtain ⟨w0, hw0⟩ : ∃ w0, w.alloc (.cells ((partsB s).map Value.string).toArray 9) = w0 := ⟨_, rfl⟩
    have hb0 : Below w.heap.size w w0 := by rw [← hw0]; exact (Below.refl _ _).alloc (Nat.le_refl _) _
    have hcell : ∀ i (h : i < (partsB s).length), w0.cell? ⟨w.heap.size, i, none⟩ = some (.string ((partsB s)[i])) := by
      intro i h
      rw [← hw0, Lib.cell_of_heap (heap_alloc_new w _)]
      simp [h]
    have hg : w.heap.size < w0.heap.size := by rw [← hw0]; simp
    rw [hw0] at cS hnew
    have CS := Lib.hid cS
    have CN := Lib.hid cN
    have HNEW := Lib.hid hnew
    have HB0 := Lib.hid hb0
    have HCELL := Lib.hid hcell
    have HT := Lib.hid (Tabs.below hT hb0)
    have H0 := Lib.hid h0
    have HG := Lib.hid hg
    clear cS cN hnew hb0 hcell hT hw0 h0 hg
    go_enter Tryd.func12, Tryd.ntmps12
    go_wp2_with fail
    refine (CS.out).mono ?_
    rintro e w1 ⟨rfl, rfl⟩
    go_wp2
    go_loopw [13] (fun vi wr => ∃ i : Nat, vi = .int .i64 (i : Int) ∧ i ≤ (partsB s).length ∧ Below w1.heap.size w1 wr ∧ ∀ x ∈ (partsB s).take i, nameB x.data.toList = true) (fun vi _ => (partsB s).length - (RowKit.intOf vi).toNat)
    case atStart => exact ⟨0, rfl, by omega, Below.refl _ _, by simp⟩
    case round =>
      obtain ⟨i, rfl, hi, hbw, hall⟩ := hrel
      have HB := Lib.hid hbw
      have HALL := Lib.hid hall
      clear hbw hall
      by_cases hlt : i < (partsB s).length
      · have d0 : decide ((i : Int) < ((partsB s).length : Int)) = true := by simp; omega
        have hc : wr.cell? ⟨w.heap.size, i, none⟩ = some (.string ((partsB s)[i])) := (HB.out.cell HG.out).trans (HCELL.out i hlt)
        have hm : (partsB s)[i] ∈ partsB s := List.getElem_mem hlt
        have ht : (partsB s).take (i + 1) = (partsB s).take i ++ [(partsB s)[i]] := by rw [List.take_add_one, List.getElem?_eq_getElem hlt]; rfl
        have HTK := Lib.hid ht
        have HM := Lib.hid hm
        clear ht hm
        generalize (partsB s)[i] = x at *
        go_wp2_with fail
        refine (CN.out _ x HM.out (HT.out.below HB.out)).mono ?_
        rintro e w2 ⟨rfl, hb⟩
        have HB2 := Lib.hid (HB.out.trans (hb.mono HB.out.size))
        clear hb
        cases hx : nameB x.data.toList with
        | true =>
          go_wp2_with fail
          go_roundw
          case rel =>
            refine ⟨i + 1, by rw [Int.natCast_succ], hlt, HB2.out, ?_⟩
            intro y hy
            rw [HTK.out] at hy
            rcases List.mem_append.1 hy with hy | hy
            · exact HALL.out y hy
            · rw [List.mem_singleton.1 hy]; exact hx
          case measure => simp only [RowKit.intOf, Int.toNat_natCast]; omega
        | false =>
          obtain ⟨l, hl, he⟩ := List.mem_map.1 HM.out
          have hpb := parse_bad (l := s.data.toList) (x := x.data.toList) (by rw [← he, mkB_list]; exact hl) hx H0.out
          have HPB := Lib.hid hpb
          clear hpb he hl
          go_wp2_with fail
          go_ret2
          refine ⟨_, (by rw [HPB.out.1]; rfl), ?_, HB0.out.trans (HB2.out.mono HB0.out.size)⟩
          unfold parseB
          rw [HPB.out.2]
          exact SR.nil _ _
      · have d0 : decide ((i : Int) < ((partsB s).length : Int)) = false := by simp; omega
        have hok : ∀ x ∈ parts s.data.toList, nameB x = true := by
          intro x hx
          have := HALL.out (mkB x) (by rw [List.take_of_length_le (by omega)]; exact List.mem_map.2 ⟨x, hx, rfl⟩)
          rwa [mkB_list] at this
        have hpa := parse_all hok H0.out
        rw [← partsB_length] at hpa
        by_cases h8 : (partsB s).length ≤ 8
        · have d8 : decide ((8 : Int) < ((partsB s).length : Int)) = false := by simp; omega
          rw [if_pos h8] at hpa
          have HPA := Lib.hid hpa
          clear hpa hok
          go_wp2_with fail
          go_ret2
          refine ⟨_, (by rw [HPA.out]; rfl), ?_, HB0.out.trans (HB.out.mono HB0.out.size)⟩
          unfold parseB
          rw [parse_parts HPA.out H0.out]
          exact HNEW.out.below HB.out
        · have d8 : decide ((8 : Int) < ((partsB s).length : Int)) = true := by simp; omega
          rw [if_neg h8] at hpa
          have HPA := Lib.hid hpa
          clear hpa hok
          go_wp2_with fail
          go_ret2
          refine ⟨_, (by rw [HPA.out]; rfl), ?_, HB0.out.trans (HB.out.mono HB0.out.size)⟩
          unfold parseB
          rw [parse_long (by rw [HPA.out]; decide)]
          exact SR.nil _ _
end Go.Proofs.YtlmadihedejaaaaDoor.U
/- path.begins, Alike, Under. -/
set_option linter.unusedVariables false
set_option linter.unusedSimpArgs false
namespace Go.Proofs.YtlmadihedejaaaaDoor.U
open Go.RowKit Go.Proofs Go.Lib Go.Proofs.YtlmadihedejaaaaDoorW.PrintWords

theorem SR.open {w : World} {base : Nat} {v : Value} {xs : List ByteArray} (h : SR w base v xs) :
    ∃ A c, v = .slice A xs.length c ∧ xs.length ≤ c ∧ (0 < xs.length → ∃ g, A = some ⟨g, 0, none⟩ ∧ base ≤ g ∧ g < w.heap.size ∧ ∀ j x, xs[j]? = some x → w.cell? ⟨g, j, none⟩ = some (.string x)) := by
  have ho := Kd.own_of_R h
  rcases Nat.eq_zero_or_pos xs.length with h0 | h0
  · obtain ⟨A, c, hv⟩ := own_slice ho
    refine ⟨A, c, hv, by omega, fun hp => absurd hp (by omega)⟩
  · obtain ⟨g, cap, rfl, hb, hl⟩ := ho.form h0
    have hcap : xs.length ≤ cap := by
      rcases ho.2 with ⟨_, h1⟩ | ⟨g', cap', cur, he, _, _, h1, _⟩
      · omega
      · injection he with _ _ he
        omega
    have hg : g < w.heap.size := own_lt ho g rfl
    refine ⟨_, cap, rfl, hcap, fun _ => ⟨g, rfl, hb, hg, fun j x hj => ?_⟩⟩
    have := ho.cells (g := g) rfl j (.string x) (by simp [encs, hj])
    rwa [add_plain] at this
/-- How a path begins with another. -/
def begN (a b : List UInt8) : Int := if begB a b = true then (((parseL a).length - (parseL b).length : Nat) : Int) else 0
theorem parseB_length (s : ByteArray) : (parseB s).length = (parseL s.data.toList).length := by unfold parseB; rw [List.length_map]
theorem parseB_size (s : ByteArray) : ∀ x ∈ parseB s, x.size ≤ s.size := by
  intro x hx
  obtain ⟨l, hl, rfl⟩ := List.mem_map.1 hx
  rw [mkB_size, size_eq]
  unfold parseL at hl
  split at hl
  · cases hl
  · exact (parts_mem _ l hl).2
theorem parseB_max (s : ByteArray) : (parseB s).length ≤ 8 := by
  rw [parseB_length]
  by_cases h : parseE s.data.toList = 0
  · exact (parse_ok h).2.1
  · rw [parse_long h]; decide
/-- Rows that are held one against the other. -/
def bgL : List ByteArray → List ByteArray → Bool
  | _, [] => true
  | [], _ :: _ => false
  | x :: X, y :: Y => alikeB x.data.toList y.data.toList && bgL X Y
theorem bgL_prefix : ∀ (Y X : List ByteArray), bgL X Y = (Y.map fun x => fold x.data.toList).isPrefixOf (X.map fun x => fold x.data.toList) := by
  intro Y
  induction Y with
  | nil => intro X; cases X <;> rfl
  | cons y Y ih =>
    intro X
    cases X with
    | nil => rfl
    | cons x X =>
      rw [bgL, ih, alike_eq, List.map_cons, List.map_cons, List.isPrefixOf]
      congr 1
      rw [Bool.eq_iff_iff, decide_eq_true_eq, beq_iff_eq]
      exact eq_comm
theorem bgL_names (a b : ByteArray) : bgL (parseB a) (parseB b) = (fnames b.data.toList).isPrefixOf (fnames a.data.toList) := by
  rw [bgL_prefix]
  unfold fnames parseB
  rw [List.map_map, List.map_map]
  rfl
theorem bgL_short {X Y : List ByteArray} (h : X.length < Y.length) : bgL X Y = false := by
  rw [bgL_prefix]
  cases hb : (Y.map fun x => fold x.data.toList).isPrefixOf (X.map fun x => fold x.data.toList) with
  | false => rfl
  | true =>
    have := (List.isPrefixOf_iff_prefix.1 hb).length_le
    rw [List.length_map, List.length_map] at this
    omega
theorem bgL_step {X Y : List ByteArray} {i : Nat} {x y : ByteArray} (hx : X[i]? = some x) (hy : Y[i]? = some y) : bgL (X.drop i) (Y.drop i) = (alikeB x.data.toList y.data.toList && bgL (X.drop (i + 1)) (Y.drop (i + 1))) := by
  obtain ⟨h1, e1⟩ := List.getElem?_eq_some_iff.1 hx
  obtain ⟨h2, e2⟩ := List.getElem?_eq_some_iff.1 hy
  rw [List.drop_eq_getElem_cons h1, List.drop_eq_getElem_cons h2, e1, e2]
  rfl

set_option maxHeartbeats 8000000 in
set_option maxRecDepth 1000000 in
theorem begins_calls (a b : ByteArray) (w : World) (ha : a.size ≤ 16777216) (hb : b.size ≤ 16777216) (hT : Tabs w) :
    Calls Tryd.prog 30 #[.string a, .string b] w fun e w' => e = .returned (.tuple #[.int .i64 (begN a.data.toList b.data.toList), .bool (begB a.data.toList b.data.toList)]) ∧ Below w.heap.size w w' := by
  have c1 := fun W h => Parse_calls a W ha h
  have c2 := fun W h => Parse_calls b W hb h
  have c3 := fun W x y (hx : x ∈ parseB a) (hy : y ∈ parseB b) => Alike_calls x y W (by have := parseB_size a x hx; omega) (by have := parseB_size b y hy; omega)
  have hN : begN a.data.toList b.data.toList = if begB a.data.toList b.data.toList = true then (((parseB a).length - (parseB b).length : Nat) : Int) else 0 := by
    unfold begN
    rw [parseB_length, parseB_length]
  have hB : begB a.data.toList b.data.toList = (decide (parseE a.data.toList = 0) && (decide (parseE b.data.toList = 0) && bgL (parseB a) (parseB b))) := by rw [bgL_names]; rfl
  have hX := parseB_max a
  have hY := parseB_max b
  rw [hN, hB]
  clear hN hB
  generalize parseE a.data.toList = E1 at *
  generalize parseE b.data.toList = E2 at *
  generalize parseB a = X at *
  generalize parseB b = Y at *
  obtain ⟨G, hG⟩ : ∃ G, (decide (E1 = 0) && (decide (E2 = 0) && bgL X Y)) = G := ⟨_, rfl⟩
  rw [hG]
  have HGG := Lib.hid hG
  clear hG
  have C1 := Lib.hid c1
  have C2 := Lib.hid c2
  have C3 := Lib.hid c3
  have HT := Lib.hid hT
  have B0 := Lib.hid (Below.refl w.heap.size w)
  clear c1 c2 c3 hT ha hb
  go_enter Tryd.func30, Tryd.ntmps30
  go_wp2_with fail
  refine (C1.out _ HT.out).mono ?_
  rintro e w1 ⟨v1, rfl, hs1, hb⟩
  have T_1 := Lib.hid (HT.out.below hb)
  have B1 := Lib.hid (B0.out.trans (hb.mono B0.out.size))
  obtain ⟨A1, k1, rfl, _, ho1⟩ := hs1.open
  have S1 := Lib.hid ho1
  clear hb hs1 ho1 HT
  go_wp2_with fail
  refine (C2.out _ T_1.out).mono ?_
  rintro e w2 ⟨v2, rfl, hs2, hb⟩
  have B2 := Lib.hid (B1.out.trans (hb.mono B1.out.size))
  obtain ⟨A2, k2, rfl, _, ho2⟩ := hs2.open
  have S2 := Lib.hid ho2
  have HB2 := Lib.hid hb
  clear hb hs2 ho2 B1
  by_cases h1 : E1 = 0
  · subst h1
    by_cases h2 : E2 = 0
    · subst h2
      have hGb : bgL X Y = G := by
        have := HGG.out
        simpa only [decide_true, Bool.true_and] using this
      have HG := Lib.hid hGb
      clear hGb HGG
      by_cases hl : X.length < Y.length
      · have d : decide ((X.length : Int) < (Y.length : Int)) = true := by simp; omega
        have hg : G = false := by rw [← HG.out, bgL_short hl]
        subst hg
        go_wp2
        go_ret2
        exact ⟨rfl, B2.out⟩
      · have d : decide ((X.length : Int) < (Y.length : Int)) = false := by simp; omega
        go_wp2
        go_loopw [37] (fun vi wr => ∃ i : Nat, vi = .int .i64 (i : Int) ∧ i ≤ Y.length ∧ Below w2.heap.size w2 wr ∧ bgL X Y = bgL (X.drop i) (Y.drop i)) (fun vi _ => Y.length - (RowKit.intOf vi).toNat)
        case atStart => exact ⟨0, rfl, by omega, Below.refl _ _, rfl⟩
        case round =>
          obtain ⟨i, rfl, hi, hbw, hk⟩ := hrel
          have HB := Lib.hid hbw
          have HK := Lib.hid hk
          clear hbw hk
          by_cases hlt : i < Y.length
          · have d0 : decide ((i : Int) < (Y.length : Int)) = true := by simp; omega
            have d1 : decide ((i : Int) < (X.length : Int)) = true := by simp; omega
            obtain ⟨g1, rfl, _, hg1, hc1⟩ := S1.out (by omega)
            obtain ⟨g2, rfl, _, hg2, hc2⟩ := S2.out (by omega)
            obtain ⟨x, hx⟩ : ∃ x, X[i]? = some x := ⟨_, List.getElem?_eq_getElem (by omega)⟩
            obtain ⟨y, hy⟩ : ∃ y, Y[i]? = some y := ⟨_, List.getElem?_eq_getElem hlt⟩
            have f1 : wr.cell? ⟨g1, i, none⟩ = some (.string x) := ((HB.out.cell (by have := HB2.out.size; show g1 < _; omega)).trans (HB2.out.cell hg1)).trans (hc1 i x hx)
            have f2 : wr.cell? ⟨g2, i, none⟩ = some (.string y) := (HB.out.cell hg2).trans (hc2 i y hy)
            have hmx : x ∈ X := List.mem_of_getElem? hx
            have hmy : y ∈ Y := List.mem_of_getElem? hy
            have hst := bgL_step hx hy
            have HST := Lib.hid hst
            have HMX := Lib.hid hmx
            have HMY := Lib.hid hmy
            clear hst hmx hmy hx hy hc1 hc2
            go_wp2_with fail
            refine (C3.out _ x y HMX.out HMY.out).mono ?_
            rintro e w3 ⟨rfl, hb⟩
            have HB3 := Lib.hid (HB.out.trans (hb.mono HB.out.size))
            clear hb f1 f2
            cases hal : alikeB x.data.toList y.data.toList with
            | true =>
              have hk2 : bgL X Y = bgL (X.drop (i + 1)) (Y.drop (i + 1)) := by rw [HK.out, HST.out, hal, Bool.true_and]
              have HK2 := Lib.hid hk2
              clear hk2
              go_wp2_with fail
              go_roundw
              case rel => exact ⟨i + 1, by rw [Int.natCast_succ], hlt, HB3.out, HK2.out⟩
              case measure => simp only [RowKit.intOf, Int.toNat_natCast]; omega
            | false =>
              have hk2 : bgL X Y = false := by rw [HK.out, HST.out, hal, Bool.false_and]
              have hg : G = false := by rw [← HG.out, hk2]
              subst hg
              go_wp2_with fail
              go_ret2
              exact ⟨rfl, B2.out.trans (HB3.out.mono B2.out.size)⟩
          · have d0 : decide ((i : Int) < (Y.length : Int)) = false := by simp; omega
            have hk2 : bgL X Y = true := by
              have hy : Y.drop i = [] := List.drop_eq_nil_of_le (by omega)
              rw [HK.out, hy]
              cases X.drop i <;> rfl
            have hz : ((X.length - Y.length : Nat) : Int) = (X.length : Int) - (Y.length : Int) := by omega
            have hg : G = true := by rw [← HG.out, hk2]
            subst hg
            go_wp2_with fail
            go_ret2
            exact ⟨(by first | (rw [hz]; rfl) | (rw [← hz]; rfl)), B2.out.trans (HB.out.mono B2.out.size)⟩
    · have d : (E2 != 0) = true := by simp [h2]
      have hg : G = false := by rw [← HGG.out, decide_eq_false h2]; rfl
      subst hg
      go_wp2
      go_ret2
      exact ⟨rfl, B2.out⟩
  · have d : (E1 != 0) = true := by simp [h1]
    have hg : G = false := by rw [← HGG.out, decide_eq_false h1]; rfl
    subst hg
    go_wp2
    go_ret2
    exact ⟨rfl, B2.out⟩
set_option maxHeartbeats 2000000 in
theorem PAlike_calls (a b : ByteArray) (w : World) (ha : a.size ≤ 16777216) (hb : b.size ≤ 16777216) (hT : Tabs w) :
    Calls Tryd.prog 21 #[.string a, .string b] w fun e w' => e = .returned (.bool (alikeP a.data.toList b.data.toList)) ∧ Below w.heap.size w w' := by
  have c := begins_calls a b w ha hb hT
  have hA : begB a.data.toList b.data.toList = true → alikeP a.data.toList b.data.toList = (begN a.data.toList b.data.toList == 0) := by
    intro h
    have hp : (parseL b.data.toList).length ≤ (parseL a.data.toList).length := by
      unfold begB at h
      simp only [Bool.and_eq_true] at h
      have := (List.isPrefixOf_iff_prefix.1 h.2.2).length_le
      rwa [fnames_length, fnames_length] at this
    unfold alikeP begN
    rw [if_pos h, h, Bool.true_and, Bool.eq_iff_iff, decide_eq_true_eq, beq_iff_eq]
    omega
  have hF : begB a.data.toList b.data.toList = false → alikeP a.data.toList b.data.toList = false := by
    intro h
    unfold alikeP
    rw [h]
    rfl
  generalize alikeP a.data.toList b.data.toList = R at *
  generalize begN a.data.toList b.data.toList = n at *
  generalize begB a.data.toList b.data.toList = B at *
  have C := Lib.hid c
  clear c hT
  cases B with
  | true =>
    have hr := hA rfl
    subst hr
    clear hA hF
    go_enter Tryd.func21, Tryd.ntmps21
    go_wp2_with fail
    refine (C.out).mono ?_
    rintro e w1 ⟨rfl, hb⟩
    go_wp2
    go_ret
    exact ⟨rfl, hb⟩
  | false =>
    have hr := hF rfl
    subst hr
    clear hA hF
    go_enter Tryd.func21, Tryd.ntmps21
    go_wp2_with fail
    refine (C.out).mono ?_
    rintro e w1 ⟨rfl, hb⟩
    go_wp2
    go_ret
    exact ⟨rfl, hb⟩
set_option maxHeartbeats 2000000 in
theorem PUnder_calls (a b : ByteArray) (w : World) (ha : a.size ≤ 16777216) (hb : b.size ≤ 16777216) (hT : Tabs w) :
    Calls Tryd.prog 19 #[.string a, .string b] w fun e w' => e = .returned (.bool (underP a.data.toList b.data.toList)) ∧ Below w.heap.size w w' := by
  have c := begins_calls a b w ha hb hT
  have hA : begB a.data.toList b.data.toList = true → underP a.data.toList b.data.toList = decide (0 < begN a.data.toList b.data.toList) := by
    intro h
    unfold underP begN
    rw [if_pos h, h, Bool.true_and, Bool.eq_iff_iff, decide_eq_true_eq, decide_eq_true_eq]
    omega
  have hF : begB a.data.toList b.data.toList = false → underP a.data.toList b.data.toList = false := by
    intro h
    unfold underP
    rw [h]
    rfl
  generalize underP a.data.toList b.data.toList = R at *
  generalize begN a.data.toList b.data.toList = n at *
  generalize begB a.data.toList b.data.toList = B at *
  have C := Lib.hid c
  clear c hT
  cases B with
  | true =>
    have hr := hA rfl
    subst hr
    clear hA hF
    go_enter Tryd.func19, Tryd.ntmps19
    go_wp2_with fail
    refine (C.out).mono ?_
    rintro e w1 ⟨rfl, hb⟩
    go_wp2
    go_ret
    exact ⟨rfl, hb⟩
  | false =>
    have hr := hF rfl
    subst hr
    clear hA hF
    go_enter Tryd.func19, Tryd.ntmps19
    go_wp2_with fail
    refine (C.out).mono ?_
    rintro e w1 ⟨rfl, hb⟩
    go_wp2
    go_ret
    exact ⟨rfl, hb⟩
end Go.Proofs.YtlmadihedejaaaaDoor.U
/- The reference's answers about names and paths. -/
set_option linter.unusedVariables false
set_option linter.unusedSimpArgs false
namespace Go.Proofs.YtlmadihedejaaaaDoor.U
open Go.RowKit Go.Proofs Go.Lib Go.Proofs.YtlmadihedejaaaaDoorW.PrintWords Go.Proofs.YtlmadihedejaaaaDoor.PR

theorem w64i {n : Nat} (h : n ≤ 9000000000000000000) : wrap64 ((n : Int) + 1) = ((n + 1 : Nat) : Int) := by rw [w64 (by omega) (by omega)]; omega
/-! ### Alike -/
theorem Rfold_eq (n : Nat) (h : n ≤ 9000000) : refectoryref02_fold.f (n : Int) = some ((foldN n : Nat) : Int) := by
  unfold refectoryref02_fold.f foldN
  by_cases h1 : 65 ≤ n
  · rw [if_pos (by omega)]
    by_cases h2 : n ≤ 90
    · rw [if_pos (by omega), if_pos ⟨h1, h2⟩, w64 (by omega) (by omega)]
      congr 1
    · rw [if_neg (by omega), if_neg (by omega)]
  · rw [if_neg (by omega), if_neg (by omega)]
theorem rd_nums (xs : List Nat) (i : Nat) : rd (xs.map fun n : Nat => (n : Int)) (i : Int) = ((xs.getD i 0 : Nat) : Int) := by
  unfold rd
  rw [Int.toNat_natCast, getD_nums]
theorem order_l0 (xs ys : List Nat) (hx : ∀ n ∈ xs, n ≤ 1114500) (hy : ∀ n ∈ ys, n ≤ 1114500) (lx : xs.length ≤ 17592186044416) (ly : ys.length ≤ 17592186044416) : ∀ (d k i : Nat), xs.length - i ≤ d → i ≤ xs.length → i ≤ ys.length → 2 * d + 2 ≤ k →
    refectoryref02_Order.l0 k (xs.map fun n : Nat => (n : Int)) (ys.map fun n : Nat => (n : Int)) i = some (ordN ((xs.drop i).map foldN) ((ys.drop i).map foldN)) := by
  have fin : ∀ (k i : Nat), i ≤ xs.length → i ≤ ys.length → (i = xs.length ∨ i = ys.length) → refectoryref02_Order.j1 (k + 1) (xs.map fun n : Nat => (n : Int)) (ys.map fun n : Nat => (n : Int)) i false = some (ordN ((xs.drop i).map foldN) ((ys.drop i).map foldN)) := by
    intro k i h1 h2 h3
    rw [refectoryref02_Order.j1, if_neg (by decide), List.length_map, List.length_map, w64 (by omega) (by omega)]
    rw [ordN_end _ _ (by rcases h3 with h3 | h3; left; rw [List.drop_eq_nil_of_le (by omega)]; rfl; right; rw [List.drop_eq_nil_of_le (by omega)]; rfl)]
    rw [List.length_map, List.length_map, List.length_drop, List.length_drop]
    congr 1
    omega
  intro d
  induction d with
  | zero =>
    intro k i hd h1 h2 hk
    obtain ⟨k, rfl⟩ : ∃ m, k = m + 1 + 1 := ⟨k - 2, by omega⟩
    rw [refectoryref02_Order.l0, if_neg (by rw [List.length_map]; omega)]
    exact fin k i h1 h2 (.inl (by omega))
  | succ d ih =>
    intro k i hd h1 h2 hk
    obtain ⟨k, rfl⟩ : ∃ m, k = m + 1 + 1 := ⟨k - 2, by omega⟩
    by_cases hi : i < xs.length
    · rw [refectoryref02_Order.l0, if_pos (by rw [List.length_map]; omega)]
      by_cases hj : i < ys.length
      · rw [decide_eq_true (by rw [List.length_map]; omega)]
        rw [refectoryref02_Order.j1, if_pos rfl, if_pos (by omega), if_pos (by rw [List.length_map]; omega), rd_nums, rd_nums]
        have bx : xs.getD i 0 ≤ 1114500 := hx _ (by rw [List.getD_eq_getElem?_getD, List.getElem?_eq_getElem hi]; exact List.getElem_mem hi)
        have by' : ys.getD i 0 ≤ 1114500 := hy _ (by rw [List.getD_eq_getElem?_getD, List.getElem?_eq_getElem hj]; exact List.getElem_mem hj)
        rw [Rfold_eq _ (by omega), Option.bind_some, if_pos (by rw [List.length_map]; omega), Rfold_eq _ (by omega), Option.bind_some]
        rw [drop_cons hi, drop_cons hj, List.map_cons, List.map_cons, ordN_cons]
        by_cases he : foldN (xs.getD i 0) = foldN (ys.getD i 0)
        · rw [if_pos (by rw [he]), if_pos he, w64i (by omega), ih k (i + 1) (by omega) (by omega) (by omega) (by omega)]
        · rw [if_neg (by omega), if_neg he, Option.bind_some, Option.bind_some]
          have fx : foldN (xs.getD i 0) ≤ 1114600 := by unfold foldN; split <;> omega
          have fy : foldN (ys.getD i 0) ≤ 1114600 := by unfold foldN; split <;> omega
          rw [w64 (by omega) (by omega)]
      · rw [decide_eq_false (by rw [List.length_map]; omega)]
        exact fin k i h1 h2 (.inr (by omega))
    · rw [refectoryref02_Order.l0, if_neg (by rw [List.length_map]; omega)]
      exact fin k i h1 h2 (.inl (by omega))
theorem RAlike_eq (a b : ByteArray) (ha : a.size ≤ 17592186044415) (hb : b.size ≤ 17592186044415) (k : Nat) (hk : 2 * a.size + b.size + 20 ≤ k) : refectoryref02_Alike.f k a b = some (alikeB a.data.toList b.data.toList) := by
  unfold refectoryref02_Alike.f refectoryref02_Order.f
  rw [Letters_eq a ha k (by omega), Option.bind_some, Letters_eq b hb k (by omega), Option.bind_some]
  have la := letters_len a.data.toList
  have lb := letters_len b.data.toList
  rw [← size_eq] at la lb
  have := order_l0 (letters a.data.toList) (letters b.data.toList) (letters_bound _) (letters_bound _) (by omega) (by omega) a.size k 0 (by omega) (by omega) (by omega) (by omega)
  rw [show ((0 : Nat) : Int) = 0 from rfl] at this
  show ((refectoryref02_Order.l0 k (lnums a.data.toList) (lnums b.data.toList) 0).bind fun t => some (t == 0)) = _
  unfold lnums
  rw [this, Option.bind_some, List.drop_zero, List.drop_zero]
  unfold alikeB flet
  rfl
/-! ### Names -/
theorem barred_step (k : Nat) (n j : Nat) (c : Nat) (hj : j < 9) (hc : bt (⟨#[92, 47, 58, 42, 63, 34, 60, 62, 124]⟩ : ByteArray) (j : Int) = (c : Int)) (hb : c < 256) :
    refectoryref06_barred.l0 (k + 1) (n : Int) (j : Int) = if n = c then some true else refectoryref06_barred.l0 k (n : Int) ((j + 1 : Nat) : Int) := by
  rw [refectoryref06_barred.l0, if_pos (by omega), if_pos (by omega), hc, w64 (by omega) (by omega), w64i (by omega)]
  by_cases h : n = c
  · rw [if_pos (by omega), if_pos h]
  · rw [if_neg (by omega), if_neg h]
theorem Rbarred_eq (k n : Nat) (hk : 12 ≤ k) : refectoryref06_barred.f k (n : Int) = some (!okN n) := by
  obtain ⟨k, rfl⟩ : ∃ m, k = m + 1 + 1 + 1 + 1 + 1 + 1 + 1 + 1 + 1 + 1 := ⟨k - 10, by omega⟩
  unfold refectoryref06_barred.f okN
  by_cases h32 : n < 32
  · rw [if_pos (by omega), decide_eq_true h32]
    simp
  · rw [if_neg (by omega), decide_eq_false h32]
    have s0 := barred_step (k + 1 + 1 + 1 + 1 + 1 + 1 + 1 + 1 + 1) n 0 92 (by decide) rfl (by decide)
    rw [show ((0 : Nat) : Int) = 0 from rfl] at s0
    rw [s0, barred_step _ n 1 47 (by decide) rfl (by decide), barred_step _ n 2 58 (by decide) rfl (by decide), barred_step _ n 3 42 (by decide) rfl (by decide), barred_step _ n 4 63 (by decide) rfl (by decide), barred_step _ n 5 34 (by decide) rfl (by decide), barred_step _ n 6 60 (by decide) rfl (by decide), barred_step _ n 7 62 (by decide) rfl (by decide), barred_step _ n 8 124 (by decide) rfl (by decide)]
    have s9 : refectoryref06_barred.l0 (k + 1) (n : Int) ((8 + 1 : Nat) : Int) = some false := by rw [refectoryref06_barred.l0, if_neg (by decide)]
    rw [s9]
    unfold barN
    by_cases h1 : n = 92
    · simp [h1]
    by_cases h2 : n = 47
    · simp [h2]
    by_cases h3 : n = 58
    · simp [h3]
    by_cases h4 : n = 42
    · simp [h4]
    by_cases h5 : n = 63
    · simp [h5]
    by_cases h6 : n = 34
    · simp [h6]
    by_cases h7 : n = 60
    · simp [h7]
    by_cases h8 : n = 62
    · simp [h8]
    by_cases h9 : n = 124
    · simp [h9]
    simp [h1, h2, h3, h4, h5, h6, h7, h8, h9]
theorem name_l0 (ns : List Nat) (hne : ns ≠ []) (hl : ns.length ≤ 32) : ∀ (d k i : Nat), ns.length - i ≤ d → i ≤ ns.length → d + 20 ≤ k →
    refectoryref06_Name.l0 k (ns.map fun n : Nat => (n : Int)) i = some ((ns.drop i).all okN && decide (ns.getLastD 0 ≠ 32) && decide (ns.getLastD 0 ≠ 46)) := by
  have h1 := List.length_pos_iff.2 hne
  have hg : ns.getD (ns.length - 1) 0 = ns.getLastD 0 := by
    rw [List.getD_eq_getElem?_getD, List.getLastD_eq_getLast?, List.getLast?_eq_getElem?]
  have fin : ∀ k, refectoryref06_Name.l0 (k + 1) (ns.map fun n : Nat => (n : Int)) (ns.length : Int) = some ((ns.drop ns.length).all okN && decide (ns.getLastD 0 ≠ 32) && decide (ns.getLastD 0 ≠ 46)) := by
    intro k
    rw [refectoryref06_Name.l0, if_neg (by rw [List.length_map]; omega), List.length_map]
    have e : wrap64 ((ns.length : Int) - 1) = ((ns.length - 1 : Nat) : Int) := by rw [w64 (by omega) (by omega)]; omega
    rw [e, if_pos (by omega), if_pos (by omega), rd_nums, hg, List.drop_length, List.all_nil, Bool.true_and]
    by_cases a : ns.getLastD 0 = 32
    · rw [if_pos (by omega), decide_eq_false (by simpa using a)]
      rfl
    · rw [if_neg (by omega), decide_eq_true a, Bool.true_and]
      congr 1
      rw [Bool.eq_iff_iff, bne_iff_ne, decide_eq_true_eq]
      omega
  intro d
  induction d with
  | zero =>
    intro k i hd hi hk
    obtain ⟨k, rfl⟩ : ∃ m, k = m + 1 := ⟨k - 1, by omega⟩
    obtain rfl : i = ns.length := by omega
    exact fin k
  | succ d ih =>
    intro k i hd hi hk
    obtain ⟨k, rfl⟩ : ∃ m, k = m + 1 := ⟨k - 1, by omega⟩
    by_cases h : i < ns.length
    · rw [refectoryref06_Name.l0, if_pos (by rw [List.length_map]; omega), if_pos (by omega), rd_nums, Rbarred_eq k _ (by omega), Option.bind_some, drop_cons h, List.all_cons]
      cases okN (ns.getD i 0) with
      | true => rw [if_neg (by decide), w64i (by omega), ih k (i + 1) (by omega) (by omega) (by omega), Bool.true_and]
      | false => rfl
    · obtain rfl : i = ns.length := by omega
      exact fin k
theorem RName_eq (s : ByteArray) (hs : s.size ≤ 17592186044415) (k : Nat) (hk : s.size + 80 ≤ k) : refectoryref06_Name.f k s = some (nameB s.data.toList) := by
  obtain ⟨k, rfl⟩ : ∃ m, k = m + 1 := ⟨k - 1, by omega⟩
  unfold refectoryref06_Name.f
  rw [Letters_eq s hs _ (by omega), Option.bind_some, nameB_eq]
  have hlen : (lnums s.data.toList).length = (letters s.data.toList).length := by unfold lnums; rw [List.length_map]
  dsimp only
  cases valid s.data.toList with
  | false => rfl
  | true =>
    rw [if_pos rfl, Bool.true_and, hlen]
    by_cases h1 : (letters s.data.toList).length < 1
    · rw [if_pos (by omega), refectoryref06_Name.j0, if_pos rfl, decide_eq_false (show ¬ 1 ≤ (letters s.data.toList).length by omega)]
      simp
    · rw [if_neg (by omega), refectoryref06_Name.j0]
      by_cases h2 : (letters s.data.toList).length ≤ 32
      · rw [if_neg (by simp; omega), decide_eq_true (show 1 ≤ (letters s.data.toList).length by omega), decide_eq_true h2]
        have hne : letters s.data.toList ≠ [] := by
          intro e
          rw [e] at h1
          exact h1 (by decide)
        have := name_l0 (letters s.data.toList) hne h2 32 k 0 (by omega) (by omega) (by omega)
        rw [show ((0 : Nat) : Int) = 0 from rfl, List.drop_zero] at this
        unfold lnums
        rw [this, Bool.and_true, Bool.and_true]
      · rw [if_pos (by simp; omega), decide_eq_false h2]
        simp
/-! ### Paths -/
theorem extract_list (s : ByteArray) (i j : Nat) : s.extract i j = mkB ((s.data.toList.drop i).take (j - i)) := by
  rw [← mkB_of (s.extract i j)]
  congr 1
  simp
def presult (out : List ByteArray) (l : List UInt8) : List ByteArray × Int := if (parts l).all nameB then (if out.length + (parts l).length ≤ 8 then (out ++ (parts l).map mkB, 0) else ([], 3)) else ([], 2)
theorem bt_at (s : ByteArray) (i : Nat) (h : i < s.data.toList.length) : bt s (i : Int) = ((s.data.toList[i]).toNat : Int) := by
  have hb := bt_drop s i 0 (by rw [size_eq]; omega)
  rw [Nat.add_zero, List.drop_eq_getElem_cons h] at hb
  simpa using hb
theorem parse_l0 (s : ByteArray) (hs : s.size ≤ 4398046511104) : ∀ (d k fr i : Nat) (out : List ByteArray), s.size - i ≤ d → fr ≤ i → i ≤ s.size → out.length ≤ i → (92 : UInt8) ∉ (s.data.toList.drop fr).take (i - fr) → 2 * d + s.size + 100 ≤ k →
    refectoryref06_Parse.l0 k s out fr i = some (presult out (s.data.toList.drop fr)) := by
  have sz : s.data.toList.length = s.size := (size_eq s).symm
  have last : ∀ (k fr : Nat) (out : List ByteArray), fr ≤ s.size → out.length ≤ s.size → (92 : UInt8) ∉ s.data.toList.drop fr → s.size + 90 ≤ k → refectoryref06_Parse.j1 (k + 1) s out fr s.size false = some (presult out (s.data.toList.drop fr)) := by
    intro k fr out h1 h2 hn hk
    obtain ⟨k, rfl⟩ : ∃ m, k = m + 1 := ⟨k - 1, by omega⟩
    have hx : s.extract fr s.size = mkB (s.data.toList.drop fr) := by
      rw [extract_list, List.take_of_length_le (by rw [List.length_drop, sz]; omega)]
    rw [refectoryref06_Parse.j1, if_neg (by decide), if_pos (by omega), if_pos (by omega), if_pos (by omega), Int.toNat_natCast, Int.toNat_natCast, hx]
    rw [RName_eq _ (by rw [mkB_size, List.length_drop, sz]; omega) _ (by rw [mkB_size, List.length_drop, sz]; omega), Option.bind_some, mkB_list]
    unfold presult
    rw [parts_no _ hn]
    cases hb : nameB (s.data.toList.drop fr) with
    | false =>
      rw [if_neg (by decide), if_neg (by rw [List.all_cons, hb]; decide)]
    | true =>
      have hall : [s.data.toList.drop fr].all nameB = true := by rw [List.all_cons, hb]; rfl
      rw [if_pos hall, if_pos rfl, if_pos (by omega), w64i (by omega), refectoryref06_Parse.l0, if_neg (by omega), List.length_append]
      show (if (((out.length + 1 : Nat) : Int)) > 8 then _ else _) = some (if out.length + 1 ≤ 8 then _ else _)
      by_cases h8 : out.length + 1 ≤ 8
      · rw [if_neg (by omega), if_pos h8]; rfl
      · rw [if_pos (by omega), if_neg h8]
  intro d
  induction d with
  | zero =>
    intro k fr i out hd hf hi ho hn hk
    obtain ⟨k, rfl⟩ : ∃ m, k = m + 1 + 1 := ⟨k - 2, by omega⟩
    obtain rfl : i = s.size := by omega
    rw [refectoryref06_Parse.l0, if_pos (by omega), if_neg (by omega)]
    rw [List.take_of_length_le (by rw [List.length_drop, sz]; omega)] at hn
    exact last k fr out hf ho hn (by omega)
  | succ d ih =>
    intro k fr i out hd hf hi ho hn hk
    obtain ⟨k, rfl⟩ : ∃ m, k = m + 1 + 1 := ⟨k - 2, by omega⟩
    by_cases h : i < s.size
    · have hlt : i < s.data.toList.length := by omega
      rw [refectoryref06_Parse.l0, if_pos (by omega), if_pos (by omega), if_pos (by omega), bt_at s i hlt]
      have hsplit : s.data.toList.drop fr = (s.data.toList.drop fr).take (i - fr) ++ s.data.toList[i] :: s.data.toList.drop (i + 1) := by
        conv => lhs; rw [← List.take_append_drop (i - fr) (s.data.toList.drop fr)]
        rw [List.drop_drop, show fr + (i - fr) = i from by omega, List.drop_eq_getElem_cons hlt]
      by_cases hc : s.data.toList[i] = 92
      · have e : ((((s.data.toList[i]).toNat : Int)) != 92) = false := by rw [hc]; rfl
        rw [e, refectoryref06_Parse.j1, if_neg (by decide), if_pos (by omega), if_pos (by omega), if_pos (by omega), Int.toNat_natCast, Int.toNat_natCast, extract_list]
        have hpl : ((s.data.toList.drop fr).take (i - fr)).length ≤ s.size := by rw [List.length_take, List.length_drop, sz]; omega
        rw [RName_eq _ (by rw [mkB_size]; omega) _ (by rw [mkB_size]; omega), Option.bind_some, mkB_list]
        have hp : parts (s.data.toList.drop fr) = (s.data.toList.drop fr).take (i - fr) :: parts (s.data.toList.drop (i + 1)) := by
          conv => lhs; rw [hsplit, hc]
          exact parts_cut _ _ hn
        unfold presult
        rw [hp, List.all_cons]
        cases hb : nameB ((s.data.toList.drop fr).take (i - fr)) with
        | false => rfl
        | true =>
          rw [if_pos rfl, if_pos (by omega), w64i (by omega), ih k (i + 1) (i + 1) _ (by omega) (by omega) (by omega) (by rw [List.length_append]; show out.length + 1 ≤ _; omega) (by simp) (by omega)]
          unfold presult
          simp only [List.length_append, List.length_cons, List.length_nil, Nat.zero_add, List.map_cons, List.append_assoc, List.singleton_append, Bool.true_and]
          rw [show out.length + 1 + (parts (s.data.toList.drop (i + 1))).length = out.length + ((parts (s.data.toList.drop (i + 1))).length + 1) from by omega]
      · have e : ((((s.data.toList[i]).toNat : Int)) != 92) = true := by
          rw [bne_iff_ne]
          intro e
          exact hc (UInt8.toNat_inj.1 (by rw [show (92 : UInt8).toNat = 92 from rfl]; omega))
        rw [e, refectoryref06_Parse.j1, if_pos rfl, w64i (by omega), ih k fr (i + 1) out (by omega) (by omega) (by omega) (by omega) ?_ (by omega)]
        have ht : (s.data.toList.drop fr).take (i + 1 - fr) = (s.data.toList.drop fr).take (i - fr) ++ [s.data.toList[i]] := by
          rw [show i + 1 - fr = (i - fr) + 1 from by omega, List.take_add_one, List.getElem?_drop, show fr + (i - fr) = i from by omega, List.getElem?_eq_getElem hlt]
          rfl
        rw [ht, List.mem_append, not_or, List.mem_singleton]
        exact ⟨hn, fun e => hc e.symm⟩
    · obtain rfl : i = s.size := by omega
      rw [refectoryref06_Parse.l0, if_pos (by omega), if_neg (by omega)]
      rw [List.take_of_length_le (by rw [List.length_drop, sz]; omega)] at hn
      exact last k fr out hf ho hn (by omega)
theorem RParse_eq (s : ByteArray) (hs : s.size ≤ 4398046511104) (k : Nat) (hk : 3 * s.size + 100 ≤ k) : refectoryref06_Parse.f k s = some (parseB s, parseE s.data.toList) := by
  unfold refectoryref06_Parse.f
  rw [Lib.toList_data]
  by_cases h0 : s.data.toList = []
  · rw [if_pos h0]
    unfold parseB
    rw [h0]
    rfl
  · rw [if_neg h0]
    have := parse_l0 s hs s.size k 0 0 [] (by omega) (by omega) (by omega) (by simp) (by simp) (by omega)
    rw [show ((0 : Nat) : Int) = 0 from rfl, List.drop_zero] at this
    rw [this]
    congr 1
    unfold presult parseB parseL parseE
    rw [if_neg h0]
    by_cases ha : (parts s.data.toList).all nameB = true
    · rw [if_pos ha, if_pos ha]
      by_cases h8 : (parts s.data.toList).length ≤ 8
      · rw [if_pos (by simpa using h8), if_pos h8, if_neg (by simp [h0])]
        rfl
      · rw [if_neg (by simpa using h8), if_neg h8, if_pos (.inr (by decide))]
        rfl
    · rw [if_neg ha, if_neg ha, if_pos (.inr (by decide))]
      rfl
theorem RParse_calls (s : ByteArray) (w : World) (hs : s.size ≤ 4398046511104) :
    Calls Tryd.prog 14 #[.string s] w fun e w' => ∃ v, e = .returned (.tuple #[v, .int .i64 (parseE s.data.toList)]) ∧ SR w' w.heap.size v (parseB s) ∧ Below w.heap.size w w' :=
  refectoryref06_Parse.calls _ s _ _ w (RParse_eq s hs _ (Nat.le_refl _))
theorem RName_calls (s : ByteArray) (w : World) (hs : s.size ≤ 17592186044415) :
    Calls Tryd.prog 20 #[.string s] w fun e w' => e = .returned (.bool (nameB s.data.toList)) ∧ Below w.heap.size w w' :=
  (refectoryref06_Name.calls _ s _ w (RName_eq s hs _ (Nat.le_refl _))).mono fun e w' ⟨he, hb⟩ => ⟨he, by first | exact hb | exact hb.below⟩
/-! ### Rows of strings, one against the other -/
theorem rdOf_nat (xs : List ByteArray) (i : Nat) : rdOf ByteArray.empty xs (i : Int) = xs.getD i ByteArray.empty := by
  unfold rdOf
  rw [Int.toNat_natCast]
theorem getD_at {xs : List ByteArray} {i : Nat} (h : i < xs.length) : xs[i]? = some (xs.getD i ByteArray.empty) := by
  rw [List.getD_eq_getElem?_getD, List.getElem?_eq_getElem h]
  rfl
theorem begins_l0 (X Y : List ByteArray) (M : Nat) (hX : ∀ x ∈ X, x.size ≤ M) (hY : ∀ y ∈ Y, y.size ≤ M) (hM : M ≤ 17592186044415) (hl : Y.length ≤ X.length) (hl8 : X.length ≤ 100) : ∀ (d k i : Nat), Y.length - i ≤ d → i ≤ Y.length → d + 3 * M + 30 ≤ k →
    refectoryref06_begins.l0 k X Y i = some (bgL (X.drop i) (Y.drop i)) := by
  intro d
  induction d with
  | zero =>
    intro k i hd hi hk
    obtain ⟨k, rfl⟩ : ∃ m, k = m + 1 := ⟨k - 1, by omega⟩
    have hy : Y.drop i = [] := List.drop_eq_nil_of_le (by omega)
    rw [refectoryref06_begins.l0, if_neg (by omega), hy]
    cases X.drop i <;> rfl
  | succ d ih =>
    intro k i hd hi hk
    obtain ⟨k, rfl⟩ : ∃ m, k = m + 1 := ⟨k - 1, by omega⟩
    by_cases h : i < Y.length
    · have hx := getD_at (xs := X) (i := i) (by omega)
      have hy := getD_at (xs := Y) h
      have bx := hX _ (List.mem_of_getElem? hx)
      have by' := hY _ (List.mem_of_getElem? hy)
      rw [refectoryref06_begins.l0, if_pos (by omega), if_pos (by omega), if_pos (by omega), rdOf_nat, rdOf_nat, RAlike_eq _ _ (by omega) (by omega) k (by omega), Option.bind_some, bgL_step hx hy]
      cases alikeB (X.getD i ByteArray.empty).data.toList (Y.getD i ByteArray.empty).data.toList with
      | true => rw [if_pos rfl, w64i (by omega), ih k (i + 1) (by omega) (by omega) (by omega), Bool.true_and]
      | false => rfl
    · have hy : Y.drop i = [] := List.drop_eq_nil_of_le (by omega)
      rw [refectoryref06_begins.l0, if_neg (by omega), hy]
      cases X.drop i <;> rfl
theorem Rbegins_eq (a b : ByteArray) (M : Nat) (ha : a.size ≤ M) (hb : b.size ≤ M) (hM : M ≤ 17592186044415) (k : Nat) (hk : 3 * M + 50 ≤ k) : refectoryref06_begins.f k (parseB a) (parseB b) = some (bgL (parseB a) (parseB b)) := by
  unfold refectoryref06_begins.f
  have h8 := parseB_max a
  have h9 := parseB_max b
  by_cases h : (parseB a).length < (parseB b).length
  · rw [if_pos (by omega), bgL_short h]
  · rw [if_neg (by omega)]
    have := begins_l0 (parseB a) (parseB b) M (fun x hx => Nat.le_trans (parseB_size a x hx) ha) (fun x hx => Nat.le_trans (parseB_size b x hx) hb) hM (by omega) (by omega) (parseB b).length k 0 (by omega) (by omega) (by omega)
    rw [show ((0 : Nat) : Int) = 0 from rfl] at this
    rw [this]
    rfl
theorem RPAlike_eq (a b : ByteArray) (ha : a.size ≤ 4398046511104) (hb : b.size ≤ 4398046511104) : refectoryref06_Alike.f (3 * (a.size + b.size) + 100) a b = some (alikeP a.data.toList b.data.toList) := by
  unfold refectoryref06_Alike.f
  rw [RParse_eq a ha _ (by omega), Option.bind_some, RParse_eq b hb _ (by omega), Option.bind_some]
  dsimp only
  unfold alikeP begB
  rw [parseB_length, parseB_length, ← bgL_names]
  by_cases h1 : parseE a.data.toList = 0
  · rw [if_pos h1, decide_eq_true h1, Bool.true_and]
    by_cases h2 : parseE b.data.toList = 0
    · rw [if_pos h2, decide_eq_true h2, Bool.true_and]
      by_cases h3 : (parseL a.data.toList).length = (parseL b.data.toList).length
      · rw [if_pos (by omega), decide_eq_true h3, Bool.and_true, Rbegins_eq a b (max a.size b.size) (Nat.le_max_left _ _) (Nat.le_max_right _ _) (by omega) _ (by omega), Option.bind_some]
      · rw [if_neg (by omega), decide_eq_false h3, Bool.and_false]
    · rw [if_neg h2, decide_eq_false h2]
      rfl
  · rw [if_neg h1, decide_eq_false h1]
    rfl
theorem RPUnder_eq (a b : ByteArray) (ha : a.size ≤ 4398046511104) (hb : b.size ≤ 4398046511104) : refectoryref06_Under.f (3 * (a.size + b.size) + 100) a b = some (underP a.data.toList b.data.toList) := by
  unfold refectoryref06_Under.f
  rw [RParse_eq a ha _ (by omega), Option.bind_some, RParse_eq b hb _ (by omega), Option.bind_some]
  dsimp only
  unfold underP begB
  rw [parseB_length, parseB_length, ← bgL_names]
  by_cases h1 : parseE a.data.toList = 0
  · rw [if_pos h1, decide_eq_true h1, Bool.true_and]
    by_cases h2 : parseE b.data.toList = 0
    · rw [if_pos h2, decide_eq_true h2, Bool.true_and]
      by_cases h3 : (parseL b.data.toList).length < (parseL a.data.toList).length
      · rw [if_pos (by omega), decide_eq_true h3, Bool.and_true, Rbegins_eq a b (max a.size b.size) (Nat.le_max_left _ _) (Nat.le_max_right _ _) (by omega) _ (by omega), Option.bind_some]
      · rw [if_neg (by omega), decide_eq_false h3, Bool.and_false]
    · rw [if_neg h2, decide_eq_false h2]
      rfl
  · rw [if_neg h1, decide_eq_false h1]
    rfl
theorem RPAlike_calls (a b : ByteArray) (w : World) (ha : a.size ≤ 4398046511104) (hb : b.size ≤ 4398046511104) :
    Calls Tryd.prog 22 #[.string a, .string b] w fun e w' => e = .returned (.bool (alikeP a.data.toList b.data.toList)) ∧ Below w.heap.size w w' :=
  (refectoryref06_Alike.calls _ a b _ w (RPAlike_eq a b ha hb)).mono fun e w' ⟨he, hb⟩ => ⟨he, by first | exact hb | exact hb.below⟩
theorem RPUnder_calls (a b : ByteArray) (w : World) (ha : a.size ≤ 4398046511104) (hb : b.size ≤ 4398046511104) :
    Calls Tryd.prog 23 #[.string a, .string b] w fun e w' => e = .returned (.bool (underP a.data.toList b.data.toList)) ∧ Below w.heap.size w w' :=
  (refectoryref06_Under.calls _ a b _ w (RPUnder_eq a b ha hb)).mono fun e w' ⟨he, hb⟩ => ⟨he, by first | exact hb | exact hb.below⟩
theorem texts_l0 (X Y : List ByteArray) (hl : X.length = Y.length) (hb : X.length ≤ 8000000000000000000) : ∀ (d k i : Nat), X.length - i ≤ d → i ≤ X.length → d + 1 ≤ k →
    refectoryref00_Texts.l0 k X Y i = some (decide (X.drop i = Y.drop i)) := by
  intro d
  induction d with
  | zero =>
    intro k i hd hi hk
    obtain ⟨k, rfl⟩ : ∃ m, k = m + 1 := ⟨k - 1, by omega⟩
    rw [refectoryref00_Texts.l0, if_neg (by omega), List.drop_eq_nil_of_le (by omega), List.drop_eq_nil_of_le (by omega)]
    rfl
  | succ d ih =>
    intro k i hd hi hk
    obtain ⟨k, rfl⟩ : ∃ m, k = m + 1 := ⟨k - 1, by omega⟩
    by_cases h : i < X.length
    · rw [refectoryref00_Texts.l0, if_pos (by omega), if_pos (by omega), if_pos (by omega), rdOf_nat, rdOf_nat, Lib.toList_data, Lib.toList_data]
      have e1 : X.drop i = X.getD i ByteArray.empty :: X.drop (i + 1) := by
        rw [List.drop_eq_getElem_cons h, List.getD_eq_getElem?_getD, List.getElem?_eq_getElem h]; rfl
      have e2 : Y.drop i = Y.getD i ByteArray.empty :: Y.drop (i + 1) := by
        rw [List.drop_eq_getElem_cons (show i < Y.length by omega), List.getD_eq_getElem?_getD, List.getElem?_eq_getElem (show i < Y.length by omega)]; rfl
      rw [e1, e2]
      generalize X.getD i ByteArray.empty = x
      generalize Y.getD i ByteArray.empty = y
      by_cases hxy : x = y
      · rw [if_pos (by rw [hxy]), w64i (by omega), ih k (i + 1) (by omega) (by omega) (by omega)]
        congr 1
        exact decide_eq_decide.2 ⟨fun e => by rw [e, hxy], fun e => by injection e⟩
      · rw [if_neg (fun e => hxy (by rw [← mkB_of x, ← mkB_of y, e]))]
        rw [decide_eq_false (fun e => hxy (by injection e))]
    · rw [refectoryref00_Texts.l0, if_neg (by omega), List.drop_eq_nil_of_le (by omega), List.drop_eq_nil_of_le (by omega)]
      rfl
theorem Texts_eq (X Y : List ByteArray) (hb : X.length ≤ 8000000000000000000) : refectoryref00_Texts.f (X.length + 1) X Y = some (decide (X = Y)) := by
  unfold refectoryref00_Texts.f
  by_cases h : X.length = Y.length
  · rw [if_pos (by omega)]
    have := texts_l0 X Y h hb X.length (X.length + 1) 0 (by omega) (by omega) (by omega)
    rw [show ((0 : Nat) : Int) = 0 from rfl, List.drop_zero, List.drop_zero] at this
    exact this
  · rw [if_neg (by omega), decide_eq_false (fun e => h (by rw [e]))]
theorem Texts_calls (A1 A2 : Option Addr) (c1 c2 : Nat) (X Y : List ByteArray) (w : World) (h1 : Kd.C Kd.string w A1 X.length X) (k1 : X.length ≤ c1) (h2 : Kd.C Kd.string w A2 Y.length Y) (k2 : Y.length ≤ c2) (hb : X.length ≤ 8000000000000000000) :
    Calls Tryd.prog 15 #[.slice A1 X.length c1, .slice A2 Y.length c2] w fun e w' => e = .returned (.bool (decide (X = Y))) ∧ Below w.heap.size w w' :=
  (refectoryref00_Texts.calls _ A1 c1 X A2 c2 Y _ w h1 k1 h2 k2 (Texts_eq X Y hb)).mono fun e w' ⟨he, hb⟩ => ⟨he, by first | exact hb | exact hb.below⟩
end Go.Proofs.YtlmadihedejaaaaDoor.U
/- path: the document's own examples. -/
set_option linter.unusedVariables false
set_option linter.unusedSimpArgs false
namespace Go.Proofs.YtlmadihedejaaaaDoor.U
open Go.RowKit Go.Proofs Go.Lib Go.Proofs.YtlmadihedejaaaaDoorW.PrintWords Go.Proofs.YtlmadihedejaaaaDoor.PR

theorem ex_path1 : parseE [97, 92, 66, 46, 116, 120, 116] = 0 ∧ parseL [97, 92, 66, 46, 116, 120, 116] = [[97], [66, 46, 116, 120, 116]] := by decide +kernel
theorem ex_path2 : parseE [97, 92, 92, 98] = 2 := by decide +kernel
theorem ex_path3 : underP [65, 92, 98] [97] = true ∧ nameB [97, 46] = false := by decide +kernel
theorem texts_row (W : World) (xs : List ByteArray) (hl : xs.length ≤ maxLen) : Kd.C Kd.string (W.alloc (.cells (xs.map Value.string).toArray 9)) (some ⟨W.heap.size, 0, none⟩) xs.length xs := by
  obtain ⟨A, c, h, _, hc⟩ := (SR.new xs W hl).reads
  injection h with h1 h2 h3
  subst h1
  exact hc

set_option maxHeartbeats 8000000 in
set_option maxRecDepth 1000000 in
theorem works_calls (w : World) (hT : Tabs w) :
    Calls Tryd.prog 16 #[] w fun e w' => e = .returned (.bool true) ∧ Below w.heap.size w w' := by
  have c1 := fun W h => Parse_calls ⟨#[97, 92, 66, 46, 116, 120, 116]⟩ W (by decide) h
  have c2 := fun W h => Parse_calls ⟨#[97, 92, 92, 98]⟩ W (by decide) h
  have c3 := fun W h => PUnder_calls ⟨#[65, 92, 98]⟩ ⟨#[97]⟩ W (by decide) (by decide) h
  have c4 := fun W h => Name_calls ⟨#[97, 46]⟩ W (by decide) h
  have e1 : parseB ⟨#[97, 92, 66, 46, 116, 120, 116]⟩ = [⟨#[97]⟩, ⟨#[66, 46, 116, 120, 116]⟩] := by
    unfold parseB
    rw [show (⟨#[97, 92, 66, 46, 116, 120, 116]⟩ : ByteArray).data.toList = [97, 92, 66, 46, 116, 120, 116] from rfl, ex_path1.2]
    rfl
  rw [show (⟨#[97, 92, 66, 46, 116, 120, 116]⟩ : ByteArray).data.toList = [97, 92, 66, 46, 116, 120, 116] from rfl, ex_path1.1, e1] at c1
  rw [show (⟨#[97, 92, 92, 98]⟩ : ByteArray).data.toList = [97, 92, 92, 98] from rfl, ex_path2] at c2
  rw [show (⟨#[65, 92, 98]⟩ : ByteArray).data.toList = [65, 92, 98] from rfl, show (⟨#[97]⟩ : ByteArray).data.toList = [97] from rfl, ex_path3.1] at c3
  rw [show (⟨#[97, 46]⟩ : ByteArray).data.toList = [97, 46] from rfl, ex_path3.2] at c4
  have C1 := Lib.hid c1
  have C2 := Lib.hid c2
  have C3 := Lib.hid c3
  have C4 := Lib.hid c4
  have HT := Lib.hid hT
  have B0 := Lib.hid (Below.refl w.heap.size w)
  clear c1 c2 c3 c4 hT e1
  go_enter Tryd.func16, Tryd.ntmps16
  go_wp2_with fail
  refine (C1.out _ HT.out).mono ?_
  rintro e w1 ⟨v1, rfl, hs1, hb⟩
  have T_1 := Lib.hid (HT.out.below hb)
  have B1 := Lib.hid (B0.out.trans (hb.mono B0.out.size))
  have S1 := Lib.hid hs1
  clear hb hs1 HT
  go_wp2_with fail
  refine (C2.out _ T_1.out).mono ?_
  rintro e w2 ⟨v2, rfl, hs2, hb⟩
  have T_2 := Lib.hid (T_1.out.below hb)
  have B2 := Lib.hid (B1.out.trans (hb.mono B1.out.size))
  have S2 := Lib.hid (S1.out.below hb)
  clear hb hs2 T_1 B1 S1
  have ht := texts_row w2 [⟨#[97]⟩, ⟨#[66, 46, 116, 120, 116]⟩] (by decide)
  have hb0 : Below w2.heap.size w2 (w2.alloc (.cells ([(⟨#[97]⟩ : ByteArray), ⟨#[66, 46, 116, 120, 116]⟩].map Value.string).toArray 9)) := (Below.refl _ _).alloc (Nat.le_refl _) _
  obtain ⟨A1, k1, rfl, hk1, hc1⟩ := (S2.out.below hb0).reads
  have T_3 := Lib.hid (T_2.out.below hb0)
  have B3 := Lib.hid (B2.out.trans (hb0.mono B2.out.size))
  have HC1 := Lib.hid hc1
  have HC2 := Lib.hid ht
  clear ht hc1 hb0 S2 T_2 B2
  go_wp2_with fail
  refine (Texts_calls _ _ _ _ [⟨#[97]⟩, ⟨#[66, 46, 116, 120, 116]⟩] [⟨#[97]⟩, ⟨#[66, 46, 116, 120, 116]⟩] _ HC1.out hk1 HC2.out (by decide) (by decide)).mono ?_
  rintro e w3 ⟨rfl, hb⟩
  rw [decide_eq_true (rfl : [(⟨#[97]⟩ : ByteArray), ⟨#[66, 46, 116, 120, 116]⟩] = _)]
  have T_4 := Lib.hid (T_3.out.below hb)
  have B4 := Lib.hid (B3.out.trans (hb.mono B3.out.size))
  clear hb T_3 B3 HC1 HC2 hk1
  go_wp2_with fail
  refine (C3.out _ T_4.out).mono ?_
  rintro e w4 ⟨rfl, hb⟩
  have T_5 := Lib.hid (T_4.out.below hb)
  have B5 := Lib.hid (B4.out.trans (hb.mono B4.out.size))
  clear hb T_4 B4
  go_wp2_with fail
  refine (C4.out _ T_5.out).mono ?_
  rintro e w5 ⟨rfl, hb⟩
  have B6 := Lib.hid (B5.out.trans (hb.mono B5.out.size))
  clear hb T_5 B5
  go_wp2
  go_ret
  exact ⟨rfl, B6.out⟩
end Go.Proofs.YtlmadihedejaaaaDoor.U
/- What the bound on a reading's bulk gives: a string's letters, a slice's elements. -/
namespace Go.Proofs.YtlmadihedejaaaaDoor.bulks
theorem one_le {H : Type} (d : DataW H) : 1 ≤ Rows.uptoBulk d := by
  cases d with
  | lit l => cases l <;> simp [Rows.uptoBulk]
  | nil => simp [Rows.uptoBulk]
  | ptr d => simp [Rows.uptoBulk]
  | slice elems spare => simp [Rows.uptoBulk]
  | agg parts => simp [Rows.uptoBulk]
  | iface t d => simp [Rows.uptoBulk]
  | map entries => simp [Rows.uptoBulk]
  | held h => simp [Rows.uptoBulk]
theorem part_le {H : Type} {d : DataW H} {l : List (DataW H)} (h : d ∈ l) : Rows.uptoBulk d ≤ Rows.uptoBulkAll l := by
  induction l with
  | nil => cases h
  | cons x r ih =>
    simp only [Rows.uptoBulkAll]
    cases List.mem_cons.1 h with
    | inl e => subst e; omega
    | inr e => have := ih e; omega
theorem append {H : Type} (l r : List (DataW H)) : Rows.uptoBulkAll (l ++ r) = Rows.uptoBulkAll l + Rows.uptoBulkAll r := by
  induction l with
  | nil => simp [Rows.uptoBulkAll]
  | cons x l ih => simp only [List.cons_append, Rows.uptoBulkAll, ih]; omega
theorem length_le {H : Type} (l : List (DataW H)) : l.length ≤ Rows.uptoBulkAll l := by
  induction l with
  | nil => simp [Rows.uptoBulkAll]
  | cons x r ih => have := one_le x; simp only [Rows.uptoBulkAll, List.length_cons]; omega
theorem slice_le {H : Type} (elems spare : List (DataW H)) : elems.length + spare.length + 1 ≤ Rows.uptoBulk (.slice elems spare) := by
  have h1 := length_le elems
  have h2 := length_le spare
  simp only [Rows.uptoBulk]
  omega
theorem slice_elems {H : Type} (elems spare : List (DataW H)) : Rows.uptoBulkAll elems + 1 ≤ Rows.uptoBulk (.slice elems spare) := by
  simp only [Rows.uptoBulk]
  omega
theorem string_eq {H : Type} (bytes : List UInt8) : Rows.uptoBulk (DataW.lit (H := H) (.string bytes)) = bytes.length + 1 := by
  simp [Rows.uptoBulk]
theorem bound {H : Type} {l : List (DataW H)} (hk : Rows.uptoSmall H l = true) : Rows.uptoBulkAll l ≤ 1048576 := of_decide_eq_true hk
/-- A string among the arguments. -/
theorem string_le {H : Type} {l : List (DataW H)} (hk : Rows.uptoSmall H l = true) {bytes : List UInt8} (h : DataW.lit (.string bytes) ∈ l) : bytes.length ≤ 1048576 := by
  have h1 := part_le h
  have h2 := bound hk
  rw [string_eq] at h1
  omega
end Go.Proofs.YtlmadihedejaaaaDoor.bulks
/- path.Join, path.Parent; rows of strings that are read. -/
set_option linter.unusedVariables false
set_option linter.unusedSimpArgs false
namespace Go.Proofs.YtlmadihedejaaaaDoor.U
open Go.RowKit Go.Proofs Go.Lib Go.Shelf Go.Proofs.YtlmadihedejaaaaDoorW.PrintWords Go.Proofs.YtlmadihedejaaaaDoor.PR

/-- A row of strings that is read. -/
def TR (w : World) (A : Option Addr) (c : Nat) (xs : List ByteArray) : Prop :=
  xs.length ≤ c ∧ xs.length ≤ 9223372036854775807 ∧ (0 < xs.length → ∃ g o, A = some ⟨g, o, none⟩ ∧ g < w.heap.size ∧ ∀ j x, xs[j]? = some x → w.cell? ⟨g, o + j, none⟩ = some (.string x))
theorem TR.below {w w' : World} {A : Option Addr} {c : Nat} {xs : List ByteArray} (h : TR w A c xs) (hb : Below w.heap.size w w') : TR w' A c xs := by
  obtain ⟨h1, h2, h3⟩ := h
  refine ⟨h1, h2, fun h0 => ?_⟩
  obtain ⟨g, o, e, hg, hc⟩ := h3 h0
  exact ⟨g, o, e, Nat.lt_of_lt_of_le hg hb.size, fun j x hj => (hb.cell (p := ⟨g, o + j, none⟩) hg).trans (hc j x hj)⟩
theorem TR.C {w : World} {A : Option Addr} {c : Nat} {xs : List ByteArray} (h : TR w A c xs) : Kd.C Kd.string w A xs.length xs := by
  obtain ⟨h1, h2, h3⟩ := h
  refine Kd.C_of_reads (d := ByteArray.empty) (h1 := fun _ => rfl) ⟨rfl, by omega, fun h0 => ?_⟩
  obtain ⟨g, o, e, hg, hc⟩ := h3 h0
  refine ⟨_, e, fun j hj => ?_⟩
  have := hc j _ (getD_at hj)
  have e2 : (⟨g, o, none⟩ : Addr).add j = ⟨g, o + j, none⟩ := by
    unfold Addr.add
    split
    · rename_i h; subst h; rfl
    · rfl
  rw [e2]
  exact this
theorem SR.tr {w : World} {base : Nat} {v : Value} {xs : List ByteArray} (h : SR w base v xs) (hl : xs.length ≤ 9223372036854775807) : ∃ A c, v = .slice A xs.length c ∧ TR w A c xs := by
  obtain ⟨A, c, rfl, h1, h2⟩ := h.open
  refine ⟨A, c, rfl, h1, hl, fun h0 => ?_⟩
  obtain ⟨g, e, _, hg, hc⟩ := h2 h0
  exact ⟨g, 0, e, hg, fun j x hj => by rw [Nat.zero_add]; exact hc j x hj⟩
theorem SR.at {w : World} {base n c : Nat} {A : Option Addr} {xs : List ByteArray} (h : SR w base (.slice A n c) xs) (h0 : 0 < n) : ∃ g, A = some ⟨g, 0, none⟩ ∧ base ≤ g ∧ g < w.heap.size := by
  obtain ⟨A', c', e, _, hh⟩ := h.open
  injection e with e1 e2 e3
  subst e1 e2
  obtain ⟨g, e, hb, hg, _⟩ := hh h0
  exact ⟨g, e, hb, hg⟩
theorem SR.put {w : World} {base g n c : Nat} {xs : List ByteArray} (h : SR w base (.slice (some ⟨g, 0, none⟩) n c) xs) (i : Nat) (hi : i < n) (x : ByteArray) :
    SR (w.setCell ⟨g, i, none⟩ (.string x)) base (.slice (some ⟨g, 0, none⟩) n c) (xs.set i x) ∧ (∃ y, w.cell? ⟨g, i, none⟩ = some (.string y)) ∧ w.frozen? ⟨g, i, none⟩ = false := by
  have hn : n = xs.length := by
    obtain ⟨A', c', e, _, _⟩ := h.open
    injection e
  subst hn
  have h1 := Kd.R_cell ByteArray.empty h (i : Int) (by omega) (by omega)
  have h2 := (Kd.R_put h (i : Int) x).1
  rw [Int.toNat_natCast] at h1 h2
  exact ⟨h2, ⟨_, h1.1⟩, h1.2⟩
theorem TR.take {w : World} {A : Option Addr} {c : Nat} {xs : List ByteArray} (h : TR w A c xs) (n c' : Nat) (hn : n ≤ xs.length) (hc : n ≤ c') : TR w A c' (xs.take n) := by
  obtain ⟨h1, h2, h3⟩ := h
  have hl : (xs.take n).length = n := by rw [List.length_take]; omega
  refine ⟨by omega, by omega, fun h0 => ?_⟩
  obtain ⟨g, o, e, hg, hcell⟩ := h3 (by omega)
  refine ⟨g, o, e, hg, fun j x hj => hcell j x ?_⟩
  obtain ⟨hj1, hj2⟩ := List.getElem?_eq_some_iff.1 hj
  rw [← hj2, List.getElem_take]
  exact List.getElem?_eq_getElem (by omega)

theorem jn_init : ∀ (xs : List (List UInt8)) (x : List UInt8), (jn xs).length ≤ (jn (xs ++ [x])).length := by
  intro xs
  induction xs with
  | nil => intro x; simp [jn]
  | cons y r ih =>
    intro x
    cases r with
    | nil =>
      show y.length ≤ (y ++ 92 :: jn [x]).length
      rw [List.length_append]
      omega
    | cons z r =>
      show (y ++ 92 :: jn (z :: r)).length ≤ (y ++ 92 :: jn (z :: r ++ [x])).length
      have := ih x
      rw [List.length_append, List.length_append, List.length_cons, List.length_cons]
      omega
theorem infoS : (Tryd.prog.info? 9).map (fun i => (i.zero, i.size, i.bytes)) = some (some (.string ⟨#[]⟩), 1, 16) := by kernel_rfl
def lst (xs : List ByteArray) : List (List UInt8) := xs.map fun x => x.data.toList
theorem extra6 : Builder.Extra Tryd.prog Tryd.lays156_ren := {
  sizeBuilder := by kernel_rfl
  liesBuilder := by kernel_rfl
  t5 := Tryd.underlying5
  a5 := Tryd.isAgg5
  z5 := Tryd.sizeOf5
  v5 := Tryd.zeroValue5
  infoByte := by kernel_rfl
  cellsByte := by kernel_rfl
  sizeByte := by kernel_rfl
  neB5 := by decide }
theorem SJoin_calls (A : Option Addr) (c : Nat) (xs : List ByteArray) (w : World) (h : TR w A c xs) (hl : (jn (lst xs)).length ≤ 140737488355328) (hn : xs.length ≤ 140737488355328) :
    Calls Tryd.prog 28 #[.slice A xs.length c, .string ⟨#[92]⟩] w fun e w' => e = .returned (.string (mkB (jn (lst xs)))) ∧ Below w.heap.size w w' := by
  obtain ⟨h1, h2, h3⟩ := h
  rcases Nat.eq_zero_or_pos xs.length with h0 | h0
  · obtain rfl : xs = [] := List.eq_nil_of_length_eq_zero h0
    exact (Any.strings_Join_none Tryd.lays156 extra6 A c ⟨#[92]⟩ w).mono fun e w' ⟨he, hw⟩ => ⟨he, hw ▸ Below.refl _ _⟩
  · obtain ⟨g, o, rfl, hg, hc⟩ := h3 h0
    have e : Lib.join (xs.map (·.data.toList)) [92] = jn (lst xs) := join_jn _
    have := Any.strings_Join Tryd.lays156 extra6 g o c xs ⟨#[92]⟩ w hc hg hn h1 (by show (Lib.join (xs.map (·.data.toList)) [92]).length ≤ _; rw [e]; exact hl)
    refine this.mono fun e1 w' ⟨he, hb⟩ => ⟨?_, hb⟩
    rw [he]
    show Ending.returned (.string ⟨(Lib.join (xs.map (·.data.toList)) [92]).toArray⟩) = _
    rw [e]
    rfl
theorem join_all {xs : List ByteArray} (h : ∀ x ∈ xs, nameB x.data.toList = true) : joinE (lst xs) = if xs.length ≤ 8 then 0 else 3 := by
  unfold joinE lst
  rw [if_pos (by rw [List.all_map, List.all_eq_true]; exact h), List.length_map]
theorem join_bad {xs : List ByteArray} {x : ByteArray} (h : x ∈ xs) (hx : nameB x.data.toList = false) : joinE (lst xs) = 2 := by
  unfold joinE lst
  rw [if_neg]
  intro e
  rw [List.all_map, List.all_eq_true] at e
  have := e x h
  rw [show ((nameB ∘ fun x => x.data.toList) x) = nameB x.data.toList from rfl, hx] at this
  cases this
set_option maxHeartbeats 4000000 in
set_option maxRecDepth 1000000 in
theorem Join_calls (A : Option Addr) (c : Nat) (xs : List ByteArray) (w : World) (h : TR w A c xs) (hx : ∀ x ∈ xs, x.size ≤ 16777216) (hT : Tabs w) :
    Calls Tryd.prog 13 #[.slice A xs.length c] w fun e w' => e = .returned (.tuple #[.string (mkB (joinS (lst xs))), .int .i64 (joinE (lst xs))]) ∧ Below w.heap.size w w' := by
  have cN := fun W x (hm : x ∈ xs) h => Name_calls x W (by have := hx x hm; omega) h
  have cJ := fun W (h8 : xs.length ≤ 8) h => SJoin_calls A c xs W h (by
    have := jn_length (lst xs) 16777216 (fun l hl => by
      obtain ⟨x, hm, rfl⟩ := List.mem_map.1 hl
      rw [← size_eq]
      exact hx x hm)
    have e : (lst xs).length = xs.length := by unfold lst; rw [List.length_map]
    rw [e] at this
    have h9 : xs.length * (16777216 + 1) ≤ 8 * (16777216 + 1) := Nat.mul_le_mul_right _ h8
    omega) (by omega)
  have hl := h.2.1
  have hcap := h.1
  have CN := Lib.hid cN
  have CJ := Lib.hid cJ
  have HTR := Lib.hid h
  have HT := Lib.hid hT
  clear cN cJ h hT hx
  go_enter Tryd.func13, Tryd.ntmps13
  go_wp2
  go_loopw [8] (fun vi wr => ∃ i : Nat, vi = .int .i64 (i : Int) ∧ i ≤ xs.length ∧ Below w.heap.size w wr ∧ ∀ x ∈ xs.take i, nameB x.data.toList = true) (fun vi _ => xs.length - (RowKit.intOf vi).toNat)
  case atStart => exact ⟨0, rfl, by omega, Below.refl _ _, by simp⟩
  case round =>
    obtain ⟨i, rfl, hi, hbw, hall⟩ := hrel
    have HB := Lib.hid hbw
    have HALL := Lib.hid hall
    clear hbw hall
    by_cases hlt : i < xs.length
    · have d0 : decide ((i : Int) < (xs.length : Int)) = true := by simp; omega
      obtain ⟨x, hxi⟩ : ∃ x, xs[i]? = some x := ⟨_, List.getElem?_eq_getElem hlt⟩
      obtain ⟨g, o, rfl, hg, hc⟩ := (HTR.out.below HB.out).2.2 (by omega)
      have f1 := hc i x hxi
      have hm : x ∈ xs := List.mem_of_getElem? hxi
      have ht : xs.take (i + 1) = xs.take i ++ [x] := by rw [List.take_add_one, hxi]; rfl
      have HTK := Lib.hid ht
      have HM := Lib.hid hm
      clear ht hm hxi hc
      go_wp2_with fail
      refine (CN.out _ x HM.out (HT.out.below HB.out)).mono ?_
      rintro e w2 ⟨rfl, hb⟩
      have HB2 := Lib.hid (HB.out.trans (hb.mono HB.out.size))
      clear hb f1
      cases hnx : nameB x.data.toList with
      | true =>
        go_wp2_with fail
        go_roundw
        case rel =>
          refine ⟨i + 1, by rw [Int.natCast_succ], hlt, HB2.out, ?_⟩
          intro y hy
          rw [HTK.out] at hy
          rcases List.mem_append.1 hy with hy | hy
          · exact HALL.out y hy
          · rw [List.mem_singleton.1 hy]; exact hnx
        case measure => simp only [RowKit.intOf, Int.toNat_natCast]; omega
      | false =>
        have hjb := join_bad HM.out hnx
        have HJB := Lib.hid hjb
        clear hjb
        go_wp2_with fail
        go_ret2
        refine ⟨?_, HB2.out⟩
        unfold joinS
        rw [HJB.out]
        rfl
    · have d0 : decide ((i : Int) < (xs.length : Int)) = false := by simp; omega
      have hja := join_all (xs := xs) (fun x hx => HALL.out x (by rw [List.take_of_length_le (by omega)]; exact hx))
      by_cases h8 : xs.length ≤ 8
      · have d8 : decide ((8 : Int) < (xs.length : Int)) = false := by simp; omega
        rw [if_pos h8] at hja
        have HJA := Lib.hid hja
        clear hja
        go_wp2_with fail
        refine (CJ.out _ h8 (HTR.out.below HB.out)).mono ?_
        rintro e w2 ⟨rfl, hb⟩
        have HB2 := Lib.hid (HB.out.trans (hb.mono HB.out.size))
        clear hb
        go_wp2_with fail
        go_ret2
        refine ⟨?_, HB2.out⟩
        unfold joinS
        rw [HJA.out, if_pos rfl]
        rfl
      · have d8 : decide ((8 : Int) < (xs.length : Int)) = true := by simp; omega
        rw [if_neg h8] at hja
        have HJA := Lib.hid hja
        clear hja
        go_wp2_with fail
        go_ret2
        refine ⟨?_, HB.out⟩
        unfold joinS
        rw [HJA.out]
        rfl
/-! ### Parent -/
theorem lst_parse (s : ByteArray) : lst (parseB s) = parseL s.data.toList := by
  unfold lst parseB
  rw [List.map_map]
  exact (List.map_congr_left fun x _ => rfl).trans (List.map_id _)
theorem parent_facts (s : ByteArray) (h : parseE s.data.toList = 0) (h0 : 0 < (parseB s).length) :
    parentE s.data.toList = 0 ∧ parentD s.data.toList = jn (lst ((parseB s).take ((parseB s).length - 1))) ∧ ∃ x, (parseB s)[(parseB s).length - 1]? = some x ∧ mkB (parentN s.data.toList) = x := by
  have hne : s.data.toList ≠ [] := by
    intro e
    unfold parseB at h0
    rw [e] at h0
    exact absurd h0 (by decide)
  have hE : parentE s.data.toList = 0 := by unfold parentE; rw [if_pos h, if_neg hne]
  refine ⟨hE, ?_, _, List.getElem?_eq_getElem (by omega), ?_⟩
  · unfold parentD
    rw [if_pos hE]
    congr 1
    rw [← lst_parse]
    unfold lst
    rw [List.map_take, List.dropLast_eq_take, List.length_map]
  · unfold parentN
    rw [if_pos hE, ← lst_parse]
    have hl : (lst (parseB s)).length = (parseB s).length := by unfold lst; rw [List.length_map]
    have e : (lst (parseB s)).getLastD [] = ((parseB s)[(parseB s).length - 1]'(by omega)).data.toList := by
      rw [List.getLastD_eq_getLast?, List.getLast?_eq_getElem?, hl]
      unfold lst
      rw [List.getElem?_map, List.getElem?_eq_getElem (by omega)]
      rfl
    rw [e, mkB_of]
theorem parent_none (s : ByteArray) (h : parseE s.data.toList = 0) (h0 : (parseB s).length = 0) : parentE s.data.toList = 2 := by
  have hn : s.data.toList = [] := by
    cases hs : decide (s.data.toList = []) with
    | true => exact of_decide_eq_true hs
    | false =>
      have hne := of_decide_eq_false hs
      have := ((parse_ok h).2.2.2 hne).2
      rw [parseB_length] at h0
      exact absurd (List.eq_nil_of_length_eq_zero h0) this
  unfold parentE
  rw [if_pos h, if_pos hn]
set_option maxHeartbeats 8000000 in
set_option maxRecDepth 1000000 in
theorem Parent_calls (s : ByteArray) (w : World) (hs : s.size ≤ 16777216) (hT : Tabs w) :
    Calls Tryd.prog 17 #[.string s] w fun e w' => e = .returned (.tuple #[.string (mkB (parentD s.data.toList)), .string (mkB (parentN s.data.toList)), .int .i64 (parentE s.data.toList)]) ∧ Below w.heap.size w w' := by
  have c1 := Parse_calls s w hs hT
  have h8 := parseB_max s
  have l1 := parent_facts s
  have l2 := parent_none s
  have l3 : parseE s.data.toList ≠ 0 → parentE s.data.toList = parseE s.data.toList := by
    intro h
    unfold parentE
    rw [if_neg h]
  have l4 : parentE s.data.toList ≠ 0 → mkB (parentD s.data.toList) = ⟨#[]⟩ ∧ mkB (parentN s.data.toList) = ⟨#[]⟩ := by
    intro h
    unfold parentD parentN
    rw [if_neg h, if_neg h]
    exact ⟨rfl, rfl⟩
  have cJ := fun W A c (xs : List ByteArray) (h : TR W A c xs) (hx : ∀ x ∈ xs, x ∈ parseB s) => SJoin_calls A c xs W h
  have hsz := parseB_size s
  generalize hD : parentD s.data.toList = D at *
  generalize parentN s.data.toList = Nm at *
  generalize parentE s.data.toList = E2 at *
  generalize parseE s.data.toList = E at *
  generalize parseB s = X at *
  have C1 := Lib.hid c1
  have L1 := Lib.hid l1
  have L2 := Lib.hid l2
  have L4 := Lib.hid l4
  have HSZ := Lib.hid hsz
  clear c1 l1 l2 l4 hT hD hsz cJ
  go_enter Tryd.func17, Tryd.ntmps17
  go_wp2_with fail
  refine (C1.out).mono ?_
  rintro e w1 ⟨v, rfl, hr, hb⟩
  have B1 := Lib.hid hb
  obtain ⟨A, c, rfl, htr⟩ := hr.tr (by omega)
  have TR1 := Lib.hid htr
  clear C1 hr hb htr
  by_cases h1 : E = 0
  · subst h1
    by_cases h0 : X.length = 0
    · have d : ((X.length : Int) == 0) = true := by simp [h0]
      obtain rfl := L2.out (by trivial) h0
      obtain ⟨q1, q2⟩ := L4.out (by decide)
      go_wp2
      go_ret3
      exact ⟨by rw [q1, q2]; rfl, B1.out⟩
    · have d : ((X.length : Int) == 0) = false := by simp [h0]
      obtain ⟨rfl, rfl, x, hx, rfl⟩ := L1.out (by trivial) (by omega)
      obtain ⟨g, o, rfl, hg, hc⟩ := TR1.out.2.2 (by omega)
      have f1 := hc _ _ hx
      have htk := TR1.out.take (X.length - 1) (X.length - 1) (by omega) (Nat.le_refl _)
      obtain ⟨n, hn⟩ : ∃ n, X.length - 1 = n := ⟨_, rfl⟩
      rw [hn] at f1 htk
      have e1 : (X.length : Int) - 1 = (n : Int) := by omega
      have hl : (X.take n).length = n := by rw [List.length_take]; omega
      have HTK := Lib.hid htk
      have hle : n < X.length := by omega
      clear hx hc htk
      have f2 : w1.cell? ⟨g, o + n, none⟩ = some (.string (mkB Nm)) := f1
      have hcc := TR1.out.1
      have i0 : (0 : Int) ≤ (n : Int) := by omega
      have i1 : (n : Int) ≤ (c : Int) := by omega
      have i2 : (n : Int) < (X.length : Int) := by omega
      have i3 : n ≤ c := by omega
      have cJ := fun W (hw : Below w1.heap.size w1 W) => SJoin_calls (some ⟨g, o, none⟩) n (X.take n) W (HTK.out.below hw) (by
        have hjl := jn_length (lst (X.take n)) 16777216 (fun l hl => by
          obtain ⟨y, hm, rfl⟩ := List.mem_map.1 hl
          rw [← size_eq]
          have := HSZ.out y (List.mem_of_mem_take hm)
          omega)
        have e : (lst (X.take n)).length = n := by unfold lst; rw [List.length_map, hl]
        rw [e] at hjl
        have h9 : n * (16777216 + 1) ≤ 8 * (16777216 + 1) := Nat.mul_le_mul_right _ (by omega)
        omega) (by omega)
      rw [hl] at cJ
      have CJ := Lib.hid cJ
      clear cJ f1 HTK
      go_wp2_with fail
      go_region_held3 (fun w' => Below w1.heap.size w1 w' ∧ w'.cell? ⟨g, o + n, none⟩ = some (.string (mkB Nm))) (first | exact ⟨below_drew1 (Below.refl _ _), f2⟩ | exact ⟨(below_drew1 (Below.refl _ _)).trans hb, (hb.cell (p := ⟨g, o + n, none⟩) hg).trans f2⟩) (first | (go_at_call 28; refine (CJ.out _ (below_drew1 (Below.refl _ _))).mono ?_; rintro e w' ⟨rfl, hb⟩))
      go_wp2
      go_ret3
      exact ⟨by rw [hn]; rfl, B1.out.trans (((below_drew1 (Below.refl w1.heap.size w1)).trans hb).mono B1.out.size)⟩
  · have d : (E != 0) = true := by simp [h1]
    obtain rfl := l3 h1
    obtain ⟨q1, q2⟩ := L4.out h1
    go_wp2
    go_ret3
    exact ⟨by rw [q1, q2]; rfl, B1.out⟩
end Go.Proofs.YtlmadihedejaaaaDoor.U
/- The reference's Join and Parent. -/
set_option linter.unusedVariables false
set_option linter.unusedSimpArgs false
namespace Go.Proofs.YtlmadihedejaaaaDoor.U
open Go.RowKit Go.Proofs Go.Lib Go.Shelf Go.Proofs.YtlmadihedejaaaaDoorW.PrintWords Go.Proofs.YtlmadihedejaaaaDoor.PR

/-- What stands behind the first name. -/
def jt : List (List UInt8) → List UInt8
  | [] => []
  | x :: r => 92 :: (x ++ jt r)
theorem jn_jt : ∀ (r : List (List UInt8)) (x : List UInt8), jn (x :: r) = x ++ jt r := by
  intro r
  induction r with
  | nil => intro x; simp [jn, jt]
  | cons y r ih =>
    intro x
    show x ++ 92 :: jn (y :: r) = x ++ 92 :: (y ++ jt r)
    rw [ih]
def accJ (acc : List UInt8) (i : Nat) (r : List (List UInt8)) : List UInt8 := acc ++ if i = 0 then jn r else jt r
def jres (ls : List ByteArray) (acc : ByteArray) (i : Nat) : ByteArray × Int :=
  if (lst (ls.drop i)).all nameB then (if ls.length ≤ 8 then (mkB (accJ acc.data.toList i (lst (ls.drop i))), 0) else (⟨#[]⟩, 3)) else (⟨#[]⟩, 2)
theorem join_l0 (ls : List ByteArray) (M : Nat) (hM : ∀ x ∈ ls, x.size ≤ M) (hb : M ≤ 17592186044415) (hl : ls.length ≤ 1000000000000) : ∀ (d k i : Nat) (acc : ByteArray), ls.length - i ≤ d → i ≤ ls.length → (ls.length ≤ 8 → acc.size ≤ i * (M + 1)) → d + M + 100 ≤ k →
    refectoryref06_Join.l0 k ls acc i = some (jres ls acc i) := by
  have fin : ∀ (k : Nat) (acc : ByteArray), refectoryref06_Join.l0 (k + 1) ls acc (ls.length : Int) = some (jres ls acc ls.length) := by
    intro k acc
    have hd : ls.drop ls.length = [] := List.drop_length
    rw [refectoryref06_Join.l0, if_neg (by omega)]
    unfold jres
    rw [hd]
    rw [show (lst []).all nameB = true from rfl, if_pos rfl]
    by_cases h8 : ls.length ≤ 8
    · rw [if_neg (by omega), if_pos h8]
      have : accJ acc.data.toList ls.length (lst []) = acc.data.toList := by
        unfold accJ
        split
        · show acc.data.toList ++ jn [] = _
          simp [jn]
        · show acc.data.toList ++ jt [] = _
          simp [jt]
      rw [this, mkB_of]
    · rw [if_pos (by omega), if_neg h8]
  intro d
  induction d with
  | zero =>
    intro k i acc hd hi ha hk
    obtain ⟨k, rfl⟩ : ∃ m, k = m + 1 := ⟨k - 1, by omega⟩
    obtain rfl : i = ls.length := by omega
    exact fin k acc
  | succ d ih =>
    intro k i acc hd hi ha hk
    obtain ⟨k, rfl⟩ : ∃ m, k = m + 1 := ⟨k - 1, by omega⟩
    by_cases h : i < ls.length
    · have hx := getD_at (xs := ls) h
      have hm := hM _ (List.mem_of_getElem? hx)
      have hdr : ls.drop i = ls.getD i ByteArray.empty :: ls.drop (i + 1) := by
        rw [List.drop_eq_getElem_cons h, List.getD_eq_getElem?_getD, List.getElem?_eq_getElem h]; rfl
      rw [refectoryref06_Join.l0, if_pos (by omega), if_pos (by omega), rdOf_nat, RName_eq _ (by omega) k (by omega), Option.bind_some]
      generalize ls.getD i ByteArray.empty = x at *
      have hall : (lst (ls.drop i)).all nameB = (nameB x.data.toList && (lst (ls.drop (i + 1))).all nameB) := by rw [hdr]; rfl
      cases hn : nameB x.data.toList with
      | false =>
        rw [if_neg (by decide)]
        unfold jres
        rw [hall, hn, Bool.false_and, if_neg (by decide)]
      | true =>
        rw [if_pos rfl, w64i (by omega)]
        have hres : ∀ acc2 : ByteArray, (ls.length ≤ 8 → accJ acc2.data.toList (i + 1) (lst (ls.drop (i + 1))) = accJ acc.data.toList i (lst (ls.drop i))) → jres ls acc2 (i + 1) = jres ls acc i := by
          intro acc2 h2
          unfold jres
          rw [hall, hn, Bool.true_and]
          by_cases h8 : ls.length ≤ 8
          · rw [h2 h8]
          · rw [if_neg h8, if_neg h8]
        have hcons : lst (ls.drop i) = x.data.toList :: lst (ls.drop (i + 1)) := by rw [hdr]; rfl
        by_cases h8 : 8 < ls.length
        · rw [if_pos (by omega), ih k (i + 1) acc (by omega) (by omega) (fun h9 => by omega) (by omega), hres acc (fun h9 => by omega)]
        · have ha' := ha (by omega)
          have hi8 : i * (M + 1) ≤ 8 * (M + 1) := Nat.mul_le_mul_right _ (by omega)
          have hs : (i + 1) * (M + 1) = i * (M + 1) + (M + 1) := Nat.succ_mul _ _
          rw [if_neg (by omega)]
          by_cases h0 : 0 < i
          · have z1 : (acc ++ (⟨#[92]⟩ : ByteArray)).size = acc.size + 1 := by rw [ByteArray.size_append]; rfl
            rw [if_pos (by omega), if_pos (by omega), if_pos (by rw [z1]; omega), ih k (i + 1) _ (by omega) (by omega) (fun _ => by rw [ByteArray.size_append, z1]; omega) (by omega), hres]
            intro _
            rw [hcons]
            unfold accJ
            rw [if_neg (by omega), if_neg (by omega)]
            simp [jt]
          · obtain rfl : i = 0 := by omega
            rw [if_neg (by decide), if_pos (by omega), ih k (0 + 1) _ (by omega) (by omega) (fun _ => by rw [ByteArray.size_append]; omega) (by omega), hres]
            intro _
            rw [hcons]
            unfold accJ
            rw [if_neg (by decide), if_pos rfl, jn_jt]
            simp
    · obtain rfl : i = ls.length := by omega
      exact fin k acc
theorem RJoin_eq (ls : List ByteArray) (M : Nat) (hM : ∀ x ∈ ls, x.size ≤ M) (hb : M ≤ 17592186044415) (hl : ls.length ≤ 1000000000000) (k : Nat) (hk : ls.length + M + 100 ≤ k) :
    refectoryref06_Join.f k ls = some (mkB (joinS (lst ls)), joinE (lst ls)) := by
  unfold refectoryref06_Join.f
  have := join_l0 ls M hM hb hl ls.length k 0 ⟨#[]⟩ (by omega) (by omega) (fun _ => by show 0 ≤ _; omega) hk
  rw [show ((0 : Nat) : Int) = 0 from rfl] at this
  rw [this]
  congr 1
  unfold jres joinS joinE
  have hlen : (lst ls).length = ls.length := by unfold lst; rw [List.length_map]
  rw [List.drop_zero, hlen]
  by_cases ha : (lst ls).all nameB = true
  · rw [if_pos ha, if_pos ha]
    by_cases h8 : ls.length ≤ 8
    · rw [if_pos h8, if_pos h8, if_pos rfl]
      rfl
    · rw [if_neg h8, if_neg h8, if_neg (by decide)]
      rfl
  · rw [if_neg ha, if_neg ha, if_neg (by decide)]
    rfl
theorem RJoin_calls (A : Option Addr) (c : Nat) (xs : List ByteArray) (w : World) (h : TR w A c xs) (M : Nat) (hM : ∀ x ∈ xs, x.size ≤ M) (hb : M ≤ 17592186044415) (hl : xs.length ≤ 1000000000000) :
    Calls Tryd.prog 25 #[.slice A xs.length c] w fun e w' => e = .returned (.tuple #[.string (mkB (joinS (lst xs))), .int .i64 (joinE (lst xs))]) ∧ Below w.heap.size w w' :=
  (refectoryref06_Join.calls _ A c xs _ _ w h.C h.1 (RJoin_eq xs M hM hb hl _ (Nat.le_refl _))).mono fun e w' ⟨he, hb⟩ => ⟨he, by first | exact hb | exact hb.below⟩
theorem RParent_eq (s : ByteArray) (hs : s.size ≤ 4398046511104) : refectoryref06_Parent.f (3 * s.size + 200) s = some (mkB (parentD s.data.toList), mkB (parentN s.data.toList), parentE s.data.toList) := by
  unfold refectoryref06_Parent.f
  have h8 := parseB_max s
  rw [RParse_eq s hs _ (by omega), Option.bind_some]
  dsimp only
  by_cases h1 : parseE s.data.toList = 0
  · rw [if_pos h1]
    by_cases h0 : (parseB s).length = 0
    · rw [if_pos (by omega)]
      have e := parent_none s h1 h0
      unfold parentD parentN
      rw [e, if_neg (by decide), if_neg (by decide)]
      rfl
    · rw [if_neg (by omega)]
      obtain ⟨q1, q2, x, q3, q4⟩ := parent_facts s h1 (by omega)
      have e : wrap64 (((parseB s).length : Int) - 1) = (((parseB s).length - 1 : Nat) : Int) := by rw [w64 (by omega) (by omega)]; omega
      have hj : joinE (lst ((parseB s).take ((parseB s).length - 1))) = 0 := by
        have hx : ∀ x ∈ (parseB s).take ((parseB s).length - 1), nameB x.data.toList = true := by
          intro x hx
          obtain ⟨l, hl, rfl⟩ := List.mem_map.1 (List.mem_of_mem_take hx)
          rw [mkB_list]
          exact List.all_eq_true.1 (parse_ok h1).1 l hl
        rw [join_all hx, if_pos (by rw [List.length_take]; omega)]
      rw [e, if_pos (by omega), if_pos (by omega), Int.toNat_natCast, RJoin_eq _ s.size (fun x hx => parseB_size s x (List.mem_of_mem_take hx)) (by omega) (by rw [List.length_take]; omega) _ (by rw [List.length_take]; omega), Option.bind_some, if_pos (by omega), rdOf_nat, q1, q2, q4]
      unfold joinS
      rw [hj, if_pos rfl]
      have := getD_at (xs := parseB s) (i := (parseB s).length - 1) (by omega)
      rw [q3] at this
      rw [← Option.some.inj this]
  · rw [if_neg h1]
    have e : parentE s.data.toList = parseE s.data.toList := by unfold parentE; rw [if_neg h1]
    unfold parentD parentN
    rw [e, if_neg h1, if_neg h1]
    rfl
theorem RParent_calls (s : ByteArray) (w : World) (hs : s.size ≤ 4398046511104) :
    Calls Tryd.prog 26 #[.string s] w fun e w' => e = .returned (.tuple #[.string (mkB (parentD s.data.toList)), .string (mkB (parentN s.data.toList)), .int .i64 (parentE s.data.toList)]) ∧ Below w.heap.size w w' :=
  (refectoryref06_Parent.calls _ s _ _ _ w (RParent_eq s hs)).mono fun e w' ⟨he, hb⟩ => ⟨he, by first | exact hb | exact hb.below⟩
end Go.Proofs.YtlmadihedejaaaaDoor.U
/- An argument that is a slice of strings: what its reading gives the walk, and how it reads behind the call. -/
set_option linter.unusedVariables false
set_option linter.unusedSimpArgs false
namespace Go.Proofs.YtlmadihedejaaaaDoor.U
open Go.ChangeShapes Go.WideShapes Go.ChangeAt Go.RowKit Go.Lib Go.Proofs.YtlmadihedejaaaaDoorW.PrintWords

theorem laidOut : laidOutB Tryd.prog = true := by kernel_rfl
theorem arg_le {H : Type} {l : List (DataW H)} (hk : Rows.uptoSmall H l = true) {d : DataW H} (h : d ∈ l) : Rows.uptoBulk d ≤ 1048576 :=
  Nat.le_trans (bulks.part_le h) (bulks.bound hk)
theorem open_texts {H : Type} {enc : TypeId × Value → H} {W : World} {v : Value} {d : DataW H} {ps : List MemPlace}
    (hval : Value.okWide Tryd.prog W .any 0 22 v) (h : DataW.Trod enc Tryd.prog W 0 (fun _ => true) true 22 v d ps) :
    ∃ (A : Option Addr) (c : Nat) (ss : List ByteArray), v = .slice A ss.length c ∧ TR W A c ss ∧ (∀ B, Rows.uptoBulk d ≤ B → ss.length ≤ B ∧ ∀ x ∈ ss, x.size ≤ B) := by
  obtain ⟨A, n, c, rfl⟩ := okWide_slice Tryd.underlying22 hval
  obtain ⟨fuel, hf⟩ := h
  rcases open_strings Tryd.underlying22 Tryd.underlying9 (by kernel_rfl) hf with ⟨hcs, hx⟩ | ⟨x, l, c', ss, hcs, _, hl, hm, hz, hx, hcell, hsz⟩
  · simp [Value.cells] at hcs
    obtain ⟨rfl, rfl, rfl⟩ := hcs
    exact ⟨none, 0, [], rfl, ⟨Nat.le_refl _, by decide, fun h => by simp at h⟩, fun B _ => ⟨by simp, by simp⟩⟩
  · simp [Value.cells] at hcs
    obtain ⟨rfl, rfl, rfl⟩ := hcs
    injection hx with hd _
    subst hd
    have hz : ss.length = c := by simpa using hz
    have hlen : (ss.take n).length = n := by rw [List.length_take]; omega
    have hbulk : ∀ B, Rows.uptoBulk (DataW.slice (H := H) (strs (ss.take n)) (strs (ss.drop n))) ≤ B → (ss.take n).length ≤ B ∧ ∀ y ∈ ss.take n, y.size ≤ B := by
      intro B hB
      have h1 := bulks.slice_le (H := H) (strs (ss.take n)) (strs (ss.drop n))
      have h2 := bulks.slice_elems (H := H) (strs (ss.take n)) (strs (ss.drop n))
      have e : (strs (H := H) (ss.take n)).length = (ss.take n).length := by simp [strs]
      refine ⟨by omega, fun y hy => ?_⟩
      have hm : DataW.lit (H := H) (.string y.data.toList) ∈ strs (ss.take n) := List.mem_map.2 ⟨y, hy, rfl⟩
      have h3 := bulks.part_le hm
      rw [bulks.string_eq, ← size_eq] at h3
      omega
    have hg : ∀ j y, (ss.take n)[j]? = some y → ss.getD j ByteArray.empty = y := fun j y hj => by
      obtain ⟨hj1, hj2⟩ := List.getElem?_eq_some_iff.1 hj
      rw [List.getElem_take] at hj2
      rw [List.getD_eq_getElem?_getD, List.getElem?_eq_getElem (by omega), ← hj2]
      rfl
    refine ⟨some x, c, ss.take n, by rw [hlen], ⟨by rw [hlen]; exact hl, by unfold maxLen at hm; omega, fun h0 => ?_⟩, hbulk⟩
    have h0' : 0 < ss.length := by omega
    have c0 := hcell 0 h0'
    have e0 : x.add 0 = x := rfl
    rw [e0] at c0
    obtain ⟨g, off, sp⟩ := x
    have hsp : sp = none := by
      unfold World.cell? at c0
      cases sp with
      | none => rfl
      | some k => cases hh : W.heap[g]? with
        | none => simp [hh] at c0
        | some o => cases o <;> simp [hh] at c0
    subst hsp
    refine ⟨g, off, rfl, ?_, fun j y hj => ?_⟩
    · unfold World.cell? at c0
      cases hh : W.heap[g]? with
      | none => simp [hh] at c0
      | some o => exact (Array.getElem?_eq_some_iff.1 hh).1
    · have hjn : j < n := by have := (List.getElem?_eq_some_iff.1 hj).1; omega
      have := hcell j (by omega)
      rw [hg j y hj] at this
      have e : (⟨g, off, none⟩ : Addr).add j = ⟨g, off + j, none⟩ := by
        unfold Addr.add
        split
        · rename_i h; subst h; rfl
        · rfl
      rwa [e] at this
/-- What reads behind the call as it did. -/
theorem back_texts {H : Type} {enc : TypeId × Value → H} {W W' : World} {v : Value} {d : DataW H} {ps : List MemPlace} (h : DataW.Trod enc Tryd.prog W 0 (fun _ => true) true 22 v d ps) (bel : Below W.heap.size W W') :
    DataW.Trod enc Tryd.prog W' 0 (fun b => decide (b < W.heap.size)) true 22 v d ps :=
  Below.trod laidOut (by kernel_rfl) (of_decide_eq_true (by kernel_rfl)) h bel (by obtain ⟨m, hm⟩ := h; exact DataW.trod_lt m _ _ _ hm)
end Go.Proofs.YtlmadihedejaaaaDoor.U
