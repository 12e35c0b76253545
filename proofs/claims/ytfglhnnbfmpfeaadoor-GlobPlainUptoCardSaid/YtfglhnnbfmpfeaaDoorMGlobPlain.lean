/- What the law GlobPlain leans on: the texts Bulk, Uspec, Rfirst, Ubuild, Uunits, Ufold, Uorder, Gspec, Gasked, Ggreedy, Gfits, Gwalk, Rfits, Gbase, Glaw, Ubuild2, Gshort, Gshlaw, Gbytes, Gany, Ualike, Gplain, Lgplain, one behind the other. -/
import Derived.Test.YtfglhnnbfmpfeaaDoorRows
import Derived.Test.YtfglhnnbfmpfeaaDoorPRx20
import Derived.Test.YtfglhnnbfmpfeaaDoorPRx19
import Derived.Test.YtfglhnnbfmpfeaaDoorPRx15
import Derived.Lib.ValidLaws
import Derived.Lib.RuneBytes
import Derived.Test.YtfglhnnbfmpfeaaDoorShelf
import Derived.WalkKit
import Derived.Lib.FrozenHead2
import Derived.Lib.OthersKept
import Derived.Lib.Builder
import Derived.Shelf.Strings.BuilderK
import Derived.Lib.Hide
import Derived.Test.YtfglhnnbfmpfeaaDoorWWords
import Derived.Laws.AppendOwn
import Derived.Deep.QuietTactic
import Derived.BigQuiet
import Derived.Laws.IdiomStrings
import Derived.WalkMore
import Derived.Test.YtfglhnnbfmpfeaaDoorPRx36
import Derived.Shelf.Strings.BuilderRune
import Derived.Laws.Runes
import Derived.Shelf.Strings.IndexAny
/- What the bound on a reading's bulk gives: a string's letters, a slice's elements. -/
namespace Go.Proofs.YtfglhnnbfmpfeaaDoor.bulks
theorem one_le {H : Type} (d : DataW H) : 1 ≤ Rows.uptoBulk d := by
  cases d with
  | lit l => cases l <;> simp [Rows.uptoBulk]
  | nil => simp [Rows.uptoBulk]
  | ptr d => simp [Rows.uptoBulk]
  | slice elems spare => simp [Rows.uptoBulk]
  | agg parts => simp [Rows.uptoBulk]
  | iface t d => simp [Rows.uptoBulk]
  | map entries => simp [Rows.uptoBulk]
  | held h => simp [Rows.uptoBulk]
theorem part_le {H : Type} {d : DataW H} {l : List (DataW H)} (h : d ∈ l) : Rows.uptoBulk d ≤ Rows.uptoBulkAll l := by
  induction l with
  | nil => cases h
  | cons x r ih =>
    simp only [Rows.uptoBulkAll]
    cases List.mem_cons.1 h with
    | inl e => subst e; omega
    | inr e => have := ih e; omega
theorem append {H : Type} (l r : List (DataW H)) : Rows.uptoBulkAll (l ++ r) = Rows.uptoBulkAll l + Rows.uptoBulkAll r := by
  induction l with
  | nil => simp [Rows.uptoBulkAll]
  | cons x l ih => simp only [List.cons_append, Rows.uptoBulkAll, ih]; omega
theorem length_le {H : Type} (l : List (DataW H)) : l.length ≤ Rows.uptoBulkAll l := by
  induction l with
  | nil => simp [Rows.uptoBulkAll]
  | cons x r ih => have := one_le x; simp only [Rows.uptoBulkAll, List.length_cons]; omega
theorem slice_le {H : Type} (elems spare : List (DataW H)) : elems.length + spare.length + 1 ≤ Rows.uptoBulk (.slice elems spare) := by
  have h1 := length_le elems
  have h2 := length_le spare
  simp only [Rows.uptoBulk]
  omega
theorem slice_elems {H : Type} (elems spare : List (DataW H)) : Rows.uptoBulkAll elems + 1 ≤ Rows.uptoBulk (.slice elems spare) := by
  simp only [Rows.uptoBulk]
  omega
theorem string_eq {H : Type} (bytes : List UInt8) : Rows.uptoBulk (DataW.lit (H := H) (.string bytes)) = bytes.length + 1 := by
  simp [Rows.uptoBulk]
theorem bound {H : Type} {l : List (DataW H)} (hk : Rows.uptoSmall H l = true) : Rows.uptoBulkAll l ≤ 1048576 := of_decide_eq_true hk
/-- A string among the arguments. -/
theorem string_le {H : Type} {l : List (DataW H)} (hk : Rows.uptoSmall H l = true) {bytes : List UInt8} (h : DataW.lit (.string bytes) ∈ l) : bytes.length ≤ 1048576 := by
  have h1 := part_le h
  have h2 := bound hk
  rw [string_eq] at h1
  omega
end Go.Proofs.YtfglhnnbfmpfeaaDoor.bulks
/- Texts as lists of bytes: letters, their bytes, folding; plain Lean over the library's decoder. No program, no condition. -/
set_option linter.unusedVariables false
namespace Go.Proofs.YtfglhnnbfmpfeaaDoor.U
open Go.Lib

/-- At the head of l: a byte that belongs to no letter. -/
def Bad (l : List UInt8) : Prop := (decodeL l).1 = 65533 ∧ (decodeL l).2 = 1
instance (l : List UInt8) : Decidable (Bad l) := inferInstanceAs (Decidable (_ ∧ _))

/-- The letter at the head; a byte that belongs to none is one above all. -/
def letter1 (l : List UInt8) : Nat := if Bad l then 1114112 + (l.headD 0).toNat else (decodeL l).1
theorem letter1_good {l : List UInt8} {r wd : Nat} (h : decodeL l = (r, wd)) (hb : ¬ (r = 65533 ∧ wd = 1)) : letter1 l = r := by
  have : ¬ Bad l := by unfold Bad; rw [h]; exact hb
  unfold letter1
  rw [if_neg this, h]
theorem letter1_bad {l : List UInt8} (h : decodeL l = (65533, 1)) : letter1 l = 1114112 + (l.headD 0).toNat := by
  have : Bad l := by unfold Bad; rw [h]; exact ⟨rfl, rfl⟩
  unfold letter1
  rw [if_pos this]
def lettersN : Nat → List UInt8 → List Nat
  | 0, _ => []
  | n + 1, l => if l = [] then [] else letter1 l :: lettersN n (l.drop (decodeL l).2)
def letters (l : List UInt8) : List Nat := lettersN l.length l

theorem lettersN_nil : ∀ n, lettersN n [] = []
  | 0 => rfl
  | n + 1 => by simp [lettersN]
theorem lettersN_fuel : ∀ (n m : Nat) (l : List UInt8), l.length ≤ n → l.length ≤ m → lettersN n l = lettersN m l
  | 0, m, l, hn, _ => by
    have : l = [] := List.eq_nil_of_length_eq_zero (by omega)
    subst this
    rw [lettersN_nil, lettersN_nil]
  | n + 1, 0, l, _, hm => by
    have : l = [] := List.eq_nil_of_length_eq_zero (by omega)
    subst this
    rw [lettersN_nil, lettersN_nil]
  | n + 1, m + 1, l, hn, hm => by
    unfold lettersN
    by_cases hne : l = []
    · simp [hne]
    · have hw := decodeL_width l
      have hl : 0 < l.length := List.length_pos_iff.2 hne
      rw [if_neg hne, if_neg hne, lettersN_fuel n m (l.drop (decodeL l).2) (by rw [List.length_drop]; omega) (by rw [List.length_drop]; omega)]
theorem letters_nil : letters [] = [] := rfl
theorem letters_step (l : List UInt8) (hne : l ≠ []) : letters l = letter1 l :: letters (l.drop (decodeL l).2) := by
  have hl : 0 < l.length := List.length_pos_iff.2 hne
  have hw := decodeL_width l
  obtain ⟨n, hn⟩ : ∃ n, l.length = n + 1 := ⟨l.length - 1, by omega⟩
  unfold letters
  rw [hn]
  show (if l = [] then [] else _) = _
  rw [if_neg hne, lettersN_fuel n (l.drop (decodeL l).2).length _ (by rw [List.length_drop]; omega) (Nat.le_refl _)]

/-- A rule of induction: what is left behind a letter is shorter. -/
theorem by_letters {p : List UInt8 → Prop} (h0 : p []) (h1 : ∀ l, l ≠ [] → p (l.drop (decodeL l).2) → p l) : ∀ l, p l := by
  have go : ∀ n (l : List UInt8), l.length ≤ n → p l := by
    intro n
    induction n with
    | zero =>
      intro l hl
      have : l = [] := List.eq_nil_of_length_eq_zero (by omega)
      subst this
      exact h0
    | succ n ih =>
      intro l hl
      by_cases hne : l = []
      · subst hne; exact h0
      · have hw := decodeL_width l
        have hl0 : 0 < l.length := List.length_pos_iff.2 hne
        exact h1 l hne (ih _ (by rw [List.length_drop]; omega))
  exact fun l => go l.length l (Nat.le_refl _)

/-- The bytes of a letter, by its number; of one above all its own byte. -/
def enc (n : Nat) : List UInt8 :=
  if n < 128 then [UInt8.ofNat n]
  else if n < 2048 then [UInt8.ofNat (192 + n / 64), UInt8.ofNat (128 + n % 64)]
  else if n < 65536 then [UInt8.ofNat (224 + n / 4096), UInt8.ofNat (128 + n / 64 % 64), UInt8.ofNat (128 + n % 64)]
  else if n < 1114112 then [UInt8.ofNat (240 + n / 262144), UInt8.ofNat (128 + n / 4096 % 64), UInt8.ofNat (128 + n / 64 % 64), UInt8.ofNat (128 + n % 64)]
  else [UInt8.ofNat (n - 1114112)]

/-- A letter's number. -/
def IsLetter (n : Nat) : Prop := n < 55296 ∨ (57344 ≤ n ∧ n < 1114112)
instance (n : Nat) : Decidable (IsLetter n) := inferInstanceAs (Decidable (_ ∨ _))

theorem byte_eq {a : UInt8} {n : Nat} (h : a.toNat = n) : UInt8.ofNat n = a := by
  subst h
  simp

/-- What may stand at the head. -/
theorem shape (l : List UInt8) (hne : l ≠ []) :
    (∃ a t, l = a :: t ∧ a.toNat < 128 ∧ decodeL l = (a.toNat, 1)) ∨
    (∃ a b t, l = a :: b :: t ∧ a.toNat / 32 = 6 ∧ b.toNat / 64 = 2 ∧ 128 ≤ a.toNat % 32 * 64 + b.toNat % 64 ∧ decodeL l = (a.toNat % 32 * 64 + b.toNat % 64, 2)) ∨
    (∃ a b c t, l = a :: b :: c :: t ∧ a.toNat / 16 = 14 ∧ b.toNat / 64 = 2 ∧ c.toNat / 64 = 2 ∧ 2048 ≤ a.toNat % 16 * 4096 + b.toNat % 64 * 64 + c.toNat % 64 ∧
      (a.toNat % 16 * 4096 + b.toNat % 64 * 64 + c.toNat % 64 < 55296 ∨ 57344 ≤ a.toNat % 16 * 4096 + b.toNat % 64 * 64 + c.toNat % 64) ∧
      decodeL l = (a.toNat % 16 * 4096 + b.toNat % 64 * 64 + c.toNat % 64, 3)) ∨
    (∃ a b c d t, l = a :: b :: c :: d :: t ∧ a.toNat / 8 = 30 ∧ b.toNat / 64 = 2 ∧ c.toNat / 64 = 2 ∧ d.toNat / 64 = 2 ∧
      65536 ≤ a.toNat % 8 * 262144 + b.toNat % 64 * 4096 + c.toNat % 64 * 64 + d.toNat % 64 ∧ a.toNat % 8 * 262144 + b.toNat % 64 * 4096 + c.toNat % 64 * 64 + d.toNat % 64 ≤ 1114111 ∧
      decodeL l = (a.toNat % 8 * 262144 + b.toNat % 64 * 4096 + c.toNat % 64 * 64 + d.toNat % 64, 4)) ∨
    (∃ a t, l = a :: t ∧ 128 ≤ a.toNat ∧ decodeL l = (65533, 1)) := by
  cases l with
  | nil => exact absurd rfl hne
  | cons a t =>
    by_cases ha : a.toNat < 128
    · exact .inl ⟨a, t, rfl, ha, decodeL_ascii a t ha⟩
    · have hN := decodeL_N (a :: t)
      rcases decodeN_shape (a :: t).length ((a :: t).getD 0 0).toNat ((a :: t).getD 1 0).toNat ((a :: t).getD 2 0).toNat ((a :: t).getD 3 0).toNat with ⟨c, e⟩ | ⟨c1, c2, c3, cv, e⟩ | ⟨c1, c2, c3, c4, cv, cs, e⟩ | ⟨c1, c2, c3, c4, c5, cv, cw, e⟩ | e
      · exact absurd c ha
      · rcases t with _ | ⟨b, t⟩
        · exact absurd c2 (by simp only [List.length_cons, List.length_nil]; omega)
        · exact .inr (.inl ⟨a, b, t, rfl, c1, c3, cv, hN.trans e⟩)
      · rcases t with _ | ⟨b, _ | ⟨c, t⟩⟩
        · exact absurd c2 (by simp only [List.length_cons, List.length_nil]; omega)
        · exact absurd c2 (by simp only [List.length_cons, List.length_nil]; omega)
        · exact .inr (.inr (.inl ⟨a, b, c, t, rfl, c1, c3, c4, cv, cs, hN.trans e⟩))
      · rcases t with _ | ⟨b, _ | ⟨c, _ | ⟨d, t⟩⟩⟩
        · exact absurd c2 (by simp only [List.length_cons, List.length_nil]; omega)
        · exact absurd c2 (by simp only [List.length_cons, List.length_nil]; omega)
        · exact absurd c2 (by simp only [List.length_cons, List.length_nil]; omega)
        · exact .inr (.inr (.inr (.inl ⟨a, b, c, d, t, rfl, c1, c3, c4, c5, cv, cw, hN.trans e⟩)))
      · exact .inr (.inr (.inr (.inr ⟨a, t, rfl, by omega, hN.trans e⟩)))

/-- The head's bytes are its letter's. -/
theorem head_enc (l : List UInt8) (hne : l ≠ []) : l = enc (letter1 l) ++ l.drop (decodeL l).2 := by
  rcases shape l hne with ⟨a, t, rfl, ha, e⟩ | ⟨a, b, t, rfl, c1, c3, cv, e⟩ | ⟨a, b, c, t, rfl, c1, c3, c4, cv, cs, e⟩ | ⟨a, b, c, d, t, rfl, c1, c3, c4, c5, cv, cw, e⟩ | ⟨a, t, rfl, ha, e⟩
  · have hb : ¬ Bad (a :: t) := by unfold Bad; rw [e]; simp; omega
    unfold letter1 enc
    rw [if_neg hb, e]
    dsimp only
    rw [if_pos ha, byte_eq rfl]
    rfl
  · have hb : ¬ Bad (a :: b :: t) := by unfold Bad; rw [e]; simp
    have h1 := a.toNat_lt
    have h2 := b.toNat_lt
    unfold letter1 enc
    rw [if_neg hb, e]
    dsimp only
    rw [if_neg (by omega), if_pos (by omega), byte_eq (a := a) (by omega), byte_eq (a := b) (by omega)]
    rfl
  · have hb : ¬ Bad (a :: b :: c :: t) := by unfold Bad; rw [e]; simp
    have h1 := a.toNat_lt
    have h2 := b.toNat_lt
    have h3 := c.toNat_lt
    unfold letter1 enc
    rw [if_neg hb, e]
    dsimp only
    rw [if_neg (by omega), if_neg (by omega), if_pos (by omega), byte_eq (a := a) (by omega), byte_eq (a := b) (by omega), byte_eq (a := c) (by omega)]
    rfl
  · have hb : ¬ Bad (a :: b :: c :: d :: t) := by unfold Bad; rw [e]; simp
    have h1 := a.toNat_lt
    have h2 := b.toNat_lt
    have h3 := c.toNat_lt
    have h4 := d.toNat_lt
    unfold letter1 enc
    rw [if_neg hb, e]
    dsimp only
    rw [if_neg (by omega), if_neg (by omega), if_neg (by omega), if_pos (by omega), byte_eq (a := a) (by omega), byte_eq (a := b) (by omega), byte_eq (a := c) (by omega), byte_eq (a := d) (by omega)]
    rfl
  · have hb : Bad (a :: t) := by unfold Bad; rw [e]; simp
    have h1 : letter1 (a :: t) = 1114112 + a.toNat := by unfold letter1; rw [if_pos hb]; rfl
    rw [h1, e]
    unfold enc
    rw [if_neg (by omega), if_neg (by omega), if_neg (by omega), if_neg (by omega), byte_eq (a := a) (by omega)]
    rfl

/-- A text is its letters' bytes. -/
theorem enc_letters : ∀ l : List UInt8, (letters l).flatMap enc = l := by
  refine by_letters rfl ?_
  intro l hne ih
  rw [letters_step l hne, List.flatMap_cons, ih]
  exact (head_enc l hne).symm
theorem letters_inj {a b : List UInt8} (h : letters a = letters b) : a = b := by
  rw [← enc_letters a, ← enc_letters b, h]

/-- A letter's bytes are read as it, whatever follows. -/
theorem decode_enc (n : Nat) (hn : IsLetter n) (t : List UInt8) : decodeL (enc n ++ t) = (n, (enc n).length) ∧ ¬ Bad (enc n ++ t) := by
  have key : decodeL (enc n ++ t) = (n, (enc n).length) := by
    unfold IsLetter at hn
    rw [decodeL_N]
    unfold enc
    by_cases h1 : n < 128
    · simp only [if_pos h1]
      simp [decodeN, Nat.mod_eq_of_lt (show n < 256 by omega)]
      omega
    · by_cases h2 : n < 2048
      · simp only [if_neg h1, if_pos h2]
        have e1 : (192 + n / 64) % 256 = 192 + n / 64 := by omega
        have e2 : (128 + n % 64) % 256 = 128 + n % 64 := by omega
        simp [decodeN, e1, e2]
        rw [if_neg (by omega), if_pos (by omega), if_pos (by omega)]
        congr 1
        omega
      · by_cases h3 : n < 65536
        · simp only [if_neg h1, if_neg h2, if_pos h3]
          have e1 : (224 + n / 4096) % 256 = 224 + n / 4096 := by omega
          have e2 : (128 + n / 64 % 64) % 256 = 128 + n / 64 % 64 := by omega
          have e3 : (128 + n % 64) % 256 = 128 + n % 64 := by omega
          simp [decodeN, e1, e2, e3]
          rw [if_neg (by omega), if_neg (by omega), if_pos (by omega), if_pos (by omega)]
          congr 1
          omega
        · have h4 : n < 1114112 := by omega
          simp only [if_neg h1, if_neg h2, if_neg h3, if_pos h4]
          have e1 : (240 + n / 262144) % 256 = 240 + n / 262144 := by omega
          have e2 : (128 + n / 4096 % 64) % 256 = 128 + n / 4096 % 64 := by omega
          have e3 : (128 + n / 64 % 64) % 256 = 128 + n / 64 % 64 := by omega
          have e4 : (128 + n % 64) % 256 = 128 + n % 64 := by omega
          simp [decodeN, e1, e2, e3, e4]
          rw [if_neg (by omega), if_neg (by omega), if_neg (by omega), if_pos (by omega), if_pos (by omega)]
          congr 1
          omega
  refine ⟨key, ?_⟩
  unfold Bad
  rw [key]
  rintro ⟨h1, h2⟩
  dsimp only at h1 h2
  subst h1
  simp [enc] at h2

theorem enc_ne (n : Nat) : enc n ≠ [] := by
  unfold enc
  repeat' split
  all_goals simp

/-- A letter that is read is one. -/
theorem letter1_is (l : List UInt8) (hne : l ≠ []) (hb : ¬ Bad l) : IsLetter (letter1 l) := by
  unfold letter1
  rw [if_neg hb]
  unfold IsLetter
  rcases shape l hne with ⟨a, t, rfl, ha, e⟩ | ⟨a, b, t, rfl, c1, c3, cv, e⟩ | ⟨a, b, c, t, rfl, c1, c3, c4, cv, cs, e⟩ | ⟨a, b, c, d, t, rfl, c1, c3, c4, c5, cv, cw, e⟩ | ⟨a, t, rfl, ha, e⟩
  · rw [e]; dsimp only; omega
  · rw [e]; dsimp only; omega
  · have h1 := a.toNat_lt
    rw [e]; dsimp only; omega
  · rw [e]; dsimp only; omega
  · exact absurd (by unfold Bad; rw [e]; simp) hb

/-- Is it a text? -/
def valid (l : List UInt8) : Bool := validD l
theorem valid_step (l : List UInt8) (hne : l ≠ []) : valid l = if Bad l then false else valid (l.drop (decodeL l).2) := validD_step l hne
theorem valid_iff : ∀ l : List UInt8, valid l = true ↔ ∀ n ∈ letters l, IsLetter n := by
  refine by_letters ⟨fun _ n h => by simp [letters_nil] at h, fun _ => rfl⟩ ?_
  intro l hne ih
  rw [valid_step l hne, letters_step l hne]
  by_cases hb : Bad l
  · rw [if_pos hb]
    refine ⟨fun h => (by cases h), fun h => ?_⟩
    have := h (letter1 l) List.mem_cons_self
    unfold letter1 IsLetter at this
    rw [if_pos hb] at this
    omega
  · rw [if_neg hb, ih]
    refine ⟨fun h n hn => ?_, fun h n hn => h n (List.mem_cons_of_mem _ hn)⟩
    rcases List.mem_cons.1 hn with rfl | hn
    · exact letter1_is l hne hb
    · exact h n hn

/-- Letters put together. -/
theorem letters_enc : ∀ (ns : List Nat) (t : List UInt8), (∀ n ∈ ns, IsLetter n) → letters (ns.flatMap enc ++ t) = ns ++ letters t
  | [], t, _ => rfl
  | n :: ns, t, h => by
    obtain ⟨h1, h2⟩ := decode_enc n (h n List.mem_cons_self) (ns.flatMap enc ++ t)
    rw [List.flatMap_cons, List.append_assoc, letters_step _ (by simp [enc_ne])]
    unfold letter1
    rw [if_neg h2, h1]
    dsimp only
    rw [List.drop_left, letters_enc ns t (fun m hm => h m (List.mem_cons_of_mem _ hm)), List.cons_append]
theorem letters_of_enc (ns : List Nat) (h : ∀ n ∈ ns, IsLetter n) : letters (ns.flatMap enc) = ns := by
  have := letters_enc ns [] h
  rwa [List.append_nil, letters_nil, List.append_nil] at this
theorem letters_append (s t : List UInt8) (hs : valid s = true) : letters (s ++ t) = letters s ++ letters t := by
  have := letters_enc (letters s) t ((valid_iff s).1 hs)
  rwa [enc_letters s] at this
theorem valid_append (s t : List UInt8) (hs : valid s = true) : valid (s ++ t) = valid t := by
  rw [Bool.eq_iff_iff, valid_iff, valid_iff, letters_append s t hs]
  exact ⟨fun h n hn => h n (List.mem_append_right _ hn), fun h n hn => (List.mem_append.1 hn).elim (fun h1 => (valid_iff s).1 hs n h1) (h n)⟩

/-- A letter, folded; a byte, folded. -/
def foldN (n : Nat) : Nat := if 65 ≤ n ∧ n ≤ 90 then n + 32 else n
def foldB (b : UInt8) : UInt8 := if 65 ≤ b.toNat ∧ b.toNat ≤ 90 then b + 32 else b
def fold (l : List UInt8) : List UInt8 := l.map foldB

theorem foldB_nat (b : UInt8) : (foldB b).toNat = foldN b.toNat := by
  have := b.toNat_lt
  unfold foldB foldN
  split
  · rw [UInt8.toNat_add]
    show (b.toNat + 32) % 256 = _
    omega
  · rfl
theorem foldB_high (b : UInt8) (h : 91 ≤ b.toNat) : foldB b = b := by unfold foldB; rw [if_neg (by omega)]
theorem foldN_high (n : Nat) (h : 91 ≤ n) : foldN n = n := by unfold foldN; rw [if_neg (by omega)]
theorem foldN_is {n : Nat} (h : IsLetter n) : IsLetter (foldN n) := by unfold IsLetter foldN at *; split <;> omega
theorem foldN_low (n : Nat) (h : n < 128) : foldN n < 128 := by unfold foldN; split <;> omega
theorem foldN_foldN (n : Nat) : foldN (foldN n) = foldN n := by
  unfold foldN
  by_cases h : 65 ≤ n ∧ n ≤ 90
  · rw [if_pos h, if_neg (by omega)]
  · rw [if_neg h, if_neg h]
theorem foldB_foldB (b : UInt8) : foldB (foldB b) = foldB b := by
  apply UInt8.toNat_inj.1
  rw [foldB_nat, foldB_nat, foldN_foldN]
theorem fold_fold (l : List UInt8) : fold (fold l) = fold l := by
  unfold fold
  rw [List.map_map]
  exact List.map_congr_left (fun b _ => foldB_foldB b)
theorem fold_length (l : List UInt8) : (fold l).length = l.length := by simp [fold]
theorem fold_append (s t : List UInt8) : fold (s ++ t) = fold s ++ fold t := by simp [fold]

/-- Folding turns no bytes of letters but those of A to Z. -/
theorem enc_fold (n : Nat) : enc (foldN n) = fold (enc n) ∨ 1114112 ≤ n := by
  by_cases h : 1114112 ≤ n
  · exact .inr h
  · left
    by_cases h1 : n < 128
    · have h2 := foldN_low n h1
      unfold enc
      rw [if_pos h1, if_pos h2]
      simp only [fold, List.map_cons, List.map_nil]
      congr 1
      apply UInt8.toNat_inj.1
      rw [foldB_nat]
      simp
      rw [Nat.mod_eq_of_lt (by omega), Nat.mod_eq_of_lt (by omega)]
    · rw [foldN_high n (by omega)]
      unfold enc
      repeat' split
      all_goals simp only [fold, List.map_cons, List.map_nil]
      all_goals (repeat (rw [foldB_high]))
      all_goals (try (simp only [UInt8.toNat_ofNat']; omega))

theorem decodeN_low (n b0 b1 b2 b3 c1 c2 c3 : Nat) (h1 : b1 / 64 = 2 ∨ c1 / 64 = 2 → b1 = c1) (h2 : b2 / 64 = 2 ∨ c2 / 64 = 2 → b2 = c2) (h3 : b3 / 64 = 2 ∨ c3 / 64 = 2 → b3 = c3) (h0 : 128 ≤ b0) :
    decodeN n b0 b1 b2 b3 = decodeN n b0 c1 c2 c3 := by
  by_cases k1 : b1 / 64 = 2 ∨ c1 / 64 = 2
  · obtain rfl := h1 k1
    by_cases k2 : b2 / 64 = 2 ∨ c2 / 64 = 2
    · obtain rfl := h2 k2
      by_cases k3 : b3 / 64 = 2 ∨ c3 / 64 = 2
      · obtain rfl := h3 k3
        rfl
      · simp [decodeN, show ¬ b3 / 64 = 2 from fun h => k3 (.inl h), show ¬ c3 / 64 = 2 from fun h => k3 (.inr h)]
    · simp [decodeN, show ¬ b2 / 64 = 2 from fun h => k2 (.inl h), show ¬ c2 / 64 = 2 from fun h => k2 (.inr h)]
  · simp [decodeN, show ¬ b1 / 64 = 2 from fun h => k1 (.inl h), show ¬ c1 / 64 = 2 from fun h => k1 (.inr h)]

theorem fold_getD (l : List UInt8) (i : Nat) : (fold l).getD i 0 = foldB (l.getD i 0) := by
  unfold fold
  by_cases h : i < l.length
  · simp [List.getD, h]
  · simp [List.getD, List.getElem?_eq_none (Nat.not_lt.1 h), foldB]
theorem foldN_cont (n : Nat) : n / 64 = 2 ∨ foldN n / 64 = 2 → n = foldN n := by unfold foldN; split <;> omega

/-- A folded text is read at the same places: its letter there is the folded one. -/
theorem decode_fold (l : List UInt8) (hne : l ≠ []) : decodeL (fold l) = (foldN (decodeL l).1, (decodeL l).2) ∧ (Bad (fold l) ↔ Bad l) := by
  have key : decodeL (fold l) = (foldN (decodeL l).1, (decodeL l).2) := by
    cases l with
    | nil => exact absurd rfl hne
    | cons a t =>
      by_cases ha : a.toNat < 128
      · rw [decodeL_ascii a t ha]
        show decodeL (foldB a :: fold t) = _
        rw [decodeL_ascii (foldB a) _ (by rw [foldB_nat]; exact foldN_low _ ha), foldB_nat]
      · have e : decodeL (fold (a :: t)) = decodeL (a :: t) := by
          rw [decodeL_N, decodeL_N, fold_length, fold_getD, fold_getD, fold_getD, fold_getD, foldB_nat, foldB_nat, foldB_nat, foldB_nat]
          rw [show foldN ((a :: t).getD 0 0).toNat = ((a :: t).getD 0 0).toNat from foldN_high _ (by show 91 ≤ a.toNat; omega)]
          exact (decodeN_low _ _ _ _ _ _ _ _ (foldN_cont _) (foldN_cont _) (foldN_cont _) (by show 128 ≤ a.toNat; omega)).symm
        rw [e]
        rcases shape (a :: t) hne with ⟨a', t', h, ha', e⟩ | ⟨a', b, t', h, c1, c3, cv, e⟩ | ⟨a', b, c, t', h, c1, c3, c4, cv, cs, e⟩ | ⟨a', b, c, d, t', h, c1, c3, c4, c5, cv, cw, e⟩ | ⟨a', t', h, ha', e⟩
        · injection h with h _; subst h; omega
        all_goals (rw [e]; dsimp only; rw [foldN_high _ (by omega)])
  refine ⟨key, ?_⟩
  unfold Bad
  rw [key]
  dsimp only
  unfold foldN
  split
  · constructor <;> rintro ⟨h1, _⟩ <;> omega
  · exact Iff.rfl
theorem letter1_fold (l : List UInt8) (hne : l ≠ []) : letter1 (fold l) = foldN (letter1 l) := by
  obtain ⟨h1, h2⟩ := decode_fold l hne
  unfold letter1
  by_cases hb : Bad l
  · rw [if_pos (h2.2 hb), if_pos hb, foldN_high _ (by omega)]
    rcases shape l hne with ⟨a, t, rfl, ha, e⟩ | ⟨a, b, t, rfl, c1, c3, cv, e⟩ | ⟨a, b, c, t, rfl, c1, c3, c4, cv, cs, e⟩ | ⟨a, b, c, d, t, rfl, c1, c3, c4, c5, cv, cw, e⟩ | ⟨a, t, rfl, ha, e⟩
    · unfold Bad at hb; rw [e] at hb; simp at hb; omega
    · unfold Bad at hb; rw [e] at hb; simp at hb
    · unfold Bad at hb; rw [e] at hb; simp at hb
    · unfold Bad at hb; rw [e] at hb; simp at hb
    · simp only [fold, List.map_cons, List.headD_cons]
      rw [foldB_high a (by omega)]
  · rw [if_neg (fun h => hb (h2.1 h)), if_neg hb, h1]
theorem letters_fold : ∀ l : List UInt8, letters (fold l) = (letters l).map foldN := by
  refine by_letters rfl ?_
  intro l hne ih
  have hf : fold l ≠ [] := by unfold fold; simpa using hne
  obtain ⟨h1, _⟩ := decode_fold l hne
  rw [letters_step l hne, letters_step _ hf, letter1_fold l hne, h1, List.map_cons]
  dsimp only
  rw [← ih]
  congr 2
  unfold fold
  rw [List.map_drop]
theorem valid_fold (l : List UInt8) : valid (fold l) = valid l := by
  rw [Bool.eq_iff_iff, valid_iff, valid_iff, letters_fold]
  constructor
  · intro h n hn
    have := h (foldN n) (List.mem_map.2 ⟨n, hn, rfl⟩)
    unfold IsLetter foldN at *
    split at this <;> omega
  · intro h n hn
    obtain ⟨m, hm, rfl⟩ := List.mem_map.1 hn
    exact foldN_is (h m hm)
end Go.Proofs.YtfglhnnbfmpfeaaDoor.U
/- The reference's letters, as the print tells them: they are the plain ones. No condition but the text's size. -/
set_option linter.unusedVariables false
set_option linter.unusedSimpArgs false
namespace Go.Proofs.YtfglhnnbfmpfeaaDoor.U
open Go.RowKit Go.Proofs.YtfglhnnbfmpfeaaDoorW.PrintWords Go.Proofs.YtfglhnnbfmpfeaaDoor.PR Go.Lib

theorem w64 {x : Int} (h0 : -9223372036854775808 ≤ x) (h1 : x ≤ 9223372036854775807) : wrap64 x = x := by unfold wrap64; omega

theorem lead_eq (k : Nat) (c : Int) (h0 : 0 ≤ c) (h1 : c ≤ 255) : refectoryref02_lead.f (k + 3) c =
    some (if c < 128 then (1, c, 0) else if c < 192 then (0, 0, 0) else if c < 224 then (2, c - 192, 128) else if c < 240 then (3, c - 224, 2048) else if c < 248 then (4, c - 240, 65536) else (0, 0, 0)) := by
  unfold refectoryref02_lead.f
  by_cases a1 : c < 128
  · rw [if_pos a1, if_pos a1, w64 (by omega) (by omega)]
  · rw [if_neg a1, if_neg a1]
    by_cases a2 : c < 192
    · rw [if_neg (by omega), if_pos a2]
      show refectoryref02_lead.j0 ((k + 2) + 1) c false = _
      rw [refectoryref02_lead.j0]
      rw [if_neg (by decide), if_neg (by omega)]
      show refectoryref02_lead.j1 ((k + 1) + 1) c false = _
      rw [refectoryref02_lead.j1]
      rw [if_neg (by decide), if_neg (by omega)]
    · rw [if_pos (by omega), if_neg a2]
      show refectoryref02_lead.j0 ((k + 2) + 1) c _ = _
      rw [refectoryref02_lead.j0]
      by_cases a3 : c < 224
      · rw [if_pos (by simpa using a3), if_pos a3, w64 (x := c) (by omega) (by omega), w64 (by omega) (by omega)]
      · rw [if_neg (by simpa using a3), if_neg a3, if_pos (by omega)]
        show refectoryref02_lead.j1 ((k + 1) + 1) c _ = _
        rw [refectoryref02_lead.j1]
        by_cases a4 : c < 240
        · rw [if_pos (by simpa using a4), if_pos a4, w64 (x := c) (by omega) (by omega), w64 (by omega) (by omega)]
        · rw [if_neg (by simpa using a4), if_neg a4, if_pos (by omega)]
          by_cases a5 : c < 248
          · rw [if_pos a5, if_pos a5, w64 (x := c) (by omega) (by omega), w64 (by omega) (by omega)]
          · rw [if_neg a5, if_neg a5]

theorem letter_eq (n : Int) : refectoryref02_Letter.f n = some (decide (0 ≤ n ∧ n ≤ 1114111 ∧ (n < 55296 ∨ 57343 < n))) := by
  unfold refectoryref02_Letter.f
  by_cases a1 : n ≥ 0
  · by_cases a2 : n ≤ 1114111
    · by_cases a3 : n < 55296
      · rw [if_pos a1, if_pos a2, if_pos a3]; simp; omega
      · rw [if_pos a1, if_pos a2, if_neg a3]
        congr 1
        exact decide_eq_decide.2 ⟨fun h => ⟨by omega, by omega, by omega⟩, fun h => by omega⟩
    · rw [if_pos a1, if_neg a2]; simp; omega
  · rw [if_neg a1]; simp; omega

/-- One byte more. -/
theorem more_eq (k : Nat) (s : ByteArray) (at' sz n least i b : Int) (hi : i < sz) (h0 : 0 ≤ at' + i) (h1 : at' + i < s.size) (hs : s.size ≤ 17592186044416) (hb : bt s (at' + i) = b) (hbr : 0 ≤ b ∧ b ≤ 255) (hn : 0 ≤ n ∧ n ≤ 1114112) (hi2 : 0 ≤ i ∧ i ≤ 10) :
    refectoryref02_first.l0 (k + 1) s at' sz n least i = if 128 ≤ b ∧ b < 192 then refectoryref02_first.l0 k s at' sz (64 * n + b - 128) least (i + 1) else some (0, 0) := by
  rw [refectoryref02_first.l0, if_pos hi, w64 (x := at' + i) (by omega) (by omega), if_pos h0, if_pos h1, hb, w64 (x := b) (by omega) (by omega), w64 (x := 64 * n) (by omega) (by omega), w64 (x := 64 * n + b) (by omega) (by omega),
    w64 (x := 64 * n + b - 128) (by omega) (by omega), w64 (x := i + 1) (by omega) (by omega)]
  by_cases a1 : b < 128
  · rw [if_pos a1, if_neg (by omega)]
  · rw [if_neg a1]
    by_cases a2 : b ≥ 192
    · rw [if_pos a2, if_neg (by omega)]
    · rw [if_neg a2, if_pos (by omega)]
theorem last_eq (k : Nat) (s : ByteArray) (at' sz n least i : Int) (hi : ¬ i < sz) :
    refectoryref02_first.l0 (k + 1) s at' sz n least i = if least ≤ n ∧ 0 ≤ n ∧ n ≤ 1114111 ∧ (n < 55296 ∨ 57343 < n) then some (n, sz) else some (0, 0) := by
  rw [refectoryref02_first.l0, if_neg hi, letter_eq]
  by_cases a1 : n < least
  · rw [if_pos a1, if_neg (by omega)]
  · rw [if_neg a1]
    simp only [Option.bind_some]
    by_cases a2 : 0 ≤ n ∧ n ≤ 1114111 ∧ (n < 55296 ∨ 57343 < n)
    · rw [if_pos (by simpa using a2), if_pos ⟨by omega, a2⟩]
    · rw [if_neg (by simpa using a2), if_neg (fun h => a2 h.2)]

def firstOf (D : Nat × Nat) : Int × Int := if D.1 = 65533 ∧ D.2 = 1 then (0, 0) else ((D.1 : Int), (D.2 : Int))

theorem first_unf (k : Nat) (s : ByteArray) (at' a b d c : Int) (h0 : 0 ≤ at') (h1 : at' < s.size) (hc : bt s at' = c) (hl : refectoryref02_lead.f k c = some (a, b, d)) :
    refectoryref02_first.f k s at' = if a = 0 then refectoryref02_first.j0 k s at' a b d true else refectoryref02_first.j0 k s at' a b d (decide (wrap64 (at' + a) > (s.size : Int))) := by
  unfold refectoryref02_first.f
  rw [if_pos h0, if_pos h1, hc, hl]
  rfl
theorem pair_eq {a b c d : Int} (h : a = b) (h' : c = d) : (some (a, c) : Option (Int × Int)) = some (b, d) := by rw [h, h']
theorem firstOf_bad : firstOf (65533, 1) = (0, 0) := rfl
theorem firstOf_good (n w : Nat) (h : ¬ (n = 65533 ∧ w = 1)) : firstOf (n, w) = ((n : Int), (w : Int)) := by unfold firstOf; rw [if_neg h]
set_option maxHeartbeats 4000000 in
theorem first_N1 (k : Nat) (s : ByteArray) (pos b0 b1 b2 b3 n : Nat) (h : pos < s.size) (hs : s.size ≤ 17592186044416) (hn : n = s.size - pos) (h0 : b0 < 256) (h1 : b1 < 256) (h2 : b2 < 256) (h3 : b3 < 256)
    (e0 : bt s pos = b0) (e1 : pos + 1 < s.size → bt s (pos + 1) = b1) (e2 : pos + 2 < s.size → bt s (pos + 2) = b2) (e3 : pos + 3 < s.size → bt s (pos + 3) = b3) (hc : b0 < 128) :
    refectoryref02_first.f (k + 8) s pos = some (firstOf (decodeN n b0 b1 b2 b3)) := by
  have hl := lead_eq (k + 5) (b0 : Int) (by omega) (by omega)
  have a1 : b0 < 128 := hc
  have hd : decodeN n b0 b1 b2 b3 = (b0, 1) := by unfold decodeN; rw [if_pos a1]
  rw [if_pos (by omega)] at hl
  rw [first_unf _ _ _ _ _ _ _ (by omega) (by omega) e0 hl, hd, firstOf_good _ _ (by omega)]
  rw [if_neg (by omega), w64 (x := (pos : Int) + 1) (by omega) (by omega), decide_eq_false (by omega)]
  show refectoryref02_first.j0 ((k + 7) + 1) _ _ _ _ _ _ = _
  rw [refectoryref02_first.j0, if_neg (by decide)]
  show refectoryref02_first.l0 ((k + 6) + 1) _ _ _ _ _ _ = _
  rw [last_eq _ _ _ _ _ _ _ (by omega), if_pos (by omega)]
  rfl

set_option maxHeartbeats 4000000 in
theorem first_N2 (k : Nat) (s : ByteArray) (pos b0 b1 b2 b3 n : Nat) (h : pos < s.size) (hs : s.size ≤ 17592186044416) (hn : n = s.size - pos) (h0 : b0 < 256) (h1 : b1 < 256) (h2 : b2 < 256) (h3 : b3 < 256)
    (e0 : bt s pos = b0) (e1 : pos + 1 < s.size → bt s (pos + 1) = b1) (e2 : pos + 2 < s.size → bt s (pos + 2) = b2) (e3 : pos + 3 < s.size → bt s (pos + 3) = b3) (hc : 128 ≤ b0 ∧ b0 < 192) :
    refectoryref02_first.f (k + 8) s pos = some (firstOf (decodeN n b0 b1 b2 b3)) := by
  have hl := lead_eq (k + 5) (b0 : Int) (by omega) (by omega)
  have a1 : ¬ b0 < 128 := by omega
  rw [if_neg (by omega)] at hl
  have hd : decodeN n b0 b1 b2 b3 = (65533, 1) := by unfold decodeN; rw [if_neg a1, if_neg (by omega), if_neg (by omega), if_neg (by omega)]
  rw [if_pos (by omega)] at hl
  rw [first_unf _ _ _ _ _ _ _ (by omega) (by omega) e0 hl, hd, firstOf_bad]
  rw [if_pos rfl]
  show refectoryref02_first.j0 ((k + 7) + 1) _ _ _ _ _ _ = _
  rw [refectoryref02_first.j0, if_pos rfl]

set_option maxHeartbeats 4000000 in
theorem first_N3 (k : Nat) (s : ByteArray) (pos b0 b1 b2 b3 n : Nat) (h : pos < s.size) (hs : s.size ≤ 17592186044416) (hn : n = s.size - pos) (h0 : b0 < 256) (h1 : b1 < 256) (h2 : b2 < 256) (h3 : b3 < 256)
    (e0 : bt s pos = b0) (e1 : pos + 1 < s.size → bt s (pos + 1) = b1) (e2 : pos + 2 < s.size → bt s (pos + 2) = b2) (e3 : pos + 3 < s.size → bt s (pos + 3) = b3) (hc : 192 ≤ b0 ∧ b0 < 224) :
    refectoryref02_first.f (k + 8) s pos = some (firstOf (decodeN n b0 b1 b2 b3)) := by
  have hl := lead_eq (k + 5) (b0 : Int) (by omega) (by omega)
  have a1 : ¬ b0 < 128 := by omega
  rw [if_neg (by omega)] at hl
  rw [if_neg (by omega)] at hl
  rw [if_pos (by omega)] at hl
  rw [first_unf _ _ _ _ _ _ _ (by omega) (by omega) e0 hl]
  rw [if_neg (by omega), w64 (x := (pos : Int) + 2) (by omega) (by omega)]
  show refectoryref02_first.j0 ((k + 7) + 1) _ _ _ _ _ _ = _
  rw [refectoryref02_first.j0]
  have d3 : ¬ (b0 / 16 = 14 ∧ (1 < n ∧ b1 / 64 = 2) ∧ (2 < n ∧ b2 / 64 = 2)) := by omega
  have d4 : ¬ (b0 / 8 = 30 ∧ (1 < n ∧ b1 / 64 = 2) ∧ (2 < n ∧ b2 / 64 = 2) ∧ (3 < n ∧ b3 / 64 = 2)) := by omega
  by_cases a4 : 1 < n
  · rw [decide_eq_false (by omega), if_neg (by decide)]
    show refectoryref02_first.l0 ((k + 6) + 1) _ _ _ _ _ _ = _
    rw [more_eq _ _ _ _ _ _ _ (b1 : Int) (by omega) (by omega) (by omega) hs (e1 (by omega)) (by omega) (by omega) (by omega)]
    by_cases a5 : 128 ≤ b1 ∧ b1 < 192
    · rw [if_pos (by omega)]
      show refectoryref02_first.l0 ((k + 5) + 1) _ _ _ _ _ _ = _
      by_cases a6 : b0 % 32 * 64 + b1 % 64 ≥ 128
      · have hd : decodeN n b0 b1 b2 b3 = (b0 % 32 * 64 + b1 % 64, 2) := by unfold decodeN; rw [if_neg a1, if_pos (by omega), if_pos a6]
        rw [last_eq _ _ _ _ _ _ _ (by omega), if_pos (by omega), hd, firstOf_good _ _ (by omega)]
        exact pair_eq (by omega) (by omega)
      · have hd : decodeN n b0 b1 b2 b3 = (65533, 1) := by unfold decodeN; rw [if_neg a1, if_pos (by omega), if_neg a6]
        rw [last_eq _ _ _ _ _ _ _ (by omega), if_neg (by omega), hd, firstOf_bad]
    · have hd : decodeN n b0 b1 b2 b3 = (65533, 1) := by unfold decodeN; rw [if_neg a1, if_neg (by omega), if_neg d3, if_neg d4]
      rw [if_neg (by omega), hd, firstOf_bad]
  · have hd : decodeN n b0 b1 b2 b3 = (65533, 1) := by unfold decodeN; rw [if_neg a1, if_neg (by omega), if_neg d3, if_neg d4]
    rw [decide_eq_true (by omega), if_pos rfl, hd, firstOf_bad]

set_option maxHeartbeats 4000000 in
theorem first_N4 (k : Nat) (s : ByteArray) (pos b0 b1 b2 b3 n : Nat) (h : pos < s.size) (hs : s.size ≤ 17592186044416) (hn : n = s.size - pos) (h0 : b0 < 256) (h1 : b1 < 256) (h2 : b2 < 256) (h3 : b3 < 256)
    (e0 : bt s pos = b0) (e1 : pos + 1 < s.size → bt s (pos + 1) = b1) (e2 : pos + 2 < s.size → bt s (pos + 2) = b2) (e3 : pos + 3 < s.size → bt s (pos + 3) = b3) (hc : 224 ≤ b0 ∧ b0 < 240) :
    refectoryref02_first.f (k + 8) s pos = some (firstOf (decodeN n b0 b1 b2 b3)) := by
  have hl := lead_eq (k + 5) (b0 : Int) (by omega) (by omega)
  have a1 : ¬ b0 < 128 := by omega
  have d2 : ¬ (b0 / 32 = 6 ∧ (1 < n ∧ b1 / 64 = 2)) := by omega
  rw [if_neg (by omega)] at hl
  rw [if_neg (by omega)] at hl
  rw [if_neg (by omega)] at hl
  rw [if_pos (by omega)] at hl
  rw [first_unf _ _ _ _ _ _ _ (by omega) (by omega) e0 hl]
  rw [if_neg (by omega), w64 (x := (pos : Int) + 3) (by omega) (by omega)]
  show refectoryref02_first.j0 ((k + 7) + 1) _ _ _ _ _ _ = _
  rw [refectoryref02_first.j0]
  have d4 : ¬ (b0 / 8 = 30 ∧ (1 < n ∧ b1 / 64 = 2) ∧ (2 < n ∧ b2 / 64 = 2) ∧ (3 < n ∧ b3 / 64 = 2)) := by omega
  by_cases a5 : 2 < n
  · rw [decide_eq_false (by omega), if_neg (by decide)]
    show refectoryref02_first.l0 ((k + 6) + 1) _ _ _ _ _ _ = _
    rw [more_eq _ _ _ _ _ _ _ (b1 : Int) (by omega) (by omega) (by omega) hs (e1 (by omega)) (by omega) (by omega) (by omega)]
    by_cases a6 : 128 ≤ b1 ∧ b1 < 192
    · rw [if_pos (by omega)]
      show refectoryref02_first.l0 ((k + 5) + 1) _ _ _ _ _ _ = _
      rw [more_eq _ _ _ _ _ _ _ (b2 : Int) (by omega) (by omega) (by omega) hs (by rw [show ((pos : Int) + (1 + 1)) = (pos : Int) + 2 from by omega]; exact e2 (by omega)) (by omega) (by omega) (by omega)]
      by_cases a7 : 128 ≤ b2 ∧ b2 < 192
      · rw [if_pos (by omega)]
        show refectoryref02_first.l0 ((k + 4) + 1) _ _ _ _ _ _ = _
        by_cases a8 : b0 % 16 * 4096 + b1 % 64 * 64 + b2 % 64 ≥ 2048 ∧ (b0 % 16 * 4096 + b1 % 64 * 64 + b2 % 64 < 55296 ∨ (57344 ≤ b0 % 16 * 4096 + b1 % 64 * 64 + b2 % 64 ∧ b0 % 16 * 4096 + b1 % 64 * 64 + b2 % 64 ≤ 1114111))
        · have hd : decodeN n b0 b1 b2 b3 = (b0 % 16 * 4096 + b1 % 64 * 64 + b2 % 64, 3) := by unfold decodeN; rw [if_neg a1, if_neg d2, if_pos (by omega), if_pos a8]
          rw [last_eq _ _ _ _ _ _ _ (by omega), if_pos (by omega), hd, firstOf_good _ _ (by omega)]
          exact pair_eq (by omega) (by omega)
        · have hd : decodeN n b0 b1 b2 b3 = (65533, 1) := by unfold decodeN; rw [if_neg a1, if_neg d2, if_pos (by omega), if_neg a8]
          rw [last_eq _ _ _ _ _ _ _ (by omega), if_neg (by omega), hd, firstOf_bad]
      · have hd : decodeN n b0 b1 b2 b3 = (65533, 1) := by unfold decodeN; rw [if_neg a1, if_neg d2, if_neg (by omega), if_neg d4]
        rw [if_neg (by omega), hd, firstOf_bad]
    · have hd : decodeN n b0 b1 b2 b3 = (65533, 1) := by unfold decodeN; rw [if_neg a1, if_neg d2, if_neg (by omega), if_neg d4]
      rw [if_neg (by omega), hd, firstOf_bad]
  · have hd : decodeN n b0 b1 b2 b3 = (65533, 1) := by unfold decodeN; rw [if_neg a1, if_neg d2, if_neg (by omega), if_neg d4]
    rw [decide_eq_true (by omega), if_pos rfl, hd, firstOf_bad]

set_option maxHeartbeats 4000000 in
theorem first_N5 (k : Nat) (s : ByteArray) (pos b0 b1 b2 b3 n : Nat) (h : pos < s.size) (hs : s.size ≤ 17592186044416) (hn : n = s.size - pos) (h0 : b0 < 256) (h1 : b1 < 256) (h2 : b2 < 256) (h3 : b3 < 256)
    (e0 : bt s pos = b0) (e1 : pos + 1 < s.size → bt s (pos + 1) = b1) (e2 : pos + 2 < s.size → bt s (pos + 2) = b2) (e3 : pos + 3 < s.size → bt s (pos + 3) = b3) (hc : 240 ≤ b0 ∧ b0 < 248) :
    refectoryref02_first.f (k + 8) s pos = some (firstOf (decodeN n b0 b1 b2 b3)) := by
  have hl := lead_eq (k + 5) (b0 : Int) (by omega) (by omega)
  have a1 : ¬ b0 < 128 := by omega
  have d2 : ¬ (b0 / 32 = 6 ∧ (1 < n ∧ b1 / 64 = 2)) := by omega
  have d3 : ¬ (b0 / 16 = 14 ∧ (1 < n ∧ b1 / 64 = 2) ∧ (2 < n ∧ b2 / 64 = 2)) := by omega
  rw [if_neg (by omega)] at hl
  rw [if_neg (by omega)] at hl
  rw [if_neg (by omega)] at hl
  rw [if_neg (by omega)] at hl
  rw [if_pos (by omega)] at hl
  rw [first_unf _ _ _ _ _ _ _ (by omega) (by omega) e0 hl]
  rw [if_neg (by omega), w64 (x := (pos : Int) + 4) (by omega) (by omega)]
  show refectoryref02_first.j0 ((k + 7) + 1) _ _ _ _ _ _ = _
  rw [refectoryref02_first.j0]
  by_cases a6 : 3 < n
  · rw [decide_eq_false (by omega), if_neg (by decide)]
    show refectoryref02_first.l0 ((k + 6) + 1) _ _ _ _ _ _ = _
    rw [more_eq _ _ _ _ _ _ _ (b1 : Int) (by omega) (by omega) (by omega) hs (e1 (by omega)) (by omega) (by omega) (by omega)]
    by_cases a7 : 128 ≤ b1 ∧ b1 < 192
    · rw [if_pos (by omega)]
      show refectoryref02_first.l0 ((k + 5) + 1) _ _ _ _ _ _ = _
      rw [more_eq _ _ _ _ _ _ _ (b2 : Int) (by omega) (by omega) (by omega) hs (by rw [show ((pos : Int) + (1 + 1)) = (pos : Int) + 2 from by omega]; exact e2 (by omega)) (by omega) (by omega) (by omega)]
      by_cases a8 : 128 ≤ b2 ∧ b2 < 192
      · rw [if_pos (by omega)]
        show refectoryref02_first.l0 ((k + 4) + 1) _ _ _ _ _ _ = _
        rw [more_eq _ _ _ _ _ _ _ (b3 : Int) (by omega) (by omega) (by omega) hs (by rw [show ((pos : Int) + (1 + 1 + 1)) = (pos : Int) + 3 from by omega]; exact e3 (by omega)) (by omega) (by omega) (by omega)]
        by_cases a9 : 128 ≤ b3 ∧ b3 < 192
        · rw [if_pos (by omega)]
          show refectoryref02_first.l0 ((k + 3) + 1) _ _ _ _ _ _ = _
          by_cases a10 : b0 % 8 * 262144 + b1 % 64 * 4096 + b2 % 64 * 64 + b3 % 64 ≥ 65536 ∧ (b0 % 8 * 262144 + b1 % 64 * 4096 + b2 % 64 * 64 + b3 % 64 < 55296 ∨ (57344 ≤ b0 % 8 * 262144 + b1 % 64 * 4096 + b2 % 64 * 64 + b3 % 64 ∧ b0 % 8 * 262144 + b1 % 64 * 4096 + b2 % 64 * 64 + b3 % 64 ≤ 1114111))
          · have hd : decodeN n b0 b1 b2 b3 = (b0 % 8 * 262144 + b1 % 64 * 4096 + b2 % 64 * 64 + b3 % 64, 4) := by unfold decodeN; rw [if_neg a1, if_neg d2, if_neg d3, if_pos (by omega), if_pos a10]
            rw [last_eq _ _ _ _ _ _ _ (by omega), if_pos (by omega), hd, firstOf_good _ _ (by omega)]
            exact pair_eq (by omega) (by omega)
          · have hd : decodeN n b0 b1 b2 b3 = (65533, 1) := by unfold decodeN; rw [if_neg a1, if_neg d2, if_neg d3, if_pos (by omega), if_neg a10]
            rw [last_eq _ _ _ _ _ _ _ (by omega), if_neg (by omega), hd, firstOf_bad]
        · have hd : decodeN n b0 b1 b2 b3 = (65533, 1) := by unfold decodeN; rw [if_neg a1, if_neg d2, if_neg d3, if_neg (by omega)]
          rw [if_neg (by omega), hd, firstOf_bad]
      · have hd : decodeN n b0 b1 b2 b3 = (65533, 1) := by unfold decodeN; rw [if_neg a1, if_neg d2, if_neg d3, if_neg (by omega)]
        rw [if_neg (by omega), hd, firstOf_bad]
    · have hd : decodeN n b0 b1 b2 b3 = (65533, 1) := by unfold decodeN; rw [if_neg a1, if_neg d2, if_neg d3, if_neg (by omega)]
      rw [if_neg (by omega), hd, firstOf_bad]
  · have hd : decodeN n b0 b1 b2 b3 = (65533, 1) := by unfold decodeN; rw [if_neg a1, if_neg d2, if_neg d3, if_neg (by omega)]
    rw [decide_eq_true (by omega), if_pos rfl, hd, firstOf_bad]

set_option maxHeartbeats 4000000 in
theorem first_N6 (k : Nat) (s : ByteArray) (pos b0 b1 b2 b3 n : Nat) (h : pos < s.size) (hs : s.size ≤ 17592186044416) (hn : n = s.size - pos) (h0 : b0 < 256) (h1 : b1 < 256) (h2 : b2 < 256) (h3 : b3 < 256)
    (e0 : bt s pos = b0) (e1 : pos + 1 < s.size → bt s (pos + 1) = b1) (e2 : pos + 2 < s.size → bt s (pos + 2) = b2) (e3 : pos + 3 < s.size → bt s (pos + 3) = b3) (hc : 248 ≤ b0) :
    refectoryref02_first.f (k + 8) s pos = some (firstOf (decodeN n b0 b1 b2 b3)) := by
  have hl := lead_eq (k + 5) (b0 : Int) (by omega) (by omega)
  have a1 : ¬ b0 < 128 := by omega
  have d2 : ¬ (b0 / 32 = 6 ∧ (1 < n ∧ b1 / 64 = 2)) := by omega
  have d3 : ¬ (b0 / 16 = 14 ∧ (1 < n ∧ b1 / 64 = 2) ∧ (2 < n ∧ b2 / 64 = 2)) := by omega
  rw [if_neg (by omega)] at hl
  rw [if_neg (by omega)] at hl
  rw [if_neg (by omega)] at hl
  rw [if_neg (by omega)] at hl
  have hd : decodeN n b0 b1 b2 b3 = (65533, 1) := by unfold decodeN; rw [if_neg a1, if_neg d2, if_neg d3, if_neg (by omega)]
  rw [if_neg (by omega)] at hl
  rw [first_unf _ _ _ _ _ _ _ (by omega) (by omega) e0 hl, hd, firstOf_bad]
  rw [if_pos rfl]
  show refectoryref02_first.j0 ((k + 7) + 1) _ _ _ _ _ _ = _
  rw [refectoryref02_first.j0, if_pos rfl]

theorem first_N (k : Nat) (s : ByteArray) (pos b0 b1 b2 b3 n : Nat) (h : pos < s.size) (hs : s.size ≤ 17592186044416) (hn : n = s.size - pos) (h0 : b0 < 256) (h1 : b1 < 256) (h2 : b2 < 256) (h3 : b3 < 256)
    (e0 : bt s pos = b0) (e1 : pos + 1 < s.size → bt s (pos + 1) = b1) (e2 : pos + 2 < s.size → bt s (pos + 2) = b2) (e3 : pos + 3 < s.size → bt s (pos + 3) = b3) :
    refectoryref02_first.f (k + 8) s pos = some (firstOf (decodeN n b0 b1 b2 b3)) := by
  by_cases a1 : b0 < 128
  · exact first_N1 k s pos b0 b1 b2 b3 n h hs hn h0 h1 h2 h3 e0 e1 e2 e3 a1
  · by_cases a2 : b0 < 192
    · exact first_N2 k s pos b0 b1 b2 b3 n h hs hn h0 h1 h2 h3 e0 e1 e2 e3 ⟨by omega, a2⟩
    · by_cases a3 : b0 < 224
      · exact first_N3 k s pos b0 b1 b2 b3 n h hs hn h0 h1 h2 h3 e0 e1 e2 e3 ⟨by omega, a3⟩
      · by_cases a4 : b0 < 240
        · exact first_N4 k s pos b0 b1 b2 b3 n h hs hn h0 h1 h2 h3 e0 e1 e2 e3 ⟨by omega, a4⟩
        · by_cases a5 : b0 < 248
          · exact first_N5 k s pos b0 b1 b2 b3 n h hs hn h0 h1 h2 h3 e0 e1 e2 e3 ⟨by omega, a5⟩
          · exact first_N6 k s pos b0 b1 b2 b3 n h hs hn h0 h1 h2 h3 e0 e1 e2 e3 (by omega)

theorem bt_drop (s : ByteArray) (pos i : Nat) (h : pos + i < s.size) : bt s ((pos + i : Nat) : Int) = (((s.data.toList.drop pos).getD i 0).toNat : Int) := by
  have e : ((pos + i : Nat) : Int).toNat = pos + i := Int.toNat_natCast _
  unfold bt
  rw [dif_pos (by rw [e]; exact h), getD_dropU]
  congr 2
  simp only [e]
  rw [List.getD_eq_getElem?_getD, List.getElem?_eq_getElem (by rw [← size_eq]; exact h)]
  rfl
theorem first_eq (k : Nat) (s : ByteArray) (pos : Nat) (h : pos < s.size) (hs : s.size ≤ 17592186044416) :
    refectoryref02_first.f (k + 8) s pos = some (firstOf (decodeL (s.data.toList.drop pos))) := by
  rw [decodeL_N]
  refine first_N k s pos _ _ _ _ _ h hs (by rw [List.length_drop, ← size_eq]) (UInt8.toNat_lt _) (UInt8.toNat_lt _) (UInt8.toNat_lt _) (UInt8.toNat_lt _) ?_ ?_ ?_ ?_
  · have := bt_drop s pos 0 (by omega); simpa using this
  · intro hp; have := bt_drop s pos 1 hp; simpa using this
  · intro hp; have := bt_drop s pos 2 hp; simpa using this
  · intro hp; have := bt_drop s pos 3 hp; simpa using this

/-- The reference's letters. -/
def lnums (l : List UInt8) : List Int := (letters l).map fun n : Nat => (n : Int)
theorem letters_l0 (s : ByteArray) (hs : s.size ≤ 17592186044415) : ∀ (d k pos : Nat) (acc : List Int) (is : Bool), s.size - pos ≤ d → pos ≤ s.size → acc.length ≤ pos → d + 9 ≤ k →
    refectoryref02_Letters.l0 k s acc is pos = some (acc ++ lnums (s.data.toList.drop pos), is && valid (s.data.toList.drop pos)) := by
  intro d
  induction d with
  | zero =>
    intro k pos acc is hd hp ha hk
    obtain ⟨k, rfl⟩ : ∃ m, k = m + 1 := ⟨k - 1, by omega⟩
    have he : s.data.toList.drop pos = [] := List.drop_eq_nil_of_le (by rw [← size_eq]; omega)
    rw [refectoryref02_Letters.l0, if_neg (by omega), he]
    simp [lnums, letters_nil, valid, validD_nil]
  | succ d ih =>
    intro k pos acc is hd hp ha hk
    obtain ⟨k, rfl⟩ : ∃ m, k = m + 1 := ⟨k - 1, by omega⟩
    by_cases hlt : pos < s.size
    · obtain ⟨k', hk'⟩ : ∃ m, k = m + 8 := ⟨k - 8, by omega⟩
      have hne : s.data.toList.drop pos ≠ [] := by
        intro h0
        have := congrArg List.length h0
        rw [List.length_drop, ← size_eq] at this
        simp at this
        omega
      have hw := decodeL_width (s.data.toList.drop pos)
      have hwl := decodeL_le (s.data.toList.drop pos) hne
      rw [List.length_drop, ← size_eq] at hwl
      rw [refectoryref02_Letters.l0, if_pos (by omega), hk', first_eq k' s pos hlt (by omega), ← hk']
      simp only [Option.bind_some]
      rcases hD : decodeL (s.data.toList.drop pos) with ⟨r, wd⟩
      rw [hD] at hw hwl
      dsimp only at hw hwl
      by_cases hb : r = 65533 ∧ wd = 1
      · obtain ⟨rfl, rfl⟩ := hb
        have hbt := bt_drop s pos 0 (by omega)
        rw [Nat.add_zero] at hbt
        have h255 := ((s.data.toList.drop pos).getD 0 0).toNat_lt
        have hv : valid (s.data.toList.drop pos) = false := by rw [valid_step _ hne, if_pos (by unfold Bad; rw [hD]; exact ⟨rfl, rfl⟩)]
        have hl : lnums (s.data.toList.drop pos) = ((1114112 + ((s.data.toList.drop pos).getD 0 0).toNat : Nat) : Int) :: lnums (s.data.toList.drop (pos + 1)) := by
          unfold lnums
          rw [letters_step _ hne, letter1_bad hD, hD, List.drop_drop, List.map_cons]
          congr 3
          rcases s.data.toList.drop pos with _ | ⟨a, t⟩ <;> rfl
        rw [show firstOf (65533, 1) = (0, 0) from rfl]
        dsimp only
        rw [if_pos rfl, if_pos (by omega), if_pos (by omega), hbt, w64 (x := (((s.data.toList.drop pos).getD 0 0).toNat : Int)) (by omega) (by omega), w64 (x := 1114112 + _) (by omega) (by omega), w64 (x := (pos : Int) + 1) (by omega) (by omega)]
        rw [show ((pos : Int) + 1) = ((pos + 1 : Nat) : Int) from rfl, ih k (pos + 1) _ false (by omega) (by omega) (by simp; omega) (by omega), hv, hl]
        simp
      · have hv : valid (s.data.toList.drop pos) = valid (s.data.toList.drop (pos + wd)) := by rw [valid_step _ hne, if_neg (by unfold Bad; rw [hD]; exact hb), hD, List.drop_drop]
        have hl : lnums (s.data.toList.drop pos) = (r : Int) :: lnums (s.data.toList.drop (pos + wd)) := by
          unfold lnums
          rw [letters_step _ hne, letter1_good hD hb, hD, List.drop_drop]
          rfl
        have hf : firstOf (r, wd) = ((r : Int), (wd : Int)) := by unfold firstOf; rw [if_neg hb]
        rw [hf]
        dsimp only
        rw [if_neg (by omega), if_pos (by omega), w64 (by omega) (by omega)]
        rw [show ((pos : Int) + (wd : Int)) = ((pos + wd : Nat) : Int) from by omega, ih k (pos + wd) _ is (by omega) (by omega) (by simp; omega) (by omega), hv, hl]
        simp
    · have he : s.data.toList.drop pos = [] := List.drop_eq_nil_of_le (by rw [← size_eq]; omega)
      rw [refectoryref02_Letters.l0, if_neg (by omega), he]
      simp [lnums, letters_nil, valid, validD_nil]
theorem Letters_eq (s : ByteArray) (hs : s.size ≤ 17592186044415) (k : Nat) (hk : s.size + 9 ≤ k) : refectoryref02_Letters.f k s = some (lnums s.data.toList, valid s.data.toList) := by
  unfold refectoryref02_Letters.f
  have := letters_l0 s hs s.size k 0 [] true (by omega) (by omega) (by simp) hk
  simpa using this
end Go.Proofs.YtfglhnnbfmpfeaaDoor.U
/- strings.Builder's copyCheck and its writers, at a builder that the call itself has made: each adds its bytes; the frame of the shelf's forms '_k'. -/
set_option linter.unusedVariables false
namespace Go.Proofs.YtfglhnnbfmpfeaaDoor.U
open Go.RowKit Go.Proofs

theorem infoByte : (Tryd.prog.info? 5).map (fun i => (i.zero, i.size, i.bytes)) = some (some (.int .u8 0), 1, 1) := by kernel_rfl
theorem sizeBuilder : (Tryd.prog.info? 49).map (fun i => i.size) = some 2 := by kernel_rfl
theorem liesBuilder : liesAt Tryd.prog Tryd.prog.depth 49 (2 / Tryd.prog.cellsOf 49) 0 49 1 = true := by kernel_rfl

set_option maxHeartbeats 1000000 in
set_option maxRecDepth 100000 in
/-- copyCheck at a builder that has been used: nothing turns. -/
theorem copyCheck_used (b : Nat) (w : World) (h0 : w.cell? ⟨b, 0, none⟩ = some (.pointer (some ⟨b, 0, none⟩))) :
    Calls Tryd.prog 38 #[.pointer (some ⟨b, 0, none⟩)] w fun e w' => e = .returned (.tuple #[]) ∧ w' = w := by
  obtain ⟨j, hj, _⟩ := Option.map_eq_some_iff.1 sizeBuilder
  go_enter Tryd.func38, Tryd.ntmps38
  go_wp2
  rw [Lib.run_neq_ptr_same w _ Tryd.underlying46 hj]
  go_wp2
  go_end0
  exact ⟨rfl, rfl⟩

set_option maxHeartbeats 1000000 in
set_option maxRecDepth 100000 in
/-- copyCheck at a fresh builder: it stores its own address. -/
theorem copyCheck_fresh (b : Nat) (w : World) (h0 : w.cell? ⟨b, 0, none⟩ = some (.pointer none)) (hsh : w.shape? b = some (49, 2)) (hfz : w.frozen? ⟨b, 0, none⟩ = false) :
    Calls Tryd.prog 38 #[.pointer (some ⟨b, 0, none⟩)] w fun e w' => e = .returned (.tuple #[]) ∧ w' = w.setCell ⟨b, 0, none⟩ (.pointer (some ⟨b, 0, none⟩)) := by
  obtain ⟨j, hj, hjs⟩ := Option.map_eq_some_iff.1 sizeBuilder
  go_enter Tryd.func38, Tryd.ntmps38
  go_wp2
  rw [Lib.run_to_unsafe w ⟨b, 0, none⟩ Tryd.underlying46 Tryd.underlying68 hj (by rw [hjs]; decide) hsh (Nat.zero_lt_succ 1)]
  simp only [Result.andThen]
  rw [Oper.upon_value]
  go_wp2
  rw [run_callFunc_extern Tryd.func44 (by kernel_rfl) (by kernel_rfl) (by kernel_rfl) (e := Extern.AbiNoEscape.same) (by kernel_rfl)]
  rw [Lib.run_noEscape]
  simp only [Result.andThen]
  rw [Oper.upon_value]
  go_wp2
  rw [Lib.run_from_unsafe w ⟨b, 0, none⟩ Tryd.underlying68 Tryd.underlying46 hj hsh liesBuilder]
  simp only [Result.andThen]
  rw [Oper.upon_value]
  go_wp2
  go_end0
  exact ⟨rfl, rfl⟩

theorem copyCheck_k (B b : Nat) (bs : List Value) (w : World) (h : Lib.IsBuilderF 49 5 B b bs w) :
    Calls Tryd.prog 38 #[.pointer (some ⟨b, 0, none⟩)] w fun e w' => e = .returned (.tuple #[]) ∧ (Lib.BuilderAtF 49 5 B b (.pointer (some ⟨b, 0, none⟩)) bs w' ∧ Below B w w' ∧ Lib.OthersKept 5 (some b) w w') := by
  rcases h with h | h
  · refine (copyCheck_fresh b w h.cell0 h.shape h.frozen0).mono ?_
    rintro e w' ⟨rfl, rfl⟩
    exact ⟨rfl, h.used _, (Below.refl B w).setCell (p := ⟨b, 0, none⟩) h.1 _, (Lib.OthersKept.refl _ _ w).setCell ⟨b, 0, none⟩ rfl _⟩
  · refine (copyCheck_used b w h.cell0).mono ?_
    rintro e w' ⟨rfl, rfl⟩
    exact ⟨rfl, h, Below.refl B _, Lib.OthersKept.refl _ _ _⟩

set_option maxHeartbeats 2000000 in
set_option maxRecDepth 100000 in
/-- WriteByte. -/
theorem WriteByte_k (B b : Nat) (bs : List Value) (c : Int) (w : World) (h : Lib.IsBuilderF 49 5 B b bs w) (hlen : bs.length + 1 ≤ 140737488355328) (hBw : B ≤ w.heap.size) :
    Calls Tryd.prog 27 #[.pointer (some ⟨b, 0, none⟩), .int .u8 c] w fun e w' => e = .returned .nilIface ∧ (Lib.BuilderAtF 49 5 B b (.pointer (some ⟨b, 0, none⟩)) (bs ++ [.int .u8 c]) w' ∧ Below B w w' ∧ Lib.OthersKept 5 (some b) w w') := by
  obtain ⟨i0, hi, hz0, hz1, hz2⟩ := info_parts infoByte
  go_enter Tryd.func27, Tryd.ntmps27
  go_wp2_with (go_at_call 38; refine (copyCheck_k B b bs _ h).mono ?_)
  rintro e w1 ⟨rfl, h1, hb1, hk1⟩
  obtain ⟨hB, v, hbk, hown, hne⟩ := h1
  have c0 : w1.cell? ⟨b, 0, none⟩ = some (.pointer (some ⟨b, 0, none⟩)) := by rw [Lib.cell_of_heap hbk]; rfl
  have c1 : w1.cell? ⟨b, 1, none⟩ = some v := by rw [Lib.cell_of_heap hbk]; rfl
  go_wp2_with (at_builtin; refine wpList_append_ownF _ rfl _ _ 47 rfl B 5 i0 (.int .u8 0) 1 1 Tryd.underlying47 hi hz0 hz1 hz2 rfl (by decide) _ _ _ rfl (hown.alloc _) ⟨w1.heap.size, 0, none⟩ 1 1 [.int .u8 c] rfl rfl ?c1 ?c2 ?c3 ?c4 ?c5 ?_)
  case c1 =>
    intro j u hj
    match j, hj with
    | 0, hj => simp at hj; subst hj; simp [Addr.add]
  case c2 => intro u hu; simp at hu; subst hu; rfl
  case c3 => unfold maxLen; omega
  case c4 => omega
  case c5 => have := hb1.size; simp; omega
  intro v' w2 hown' hgrow _
  have hlt : b < w1.heap.size := by
    rcases Nat.lt_or_ge b w1.heap.size with h' | h'
    · exact h'
    · simp [Array.getElem?_eq_none h'] at hbk
  have hb2 : w2.heap[b]? = some (.cells #[.pointer (some ⟨b, 0, none⟩), v] 49 (0, 0)) := by
    rw [hgrow.block b (by simp; omega) (fun e => hne e.symm), Lib.alloc_old w1 _ b hlt]
    exact hbk
  have d0 : w2.cell? ⟨b, 0, none⟩ = some (.pointer (some ⟨b, 0, none⟩)) := by rw [Lib.cell_of_heap hb2]; rfl
  have d1 : w2.cell? ⟨b, 1, none⟩ = some v := by rw [Lib.cell_of_heap hb2]; rfl
  have f1 : w2.frozen? ⟨b, 1, none⟩ = false := Lib.frozen_of_heap hb2 1
  obtain ⟨g, cap, rfl⟩ : ∃ g cap, v' = .slice (some ⟨g, 0, none⟩) (bs.length + 1) cap := by
    rcases hown'.2 with ⟨_, h0⟩ | ⟨g, cap, cur, fz, hv, _⟩
    · omega
    · exact ⟨g, cap, hv⟩
  go_wp2
  go_ret
  refine ⟨rfl, ?_, ?_, ((hk1.alloc _).grown hgrow (Lib.ownsRowF_kind (hown.alloc _))).setCell ⟨b, 1, none⟩ rfl _⟩
  · exact Lib.BuilderAtF.put (T := 49) (e := 5) hB hb2 (bs' := bs ++ [.int .u8 c]) (by simpa using hown') (by decide)
  · exact ((hb1.alloc (by have := hb1.size; omega) _).grown hgrow (by have := hb1.size; simp; omega) (fun k hk => (hown.lt k hk).1)).setCell (p := ⟨b, 1, none⟩) hB _
end Go.Proofs.YtfglhnnbfmpfeaaDoor.U
/- utf.Units: how many units a text has, or its error; for texts of at most 2^45 bytes, the library's two tables lying as they are laid. -/
set_option linter.unusedVariables false
namespace Go.Proofs.YtfglhnnbfmpfeaaDoor.U
open Go.RowKit Go.Proofs Go.Lib

/-- The library's two tables lie as its text lays them. -/
def Tabs (w : World) : Prop := Lib.Utf8Tabs 0 1 w
theorem Tabs.below {w w' : World} (h : Tabs w) (hb : Below w.heap.size w w') : Tabs w' := Utf8Tabs_below h hb

/-- The units of letters. -/
def unit (n : Nat) : List Nat := if n < 65536 then [n] else [55296 + (n - 65536) / 1024, 56320 + (n - 65536) % 1024]
def units (l : List UInt8) : List Nat := (letters l).flatMap unit
def errOf (l : List UInt8) : Int := if valid l = true then 0 else 5
def countOf (l : List UInt8) : Int := if valid l = true then ((units l).length : Int) else 0

theorem valid_calls (s : ByteArray) (w : World) (hs : s.size ≤ 9223372036854775807) (hT : Tabs w) :
    Calls Tryd.prog 39 #[.string s] w fun e w' => e = .returned (.bool (valid s.data.toList)) ∧ Below w.heap.size w w' :=
  Any.utf8_ValidString Tryd.laysValid s w hs hT

/-- What 'next' tells at a place: a letter and its width, by names of their own. -/
theorem next_facts (s : ByteArray) (pos : Nat) (h : pos < s.size) : ∃ r wd : Nat, Utf8.decode s pos = (r, wd) ∧ decodeL (s.data.toList.drop pos) = (r, wd) ∧ 1 ≤ wd ∧ r ≤ 1114111 ∧ s.data.toList.drop pos ≠ [] := by
  refine ⟨(Utf8.decode s pos).1, (Utf8.decode s pos).2, rfl, decodeL_drop s pos, Lib.width_pos s pos, Lib.rune_le s pos, ?_⟩
  intro h0
  have := congrArg List.length h0
  rw [List.length_drop, ← size_eq] at this
  simp at this
  omega
theorem next_run {P : Program} {s : ByteArray} {pos r wd : Nat} (hde : Utf8.decode s pos = (r, wd)) (hp : pos < s.size) (wr : World) (k : Nat) (hit : wr.heap[k]? = some (.stringIter s pos)) (ty : TypeId) :
    (Instr.next (.pointer (some ⟨k, 0, none⟩)) true ty).run P wr = .ok (.tuple #[.bool true, .int .i64 pos, .int .i32 r]) (wr.iterAt k s (pos + wd)) := by
  rw [Lib.run_next_any_at wr k s pos ty hit hp, hde]
theorem units_step {s : ByteArray} {pos r wd : Nat} (hd : decodeL (s.data.toList.drop pos) = (r, wd)) (hne : s.data.toList.drop pos ≠ []) (hv : valid (s.data.toList.drop pos) = true) :
    units (s.data.toList.drop pos) = unit r ++ units (s.data.toList.drop (pos + wd)) ∧ valid (s.data.toList.drop (pos + wd)) = true ∧
      letters (s.data.toList.drop pos) = r :: letters (s.data.toList.drop (pos + wd)) := by
  have hb : ¬ Bad (s.data.toList.drop pos) := by
    intro hb
    rw [valid_step _ hne, if_pos hb] at hv
    cases hv
  have hl : letters (s.data.toList.drop pos) = r :: letters (s.data.toList.drop (pos + wd)) := by
    rw [letters_step _ hne]
    unfold letter1
    rw [if_neg hb, hd, List.drop_drop]
  refine ⟨?_, ?_, hl⟩
  · unfold units
    rw [hl]
    rfl
  · rw [valid_step _ hne, if_neg hb, hd, List.drop_drop] at hv
    exact hv
theorem letters_len (l : List UInt8) : (letters l).length ≤ l.length := by
  revert l
  refine by_letters (by simp [letters_nil]) ?_
  intro l hne ih
  have hw := decodeL_width l
  have hl0 : 0 < l.length := List.length_pos_iff.2 hne
  rw [letters_step l hne, List.length_cons]
  rw [List.length_drop] at ih
  omega
theorem unit_len (n : Nat) : 1 ≤ (unit n).length ∧ (unit n).length ≤ 2 := by unfold unit; split <;> simp
theorem flat_len (ns : List Nat) : (ns.flatMap unit).length ≤ 2 * ns.length := by
  induction ns with
  | nil => simp
  | cons n ns ih =>
    have := unit_len n
    simp only [List.flatMap_cons, List.length_append, List.length_cons]
    omega
theorem units_len (l : List UInt8) : (units l).length ≤ 2 * l.length := by
  have h1 := flat_len (letters l)
  have h2 := letters_len l
  unfold units
  omega

set_option maxHeartbeats 4000000 in
set_option maxRecDepth 1000000 in
theorem Units_yes (s : ByteArray) (w : World) (hs : s.size ≤ 35184372088832) (hT : Tabs w) (hv : valid s.data.toList = true) :
    Calls Tryd.prog 30 #[.string s] w fun e w' => e = .returned (.tuple #[.int .i64 ((units s.data.toList).length : Nat), .int .i64 0]) ∧ Below w.heap.size w w' := by
  have cV := valid_calls s w (by omega) hT
  rw [hv] at cV
  have CV := Lib.hid cV
  clear cV
  have HV := Lib.hid hv
  clear hv hT
  obtain ⟨tot, htot⟩ : ∃ tot, (units s.data.toList).length = tot := ⟨_, rfl⟩
  rw [htot]
  have hlt := units_len s.data.toList
  rw [htot, ← size_eq] at hlt
  have HT := Lib.hid htot
  clear htot
  go_enter Tryd.func30, Tryd.ntmps30
  go_wp2_with (go_at_call 39; refine (CV.out).mono ?_; rintro e w1 ⟨rfl, hb1⟩)
  go_loopw [4] (fun n wr => ∃ pos k : Nat, n = .int .i64 k ∧ wr.heap[w1.heap.size]? = some (.stringIter s pos) ∧ Below w.heap.size w wr ∧ valid (s.data.toList.drop pos) = true ∧ k + (units (s.data.toList.drop pos)).length = tot) (fun _ wr => s.size - wr.iterPos w1.heap.size)
  case atStart =>
    refine ⟨0, 0, rfl, ?_, ?_, HV.out, by rw [List.drop_zero]; simpa using HT.out⟩
    · have := World.iter_heap w1 s 0
      simpa using this
    · exact hb1.alloc hb1.size _
  case round =>
    obtain ⟨pos, k, rfl, hit, hbw, hv, hk⟩ := hrel
    have hsz : w1.heap.size < wr.heap.size := (Array.getElem?_eq_some_iff.1 hit).1
    have hz1 := hb1.size
    by_cases hp : pos < s.size
    · obtain ⟨r, wd, hde, hdl, hwd, hd1, hne⟩ := next_facts s pos hp
      have hnx := next_run (P := Tryd.prog) hde hp wr w1.heap.size hit
      have hit2 := Lib.iterAt_heap wr w1.heap.size s pos (pos + wd) hit
      have hbw2 := Lib.below_iterAt hbw (k := w1.heap.size) (by omega) s (pos + wd)
      obtain ⟨h1, h2, _⟩ := units_step hdl hne hv
      have hk2 := hk
      rw [h1, List.length_append] at hk2
      by_cases hr : r < 65536
      · have hu : (unit r).length = 1 := by unfold unit; rw [if_pos hr]; rfl
        rw [hu] at hk2
        have HK := Lib.hid hk2
        have HIT := Lib.hid hit
        have HIT2 := Lib.hid hit2
        have H2 := Lib.hid h2
        have hkb : k < 9223372036854775800 := by omega
        have hdec : decide ((65536 : Int) ≤ (r : Int)) = false := by simp; omega
        clear hk2 hk h1 h2 hu hit hit2 hv hde hdl hne hr hd1
        go_wp2
        go_roundw
        case rel => exact ⟨pos + wd, k + 1, by go_num, HIT2.out, hbw2, H2.out, by have := HK.out; omega⟩
        case measure =>
          have e1 := HIT.out
          have e2 := HIT2.out
          simp only [World.iterPos, e1, e2]
          omega
      · have hu : (unit r).length = 2 := by unfold unit; rw [if_neg hr]; rfl
        rw [hu] at hk2
        have HK := Lib.hid hk2
        have HIT := Lib.hid hit
        have HIT2 := Lib.hid hit2
        have H2 := Lib.hid h2
        have hkb : k < 9223372036854775800 := by omega
        have hdec : decide ((65536 : Int) ≤ (r : Int)) = true := by simp; omega
        clear hk2 hk h1 h2 hu hit hit2 hv hde hdl hne hr hd1
        go_wp2
        go_roundw
        case rel => exact ⟨pos + wd, k + 2, by go_num, HIT2.out, hbw2, H2.out, by have := HK.out; omega⟩
        case measure =>
          have e1 := HIT.out
          have e2 := HIT2.out
          simp only [World.iterPos, e1, e2]
          omega
    · have hnx : ∀ ty, (Instr.next (.pointer (some ⟨w1.heap.size, 0, none⟩)) true ty).run Tryd.prog wr = _ := fun ty => Lib.run_next_end_at wr w1.heap.size s pos ty hit hp
      have he : s.data.toList.drop pos = [] := List.drop_eq_nil_of_le (by rw [← size_eq]; omega)
      rw [he] at hk
      have hk0 : k = tot := by simpa [units, letters_nil] using hk
      subst hk0
      clear hk hv he
      go_wp2
      go_ret2
      exact ⟨rfl, hbw⟩

set_option maxHeartbeats 4000000 in
set_option maxRecDepth 1000000 in
theorem Units_no (s : ByteArray) (w : World) (hs : s.size ≤ 35184372088832) (hT : Tabs w) (hv : valid s.data.toList = false) :
    Calls Tryd.prog 30 #[.string s] w fun e w' => e = .returned (.tuple #[.int .i64 0, .int .i64 5]) ∧ Below w.heap.size w w' := by
  have cV := valid_calls s w (by omega) hT
  rw [hv] at cV
  have CV := Lib.hid cV
  clear cV hv hT
  go_enter Tryd.func30, Tryd.ntmps30
  go_wp2_with (go_at_call 39; refine (CV.out).mono ?_; rintro e w1 ⟨rfl, hb1⟩)
  go_ret2
  exact ⟨rfl, hb1⟩

theorem Units_calls (s : ByteArray) (w : World) (hs : s.size ≤ 35184372088832) (hT : Tabs w) :
    Calls Tryd.prog 30 #[.string s] w fun e w' => e = .returned (.tuple #[.int .i64 (countOf s.data.toList), .int .i64 (errOf s.data.toList)]) ∧ Below w.heap.size w w' := by
  unfold countOf errOf
  cases hv : valid s.data.toList with
  | true => simp only [if_true]; exact Units_yes s w hs hT hv
  | false => simp only [Bool.false_eq_true, if_false]; exact Units_no s w hs hT hv
end Go.Proofs.YtfglhnnbfmpfeaaDoor.U
/- utf.fold and utf.Fold: a letter, a text, folded; for texts of at most 2^45 bytes. -/
set_option linter.unusedVariables false
set_option linter.unusedSimpArgs false
namespace Go.Proofs.YtfglhnnbfmpfeaaDoor.U
open Go.RowKit Go.Proofs

theorem foldR_calls (n : Nat) (w : World) (hn : n ≤ 1114600) :
    Calls Tryd.prog 28 #[.int .i32 n] w fun e w' => e = .returned (.int .i32 (foldN n : Nat)) ∧ w = w' := by
  by_cases h1 : 65 ≤ n
  · have d1 : decide ((65 : Int) ≤ (n : Int)) = true := by simp; omega
    by_cases h2 : n ≤ 90
    · have d2 : decide ((n : Int) ≤ (90 : Int)) = true := by simp; omega
      have hf : foldN n = n + 32 := by unfold foldN; rw [if_pos ⟨h1, h2⟩]
      rw [hf]
      clear hf
      go_enter Tryd.func28, Tryd.ntmps28
      go_wp2
      go_ret
      refine ⟨?_, rfl⟩
      simp
      omega
    · have d2 : decide ((n : Int) ≤ (90 : Int)) = false := by simp; omega
      have hf : foldN n = n := by unfold foldN; rw [if_neg (by omega)]
      rw [hf]
      clear hf
      go_enter Tryd.func28, Tryd.ntmps28
      go_wp2
      go_ret
      exact ⟨rfl, rfl⟩
  · have d1 : decide ((65 : Int) ≤ (n : Int)) = false := by simp; omega
    have hf : foldN n = n := by unfold foldN; rw [if_neg (by omega)]
    rw [hf]
    clear hf
    go_enter Tryd.func28, Tryd.ntmps28
    go_wp2
    go_ret
    exact ⟨rfl, rfl⟩

theorem take_fold (l : List UInt8) (k : Nat) (h : k < l.length) : (fold l).take (k + 1) = (fold l).take k ++ [foldB l[k]] := by
  rw [List.take_succ_eq_append_getElem (by rw [fold_length]; exact h)]
  simp [fold]

set_option maxHeartbeats 4000000 in
set_option maxRecDepth 1000000 in
theorem Fold_calls (s : ByteArray) (w : World) (hs : s.size ≤ 35184372088832) :
    Calls Tryd.prog 15 #[.string s] w fun e w' => e = .returned (.string ⟨(fold s.data.toList).toArray⟩) ∧ Below w.heap.size w w' := by
  go_enter Tryd.func15, Tryd.ntmps15
  go_wp2
  go_loopw [7] (fun i wr => ∃ k : Nat, k ≤ s.size ∧ i = .int .i64 k ∧ Lib.IsBuilderF 49 5 w.heap.size w.heap.size (Lib.byteCells ((fold s.data.toList).take k)) wr ∧ Below w.heap.size w wr) (fun i _ => s.size - (RowKit.intOf i).toNat)
  case atStart =>
    exact ⟨0, Nat.zero_le _, rfl, Lib.IsBuilderF.of (Lib.fresh_isBuilder 49 5 w), (Below.refl _ w).alloc (Nat.le_refl _) _⟩
  case round =>
    obtain ⟨k, hk, rfl, hI, hb⟩ := hrel
    have hz := hb.size
    by_cases hlt : k < s.size
    · have d0 : decide ((k : Int) < (s.size : Int)) = true := by simp; omega
      have hl : k < s.data.toList.length := by rw [← Lib.size_eq]; exact hlt
      have hts := take_fold s.data.toList k hl
      rw [show s.data.toList[k] = s[k] from rfl] at hts
      have hlen : (Lib.byteCells ((fold s.data.toList).take k)).length + 1 ≤ 140737488355328 := by
        rw [Lib.byteCells_length, List.length_take, fold_length]; omega
      have h256 := s[k].toNat_lt
      have HT := Lib.hid hts
      have HI := Lib.hid hI
      have HL := Lib.hid hlen
      have hf := foldB_nat s[k]
      have hf2 := (foldB s[k]).toNat_lt
      rw [hf] at hf2
      have HF := Lib.hid hf
      clear hts hI hlen hf
      go_wp2_with (go_at_call 28; with_reducible refine (foldR_calls _ _ (by omega)).mono ?_)
      rintro e w' ⟨rfl, rfl⟩
      go_wp2_with (go_at_call 27; with_reducible refine (WriteByte_k w.heap.size w.heap.size _ (foldN s[k].toNat : Nat) _ HI.out HL.out hz).mono ?_)
      rintro e W1 ⟨rfl, h1, b1, k1⟩
      have h1' : Lib.IsBuilderF 49 5 w.heap.size w.heap.size (Lib.byteCells ((fold s.data.toList).take (k + 1))) W1 := by
        rw [HT.out, Lib.byteCells_append]
        have e : Lib.byteCells [foldB s[k]] = [.int .u8 (foldN s[k].toNat : Nat)] := by
          unfold Lib.byteCells
          rw [List.map_cons, HF.out]
          rfl
        rw [e]
        exact Or.inr h1
      have H1 := Lib.hid h1'
      clear h1' h1
      go_wp2
      go_roundw
      case rel => exact ⟨k + 1, by omega, by go_num, H1.out, hb.trans b1⟩
      case measure => simp [RowKit.intOf]; omega
    · have d0 : decide ((k : Int) < (s.size : Int)) = false := by simp; omega
      have hk' : k = s.size := by omega
      subst hk'
      rw [List.take_of_length_le (by rw [fold_length, ← Lib.size_eq]; exact Nat.le_refl _)] at hI
      have HI := Lib.hid hI
      clear hI
      go_wp2_with (go_at_call 29; with_reducible refine (Tryd.Builder_String_any_k w.heap.size w.heap.size _ _ HI.out hz).mono ?_)
      rintro e W1 ⟨rfl, _, b1, _⟩
      go_wp2
      go_ret
      exact ⟨rfl, hb.trans b1⟩
end Go.Proofs.YtfglhnnbfmpfeaaDoor.U
/- utf.letters, order, Alike, Ahead: the order of folded letters; for texts of at most 2^40 bytes. -/
set_option linter.unusedVariables false
set_option linter.unusedSimpArgs false
namespace Go.Proofs.YtfglhnnbfmpfeaaDoor.U
open Go.RowKit Go.Proofs Go.Lib Go.Proofs.YtfglhnnbfmpfeaaDoorW.PrintWords

/-- The folded letters. -/
def flet (l : List UInt8) : List Nat := (letters l).map foldN
def fnums (l : List UInt8) : List Int := (flet l).map fun n : Nat => (n : Int)

/-- U+FFFD stands there, or it is told of a byte that is none. -/
theorem prefix_fffd (l : List UInt8) (wd : Nat) (hne : l ≠ []) (h : decodeL l = (65533, wd)) : Lib.hasPrefix l [239, 191, 189] = decide (wd ≠ 1) := by
  rcases shape l hne with ⟨a, t, rfl, ha, e⟩ | ⟨a, b, t, rfl, c1, c3, cv, e⟩ | ⟨a, b, c, t, rfl, c1, c3, c4, cv, cs, e⟩ | ⟨a, b, c, d, t, rfl, c1, c3, c4, c5, cv, cw, e⟩ | ⟨a, t, rfl, ha, e⟩
  · rw [h] at e
    injection e with e1 e2
    omega
  · have h1 := a.toNat_lt
    have h2 := b.toNat_lt
    rw [h] at e
    injection e with e1 e2
    omega
  · have h1 := a.toNat_lt
    have h2 := b.toNat_lt
    have h3 := c.toNat_lt
    rw [h] at e
    injection e with e1 e2
    subst e2
    have ea : a = 239 := UInt8.toNat_inj.1 (by show a.toNat = 239; omega)
    have eb : b = 191 := UInt8.toNat_inj.1 (by show b.toNat = 191; omega)
    have ec : c = 189 := UInt8.toNat_inj.1 (by show c.toNat = 189; omega)
    subst ea eb ec
    rfl
  · rw [h] at e
    injection e with e1 e2
    omega
  · rw [h] at e
    injection e with e1 e2
    subst e2
    -- were it the prefix, the letter would be three bytes wide
    have hb : Bad (a :: t) := by unfold Bad; rw [h]; exact ⟨rfl, rfl⟩
    rw [show decide ((1 : Nat) ≠ 1) = false from rfl]
    rw [Bool.eq_false_iff]
    intro hp
    have hx : ∃ t', a :: t = enc 65533 ++ t' := by
      rcases t with _ | ⟨b, _ | ⟨c, t⟩⟩
      · simp [Lib.hasPrefix] at hp
      · simp [Lib.hasPrefix] at hp
      · simp [Lib.hasPrefix] at hp
        obtain ⟨rfl, rfl, rfl⟩ := hp
        exact ⟨t, rfl⟩
    obtain ⟨t', ht⟩ := hx
    rw [ht] at hb
    exact (decode_enc 65533 (by unfold IsLetter; omega) t').2 hb

theorem infoI32 : (Tryd.prog.info? 21).map (fun i => (i.zero, i.size, i.bytes)) = some (some (.int .i32 0), 1, 4) := by kernel_rfl
theorem fnums_step {s : ByteArray} {pos r wd : Nat} (hd : decodeL (s.data.toList.drop pos) = (r, wd)) (hne : s.data.toList.drop pos ≠ []) :
    fnums (s.data.toList.drop pos) = ((foldN (letter1 (s.data.toList.drop pos)) : Nat) : Int) :: fnums (s.data.toList.drop (pos + wd)) := by
  unfold fnums flet
  rw [letters_step _ hne, hd, List.drop_drop]
  rfl
theorem fnums_len (l : List UInt8) : (fnums l).length ≤ l.length := by
  have := letters_len l
  simpa [fnums, flet] using this
/-- The loop's relation. -/
def LetAt (s : ByteArray) (w : World) (tot : List Int) (pos : Nat) (v : Value) (done : List Int) (wr : World) : Prop :=
  wr.heap[w.heap.size]? = some (.stringIter s pos) ∧ wr.ownsRow w.heap.size 21 1 v done.length (nums .i32 done) ∧ Below w.heap.size w wr ∧ done ++ fnums (s.data.toList.drop pos) = tot
theorem let_next {s : ByteArray} {w wr : World} {tot : List Int} {pos : Nat} {v : Value} {done : List Int} (h : LetAt s w tot pos v done wr) (pos' : Nat) (e : fnums (s.data.toList.drop pos) = fnums (s.data.toList.drop pos)) :
    (wr.iterAt w.heap.size s pos').heap[w.heap.size]? = some (.stringIter s pos') ∧ (wr.iterAt w.heap.size s pos').ownsRow w.heap.size 21 1 v done.length (nums .i32 done) ∧ Below w.heap.size w (wr.iterAt w.heap.size s pos') := by
  obtain ⟨hit, hown, hbw, _⟩ := h
  refine ⟨Lib.iterAt_heap wr _ s pos pos' hit, ?_, Lib.below_iterAt hbw (Nat.le_refl _) s pos'⟩
  refine own_move hown (fun k hk => Lib.iterAt_other _ _ _ _ _ ?_)
  rintro rfl
  obtain ⟨c, hc⟩ := own_typed hown _ hk
  rw [hit] at hc
  cases hc

theorem let_on {s : ByteArray} {w wr w2 : World} {pos : Nat} {v v' : Value} {done : List Int} {y : Int} {o : Obj} (h : wr.heap[w.heap.size]? = some (.stringIter s pos) ∧ wr.ownsRow w.heap.size 21 1 v done.length (nums .i32 done) ∧ Below w.heap.size w wr)
    (hown' : w2.ownsRow w.heap.size 21 1 v' (done.length + 1) (nums .i32 done ++ [.int .i32 y])) (hg : (wr.alloc o).grownBy w2 v.ownBlock) :
    w2.heap[w.heap.size]? = some (.stringIter s pos) ∧ w2.ownsRow w.heap.size 21 1 v' (done ++ [y]).length (nums .i32 (done ++ [y])) ∧ Below w.heap.size w w2 := by
  obtain ⟨h1, h2, h3⟩ := h
  have hsz : w.heap.size < wr.heap.size := (Array.getElem?_eq_some_iff.1 h1).1
  refine ⟨?_, ?_, (h3.alloc h3.size _).grown hg (by simp; omega) (fun k hk => (h2.lt k hk).1)⟩
  · rw [hg.block _ (by simp; omega) ?_, Lib.alloc_old wr _ _ hsz]
    · exact h1
    · intro e
      obtain ⟨c, hc⟩ := own_typed h2 _ e.symm
      rw [h1] at hc
      cases hc
  · rw [List.length_append, nums_append]
    exact hown'

set_option maxHeartbeats 4000000 in
set_option maxRecDepth 1000000 in
theorem letters_calls (s : ByteArray) (w : World) (hs : s.size ≤ 17592186044416) :
    Calls Tryd.prog 41 #[.string s] w fun e w' => ∃ v, e = .returned v ∧ Kd.R (Kd.int .i32) 21 w' w.heap.size (fun _ => True) v (fnums s.data.toList) ∧ Below w.heap.size w w' := by
  obtain ⟨i0, hi, hz0, hz1, hz2⟩ := info_parts infoI32
  obtain ⟨tot, htot⟩ : ∃ tot, fnums s.data.toList = tot := ⟨_, rfl⟩
  rw [htot]
  have hlt : tot.length ≤ s.size := by rw [← htot, size_eq]; exact fnums_len _
  have HT := Lib.hid htot
  clear htot
  go_enter Tryd.func41, Tryd.ntmps41
  go_wp2
  go_loopw [3] (fun v wr => ∃ pos done, LetAt s w tot pos v done wr) (fun _ wr => s.size - wr.iterPos w.heap.size)
  case atStart =>
    refine ⟨0, [], ?_, own_nil _ _ _ _, (Below.refl _ w).alloc (Nat.le_refl _) _, by rw [List.drop_zero]; simpa using HT.out⟩
    have := World.iter_heap w s 0
    simpa using this
  case round =>
    obtain ⟨pos, done, hL⟩ := hrel
    obtain ⟨hit, hown, hbw, hk⟩ := hL
    have hz := hbw.size
    have hsz : w.heap.size < wr.heap.size := (Array.getElem?_eq_some_iff.1 hit).1
    by_cases hp : pos < s.size
    · obtain ⟨r, wd, hde, hdl, hwd, hd1, hne⟩ := next_facts s pos hp
      have hnx := next_run (P := Tryd.prog) hde hp wr w.heap.size hit
      have hst := let_next ⟨hit, hown, hbw, hk⟩ (pos + wd) rfl
      have hfs := fnums_step hdl hne
      have hdn : done.length + 1 ≤ s.size := by
        have := congrArg List.length hk
        rw [hfs, List.length_append, List.length_cons] at this
        omega
      have HST := Lib.hid hst
      have HIT := Lib.hid hit
      rw [hfs] at hk
      have HK := Lib.hid hk
      have HDL := Lib.hid hdl
      clear hst hit hk hdl hfs hown hde
      have HNE := Lib.hid hne
      clear hne
      by_cases hr : r = 65533
      · subst hr
        have d0 : (((65533 : Nat) : Int) == 65533) = true := rfl
        have cP : ∀ W, Calls Tryd.prog 50 #[.string (s.extract pos s.size), .string ⟨#[239, 191, 189]⟩] W fun e w' => e = .returned (.bool (decide (wd ≠ 1))) ∧ w' = W := by
          intro W
          have := Tryd.strings_HasPrefix (s.extract pos s.size) ⟨#[239, 191, 189]⟩ W
          rw [Lib.extract_to_end] at this
          rw [← prefix_fffd _ wd HNE.out HDL.out]
          exact this
        by_cases hw : wd = 1
        · subst hw
          rw [show decide ((1 : Nat) ≠ 1) = false from rfl] at cP
          have CP := Lib.hid cP
          clear cP
          have h256 := s[pos].toNat_lt
          have hl1 : letter1 (s.data.toList.drop pos) = 1114112 + s[pos].toNat := by
            rw [letter1_bad HDL.out]
            congr 1
            rw [List.drop_eq_getElem_cons (by rw [← size_eq]; exact hp)]
            rfl
          have HK2 := HK.out
          rw [hl1] at HK2
          have HK3 := Lib.hid HK2
          clear HK2 hl1
          go_wp2_with (go_at_call 50; refine (CP.out _).mono ?_)
          rintro e w' ⟨rfl, rfl⟩
          go_wp2_with fail
          rw [show (1114112 + (s[pos].toNat : Int)) = ((1114112 + s[pos].toNat : Nat) : Int) from rfl]
          refine (foldR_calls (1114112 + s[pos].toNat) _ (by omega)).mono ?_
          rintro e w' ⟨rfl, rfl⟩
          go_wp2_with (at_builtin; refine wpList_append_own _ rfl _ _ 37 rfl w.heap.size 21 i0 (.int .i32 0) 1 4 Tryd.underlying37 hi hz0 hz1 hz2 rfl (by decide) _ _ _ rfl (HST.out.2.1.alloc _) ⟨(wr.iterAt w.heap.size s (pos + 1)).heap.size, 0, none⟩ 1 1 [.int .i32 ((foldN (1114112 + s[pos].toNat) : Nat) : Int)] rfl rfl ?c1 ?c2 ?c3 ?c4 ?c5 ?_)
          case c1 =>
            intro j u hj
            match j, hj with
            | 0, hj => simp at hj; subst hj; simp [Addr.add]
          case c2 => intro u hu; simp at hu; subst hu; rfl
          case c3 => unfold maxLen; omega
          case c4 => omega
          case c5 => simp [Lib.iterAt_size]; omega
          intro v' w2 hown' hgrow _
          have hon := let_on HST.out hown' hgrow
          have HON := Lib.hid hon
          clear hon hown' hgrow
          go_wp2
          go_roundw
          case rel => exact ⟨pos + 1, done ++ [_], HON.out.1, HON.out.2.1, HON.out.2.2, by have := HK3.out; rw [List.append_assoc]; exact this⟩
          case measure =>
            have e1 := HIT.out
            have e2 := HON.out.1
            simp only [World.iterPos, e1, e2]
            omega
        · rw [show decide (wd ≠ 1) = true by simp; omega] at cP
          have CP := Lib.hid cP
          clear cP
          have hl1 : letter1 (s.data.toList.drop pos) = 65533 := letter1_good HDL.out (fun h => hw h.2)
          have HK2 := HK.out
          rw [hl1] at HK2
          have HK3 := Lib.hid HK2
          clear HK2 hl1
          go_wp2_with (go_at_call 50; refine (CP.out _).mono ?_)
          rintro e w' ⟨rfl, rfl⟩
          go_wp2_with (go_at_call 28; refine (foldR_calls 65533 _ (by omega)).mono ?_)
          rintro e w' ⟨rfl, rfl⟩
          go_wp2_with (at_builtin; refine wpList_append_own _ rfl _ _ 37 rfl w.heap.size 21 i0 (.int .i32 0) 1 4 Tryd.underlying37 hi hz0 hz1 hz2 rfl (by decide) _ _ _ rfl (HST.out.2.1.alloc _) ⟨(wr.iterAt w.heap.size s (pos + wd)).heap.size, 0, none⟩ 1 1 [.int .i32 ((foldN 65533 : Nat) : Int)] rfl rfl ?c1 ?c2 ?c3 ?c4 ?c5 ?_)
          case c1 =>
            intro j u hj
            match j, hj with
            | 0, hj => simp at hj; subst hj; simp [Addr.add]
          case c2 => intro u hu; simp at hu; subst hu; rfl
          case c3 => unfold maxLen; omega
          case c4 => omega
          case c5 => simp [Lib.iterAt_size]; omega
          intro v' w2 hown' hgrow _
          have hon := let_on HST.out hown' hgrow
          have HON := Lib.hid hon
          clear hon hown' hgrow
          go_wp2
          go_roundw
          case rel => exact ⟨pos + wd, done ++ [_], HON.out.1, HON.out.2.1, HON.out.2.2, by have := HK3.out; rw [List.append_assoc]; exact this⟩
          case measure =>
            have e1 := HIT.out
            have e2 := HON.out.1
            simp only [World.iterPos, e1, e2]
            omega
      · have d0 : ((r : Int) == 65533) = false := by simp; omega
        have hl1 : letter1 (s.data.toList.drop pos) = r := letter1_good HDL.out (fun h => hr h.1)
        have HK2 := HK.out
        rw [hl1] at HK2
        have HK3 := Lib.hid HK2
        clear HK2 hl1
        go_wp2_with (go_at_call 28; with_reducible refine (foldR_calls r _ (by omega)).mono ?_)
        rintro e w' ⟨rfl, rfl⟩
        go_wp2_with (at_builtin; refine wpList_append_own _ rfl _ _ 37 rfl w.heap.size 21 i0 (.int .i32 0) 1 4 Tryd.underlying37 hi hz0 hz1 hz2 rfl (by decide) _ _ _ rfl (HST.out.2.1.alloc _) ⟨(wr.iterAt w.heap.size s (pos + wd)).heap.size, 0, none⟩ 1 1 [.int .i32 ((foldN r : Nat) : Int)] rfl rfl ?c1 ?c2 ?c3 ?c4 ?c5 ?_)
        case c1 =>
          intro j u hj
          match j, hj with
          | 0, hj => simp at hj; subst hj; simp [Addr.add]
        case c2 => intro u hu; simp at hu; subst hu; rfl
        case c3 => unfold maxLen; omega
        case c4 => omega
        case c5 => simp [Lib.iterAt_size]; omega
        intro v' w2 hown' hgrow _
        have hon := let_on HST.out hown' hgrow
        have HON := Lib.hid hon
        clear hon hown' hgrow
        go_wp2
        go_roundw
        case rel => exact ⟨pos + wd, done ++ [_], HON.out.1, HON.out.2.1, HON.out.2.2, by have := HK3.out; rw [List.append_assoc]; exact this⟩
        case measure =>
          have e1 := HIT.out
          have e2 := HON.out.1
          simp only [World.iterPos, e1, e2]
          omega
    · have hnx : ∀ ty, (Instr.next (.pointer (some ⟨w.heap.size, 0, none⟩)) true ty).run Tryd.prog wr = _ := fun ty => Lib.run_next_end_at wr w.heap.size s pos ty hit hp
      have he : s.data.toList.drop pos = [] := List.drop_eq_nil_of_le (by rw [← size_eq]; omega)
      have hd : done = tot := by
        have h0 : fnums (s.data.toList.drop pos) = [] := by rw [he]; rfl
        rw [h0, List.append_nil] at hk
        exact hk
      subst hd
      have hR : Kd.R (Kd.int .i32) 21 wr w.heap.size (fun _ => True) _ done := Kd.R_of_own hown (fun _ _ => trivial)
      have HR := Lib.hid hR
      clear hk he hit hown hR
      go_wp2
      go_ret
      exact ⟨_, rfl, HR.out, hbw⟩

/-- Below 0: the first is ahead; 0: alike. -/
def ordN : List Nat → List Nat → Int
  | x :: xs, y :: ys => if x = y then ordN xs ys else (x : Int) - (y : Int)
  | xs, ys => (xs.length : Int) - (ys.length : Int)
theorem ordN_end (xs ys : List Nat) (h : xs = [] ∨ ys = []) : ordN xs ys = (xs.length : Int) - (ys.length : Int) := by
  rcases h with rfl | rfl
  · unfold ordN
    rfl
  · cases xs <;> rfl

/-- A row of the call's own: its shape and its cells. -/
theorem open_row {k : IntKind} {e : Nat} {w : World} {base : Nat} {v : Value} {xs : List Int} (h : Kd.R (Kd.int k) e w base (fun _ => True) v xs) :
    ∃ A c, v = .slice A xs.length c ∧ xs.length ≤ c ∧ (0 < xs.length → ∃ g, A = some ⟨g, 0, none⟩ ∧ base ≤ g ∧ g < w.heap.size ∧ ∀ j, j < xs.length → w.cell? ⟨g, j, none⟩ = some (.int k (xs.getD j 0))) := by
  have ho := Kd.own_of_R h
  rcases Nat.eq_zero_or_pos xs.length with h0 | h0
  · obtain ⟨A, c, hv⟩ := own_slice ho
    refine ⟨A, c, hv, by omega, fun hp => absurd hp (by omega)⟩
  · obtain ⟨g, cap, rfl, hb, hl⟩ := ho.form h0
    have hcap : xs.length ≤ cap := by
      rcases ho.2 with ⟨_, h1⟩ | ⟨g', cap', cur, he, _, _, h1, _⟩
      · omega
      · injection he with _ _ he
        omega
    have hg : g < w.heap.size := own_lt ho g rfl
    refine ⟨_, cap, rfl, hcap, fun _ => ⟨g, rfl, hb, hg, fun j hj => ?_⟩⟩
    have := ho.cells (g := g) rfl j (.int k (xs.getD j 0)) (by simp [encs, List.getElem?_eq_getElem hj, List.getD_eq_getElem?_getD])
    rwa [add_plain] at this

theorem drop_cons {xs : List Nat} {k : Nat} (h : k < xs.length) : xs.drop k = xs.getD k 0 :: xs.drop (k + 1) := by
  rw [List.drop_eq_getElem_cons h, List.getD_eq_getElem?_getD, List.getElem?_eq_getElem h]
  rfl
theorem getD_nums (xs : List Nat) (k : Nat) : (xs.map fun n : Nat => (n : Int)).getD k 0 = ((xs.getD k 0 : Nat) : Int) := by
  rw [List.getD_eq_getElem?_getD, List.getD_eq_getElem?_getD, List.getElem?_map]
  cases xs[k]? <;> rfl
theorem letters_bound : ∀ l : List UInt8, ∀ n ∈ letters l, n ≤ 1114500 := by
  refine by_letters (fun n h => by simp [letters_nil] at h) ?_
  intro l hne ih m hm
  rw [letters_step l hne] at hm
  rcases List.mem_cons.1 hm with rfl | hm
  · unfold letter1
    have h1 := (l.headD 0).toNat_lt
    have h2 := decodeL_rune l
    split <;> omega
  · exact ih m hm
theorem flet_bound (l : List UInt8) : ∀ n ∈ flet l, n ≤ 1114600 := by
  unfold flet
  intro n hn
  obtain ⟨m, hm, rfl⟩ := List.mem_map.1 hn
  have := letters_bound l m hm
  unfold foldN
  split <;> omega

set_option maxHeartbeats 4000000 in
set_option maxRecDepth 1000000 in
theorem order_calls (a b : ByteArray) (w : World) (ha : a.size ≤ 17592186044416) (hb : b.size ≤ 17592186044416) :
    Calls Tryd.prog 32 #[.string a, .string b] w fun e w' => e = .returned (.int .i64 (ordN (flet a.data.toList) (flet b.data.toList))) ∧ Below w.heap.size w w' := by
  have cA := letters_calls a w ha
  have hl1 := fnums_len a.data.toList
  have hl2 := fnums_len b.data.toList
  rw [← size_eq] at hl1 hl2
  have hx := flet_bound a.data.toList
  have hy := flet_bound b.data.toList
  unfold fnums at hl1 hl2
  obtain ⟨xs, hxs⟩ : ∃ xs, flet a.data.toList = xs := ⟨_, rfl⟩
  obtain ⟨ys, hys⟩ : ∃ ys, flet b.data.toList = ys := ⟨_, rfl⟩
  have cB := fun W => letters_calls b W hb
  unfold fnums at cA cB
  rw [hxs] at cA hl1 hx
  rw [hys] at cB hl2 hy
  rw [hxs, hys]
  rw [List.length_map] at hl1 hl2
  obtain ⟨tot, htot⟩ : ∃ tot, ordN xs ys = tot := ⟨_, rfl⟩
  rw [htot]
  have CA := Lib.hid cA
  have CB := Lib.hid cB
  have HT := Lib.hid htot
  have HX := Lib.hid hx
  have HY := Lib.hid hy
  obtain ⟨m, hm⟩ : ∃ m, xs.length = m := ⟨_, rfl⟩
  obtain ⟨n, hn⟩ : ∃ n, ys.length = n := ⟨_, rfl⟩
  rw [hm] at hl1
  rw [hn] at hl2
  have HM := Lib.hid hm
  have HN := Lib.hid hn
  clear cA cB htot hx hy hxs hys hm hn
  go_enter Tryd.func32, Tryd.ntmps32
  go_wp2_with fail
  refine (CA.out).mono ?_
  rintro e w1 ⟨v1, rfl, hR1, hb1⟩
  obtain ⟨A1, c1, rfl, hc1, hA1⟩ := open_row hR1
  rw [List.length_map, HM.out] at hc1 hA1 ⊢
  have HA1 := Lib.hid hA1
  clear hA1 hR1
  go_wp2_with fail
  refine (CB.out _).mono ?_
  rintro e w2 ⟨v2, rfl, hR2, hb2⟩
  obtain ⟨A2, c2, rfl, hc2, hA2⟩ := open_row hR2
  rw [List.length_map, HN.out] at hc2 hA2 ⊢
  have HA2 := Lib.hid hA2
  clear hA2 hR2
  have hbel : Below w.heap.size w w2 := hb1.trans (hb2.mono hb1.size)
  have HB2 := Lib.hid hb2
  clear hb1 hb2
  go_wp2
  go_loopw [7] (fun i wr => ∃ k q : Nat, i = .int .i64 k ∧ k ≤ m ∧ k ≤ n ∧ ordN (xs.drop k) (ys.drop k) = tot ∧ wr = w2.drewN q) (fun i _ => m - (RowKit.intOf i).toNat)
  case atStart => exact ⟨0, 0, rfl, Nat.zero_le _, Nat.zero_le _, HT.out, rfl⟩
  case round =>
    obtain ⟨k, q, rfl, hk1, hk2, hord, rfl⟩ := hrel
    have hbq : Below w.heap.size w (w2.drewN q) := pw_below_drewN hbel q
    by_cases h1 : k < m
    · by_cases h2 : k < n
      · obtain ⟨g1, rfl, _, hg1, hcell1⟩ := HA1.out (by omega)
        obtain ⟨g2, rfl, _, hg2, hcell2⟩ := HA2.out (by omega)
        have e1 := hcell1 k h1
        have e2 := hcell2 k h2
        rw [getD_nums] at e1 e2
        have f1 : w2.cell? ⟨g1, k, none⟩ = some (.int .i32 ((xs.getD k 0 : Nat) : Int)) := (HB2.out.cell (p := ⟨g1, k, none⟩) hg1).trans e1
        have f2 : w2.cell? ⟨g2, k, none⟩ = some (.int .i32 ((ys.getD k 0 : Nat) : Int)) := e2
        rw [drop_cons (xs := xs) (by have := HM.out; omega), drop_cons (xs := ys) (by have := HN.out; omega)] at hord
        obtain ⟨x, hx⟩ : ∃ x, xs.getD k 0 = x := ⟨_, rfl⟩
        obtain ⟨y, hy⟩ : ∃ y, ys.getD k 0 = y := ⟨_, rfl⟩
        have hxb : x ≤ 1114600 := by rw [← hx]; exact HX.out _ (by rw [List.getD_eq_getElem?_getD, List.getElem?_eq_getElem (by have := HM.out; omega)]; exact List.getElem_mem _)
        have hyb : y ≤ 1114600 := by rw [← hy]; exact HY.out _ (by rw [List.getD_eq_getElem?_getD, List.getElem?_eq_getElem (by have := HN.out; omega)]; exact List.getElem_mem _)
        rw [hx] at f1 hord
        rw [hy] at f2 hord
        have HO := Lib.hid hord
        have i0 : decide (k < m) = true := by simp; omega
        have i1 : decide (k < n) = true := by simp; omega
        have z0 : (0 : Int) ≤ (k : Int) := by omega
        have z1 : (k : Int) < (m : Int) := by omega
        have z2 : (k : Int) < (n : Int) := by omega
        clear hcell1 hcell2 e1 e2 hx hy hord HA1 HA2 hg1 hg2
        by_cases hxy : x = y
        · subst hxy
          have dd : ((x : Int) != (x : Int)) = false := by simp
          have HO2 := HO.out
          rw [ordN, if_pos rfl] at HO2
          have HO3 := Lib.hid HO2
          clear HO HO2
          go_wp2_with fail
          go_quiet (fail)
          go_wp2
          go_roundw
          case rel => exact ⟨k + 1, q + nq, by go_num, h1, h2, HO3.out, rfl⟩
          case measure => simp [RowKit.intOf]; omega
        · have dd : ((x : Int) != (y : Int)) = true := by simp; omega
          have HO2 := HO.out
          rw [ordN, if_neg hxy] at HO2
          subst HO2
          clear HO HT hxy
          go_wp2_with fail
          go_quiet (fail)
          go_wp2
          go_quiet (fail)
          go_wp2
          go_ret
          exact ⟨rfl, pw_below_drewN (pw_below_drewN hbq _) _⟩
      · have i0 : decide (k < m) = true := by simp; omega
        have i1 : decide (k < n) = false := by simp; omega
        have hd : ys.drop k = [] := List.drop_eq_nil_of_le (by have := HN.out; omega)
        rw [ordN_end _ _ (.inr hd), hd, List.length_drop, HM.out, List.length_nil] at hord
        have hk : k = n := by omega
        have HO1 : tot = (m : Int) - (n : Int) := by omega
        have HO := Lib.hid HO1
        clear HO1
        clear hord hd hk HT
        go_wp2
        go_ret
        exact ⟨by rw [HO.out]; rfl, hbq⟩
    · have i0 : decide (k < m) = false := by simp; omega
      have hd : xs.drop k = [] := List.drop_eq_nil_of_le (by have := HM.out; omega)
      rw [ordN_end _ _ (.inl hd), hd, List.length_drop, HN.out, List.length_nil] at hord
      have hk : k = m := by omega
      have HO1 : tot = (m : Int) - (n : Int) := by omega
      have HO := Lib.hid HO1
      clear HO1
      clear hord hd hk HT
      go_wp2
      go_ret
      exact ⟨by rw [HO.out]; rfl, hbq⟩

def alikeB (a b : List UInt8) : Bool := decide (ordN (flet a) (flet b) = 0)
def aheadB (a b : List UInt8) : Bool := decide (ordN (flet a) (flet b) < 0)
theorem Alike_calls (a b : ByteArray) (w : World) (ha : a.size ≤ 17592186044416) (hb : b.size ≤ 17592186044416) :
    Calls Tryd.prog 17 #[.string a, .string b] w fun e w' => e = .returned (.bool (alikeB a.data.toList b.data.toList)) ∧ Below w.heap.size w w' := by
  have c := order_calls a b w ha hb
  unfold alikeB
  generalize ordN (flet a.data.toList) (flet b.data.toList) = z at *
  go_enter Tryd.func17, Tryd.ntmps17
  go_wp2_with (go_at_call 32; with_reducible refine c.mono ?_)
  rintro e w' ⟨rfl, h⟩
  go_wp2
  go_ret
  exact ⟨by simp [BEq.beq], h⟩
end Go.Proofs.YtfglhnnbfmpfeaaDoor.U
/- What a pattern fits, in plain words: 42 anything, 63 any letter; its laws. -/
namespace Go.Proofs.YtfglhnnbfmpfeaaDoor.U

/-- Some end of a list. -/
def ends (f : List Int → Bool) : List Int → Bool
  | [] => f []
  | x :: t => f (x :: t) || ends f t
def okc (c x : Int) : Bool := decide (c = 63) || decide (c = x)
def mt : List Int → List Int → Bool
  | [], t => t.isEmpty
  | c :: p, t => if c = 42 then ends (mt p) t else match t with
    | [] => false
    | x :: t => okc c x && mt p t

theorem ends_iff (f : List Int → Bool) : ∀ t : List Int, ends f t = true ↔ ∃ A B, t = A ++ B ∧ f B = true := by
  intro t
  induction t with
  | nil =>
    constructor
    · intro h; exact ⟨[], [], rfl, h⟩
    · rintro ⟨A, B, e, h⟩
      have : B = [] := (List.append_eq_nil_iff.1 e.symm).2
      subst this
      exact h
  | cons x t ih =>
    rw [ends, Bool.or_eq_true, ih]
    constructor
    · rintro (h | ⟨A, B, rfl, h⟩)
      · exact ⟨[], _, rfl, h⟩
      · exact ⟨x :: A, B, rfl, h⟩
    · rintro ⟨A, B, e, h⟩
      cases A with
      | nil => left; rw [List.nil_append] at e; rw [e]; exact h
      | cons a A =>
        injection e with e1 e2
        exact .inr ⟨A, B, e2, h⟩
theorem mt_nil (t : List Int) : mt [] t = t.isEmpty := rfl
theorem mt_nil_iff (t : List Int) : mt [] t = true ↔ t = [] := by rw [mt_nil, List.isEmpty_iff]
theorem mt_star (p t : List Int) : mt (42 :: p) t = ends (mt p) t := rfl
theorem mt_star_iff (p t : List Int) : mt (42 :: p) t = true ↔ ∃ A B, t = A ++ B ∧ mt p B = true := by rw [mt_star, ends_iff]
theorem mt_star_nil (p : List Int) : mt (42 :: p) [] = mt p [] := by rw [mt_star, ends]
theorem mt_star_cons (p : List Int) (x : Int) (t : List Int) : mt (42 :: p) (x :: t) = (mt p (x :: t) || mt (42 :: p) t) := by rw [mt_star, ends, mt_star]
theorem mt_one_nil {c : Int} (h : c ≠ 42) (p : List Int) : mt (c :: p) [] = false := by
  show (if c = 42 then ends (mt p) [] else false) = false
  rw [if_neg h]
theorem mt_one {c : Int} (h : c ≠ 42) (p : List Int) (x : Int) (t : List Int) : mt (c :: p) (x :: t) = (okc c x && mt p t) := by
  show (if c = 42 then ends (mt p) (x :: t) else (okc c x && mt p t)) = _
  rw [if_neg h]
/-- A star fits more in front. -/
theorem mt_star_more (p A t : List Int) (h : mt (42 :: p) t = true) : mt (42 :: p) (A ++ t) = true := by
  rw [mt_star_iff] at h ⊢
  obtain ⟨B, C, rfl, h⟩ := h
  exact ⟨A ++ B, C, by rw [List.append_assoc], h⟩
/-- Two patterns, one behind the other. -/
theorem mt_append : ∀ (p q t : List Int), mt (p ++ q) t = true ↔ ∃ A B, t = A ++ B ∧ mt p A = true ∧ mt q B = true := by
  intro p
  induction p with
  | nil =>
    intro q t
    constructor
    · intro h; exact ⟨[], t, rfl, rfl, h⟩
    · rintro ⟨A, B, rfl, hA, hB⟩
      rw [mt_nil_iff] at hA
      subst hA
      exact hB
  | cons c p ih =>
    intro q t
    by_cases hc : c = 42
    · subst hc
      rw [List.cons_append, mt_star_iff]
      constructor
      · rintro ⟨A, B, rfl, h⟩
        obtain ⟨C, D, rfl, h1, h2⟩ := (ih q B).1 h
        exact ⟨A ++ C, D, by rw [List.append_assoc], (mt_star_iff _ _).2 ⟨A, C, rfl, h1⟩, h2⟩
      · rintro ⟨A, B, rfl, h1, h2⟩
        obtain ⟨C, D, rfl, h3⟩ := (mt_star_iff _ _).1 h1
        exact ⟨C, D ++ B, by rw [List.append_assoc], (ih q _).2 ⟨D, B, rfl, h3, h2⟩⟩
    · rw [List.cons_append]
      cases t with
      | nil =>
        rw [mt_one_nil hc]
        constructor
        · intro h; cases h
        · rintro ⟨A, B, e, h1, h2⟩
          have : A = [] := (List.append_eq_nil_iff.1 e.symm).1
          subst this
          rw [mt_one_nil hc] at h1
          exact h1
      | cons x t =>
        rw [mt_one hc, Bool.and_eq_true, ih]
        constructor
        · rintro ⟨hx, A, B, rfl, h1, h2⟩
          exact ⟨x :: A, B, rfl, by rw [mt_one hc, hx, h1]; rfl, h2⟩
        · rintro ⟨A, B, e, h1, h2⟩
          cases A with
          | nil => rw [mt_one_nil hc] at h1; cases h1
          | cons a A =>
            injection e with e1 e2
            subst e1
            rw [mt_one hc, Bool.and_eq_true] at h1
            exact ⟨h1.1, A, B, e2, h1.2, h2⟩
theorem mt_all (t : List Int) : mt [42] t = true := (mt_star_iff _ _).2 ⟨t, [], by simp, rfl⟩
/-- One behind: a star. -/
theorem mt_snoc_star (p t : List Int) : mt (p ++ [42]) t = true ↔ ∃ A B, t = A ++ B ∧ mt p A = true := by
  rw [mt_append]
  constructor
  · rintro ⟨A, B, e, h, _⟩; exact ⟨A, B, e, h⟩
  · rintro ⟨A, B, e, h⟩; exact ⟨A, B, e, h, mt_all B⟩
theorem mt_snoc_star_nil (p : List Int) : mt (p ++ [42]) [] = mt p [] := by
  rw [Bool.eq_iff_iff, mt_snoc_star]
  constructor
  · rintro ⟨A, B, e, h⟩
    have : A = [] := (List.append_eq_nil_iff.1 e.symm).1
    subst this
    exact h
  · intro h; exact ⟨[], [], rfl, h⟩
theorem mt_snoc_star_snoc (p t : List Int) (x : Int) : mt (p ++ [42]) (t ++ [x]) = (mt (p ++ [42]) t || mt p (t ++ [x])) := by
  rw [Bool.eq_iff_iff, Bool.or_eq_true, mt_snoc_star, mt_snoc_star]
  constructor
  · rintro ⟨A, B, e, h⟩
    rcases List.eq_nil_or_concat B with rfl | ⟨B', y, rfl⟩
    · right; rw [List.append_nil] at e; rw [e]; exact h
    · left
      rw [List.concat_eq_append, ← List.append_assoc] at e
      exact ⟨A, B', (List.append_inj' e rfl).1, h⟩
  · rintro (⟨A, B, rfl, h⟩ | h)
    · exact ⟨A, B ++ [x], by rw [List.append_assoc], h⟩
    · exact ⟨t ++ [x], [], by simp, h⟩
/-- One behind: none. -/
theorem mt_snoc_one_nil {c : Int} (hc : c ≠ 42) (p : List Int) : mt (p ++ [c]) [] = false := by
  cases h : mt (p ++ [c]) [] with
  | false => rfl
  | true =>
    obtain ⟨A, B, e, _, h2⟩ := (mt_append p [c] []).1 h
    have : B = [] := (List.append_eq_nil_iff.1 e.symm).2
    subst this
    rw [mt_one_nil hc] at h2
    cases h2
theorem mt_snoc_one {c : Int} (hc : c ≠ 42) (p t : List Int) (x : Int) : mt (p ++ [c]) (t ++ [x]) = (okc c x && mt p t) := by
  rw [Bool.eq_iff_iff, mt_append, Bool.and_eq_true]
  constructor
  · rintro ⟨A, B, e, h1, h2⟩
    cases B with
    | nil => rw [mt_one_nil hc] at h2; cases h2
    | cons b B =>
      rw [mt_one hc, Bool.and_eq_true, mt_nil_iff] at h2
      obtain ⟨h3, rfl⟩ := h2
      obtain ⟨e1, e2⟩ := List.append_inj' e rfl
      injection e2 with e2
      subst e1 e2
      exact ⟨h3, h1⟩
  · rintro ⟨h1, h2⟩
    exact ⟨t, [x], rfl, h2, by rw [mt_one hc, h1]; rfl⟩
/-- Letters that are none of the two. -/
theorem mt_plain : ∀ (p t : List Int), (∀ c ∈ p, c ≠ 42 ∧ c ≠ 63) → mt p t = decide (p = t) := by
  intro p
  induction p with
  | nil => intro t _; cases t <;> rfl
  | cons c p ih =>
    intro t h
    have hc := h c List.mem_cons_self
    cases t with
    | nil => rw [mt_one_nil hc.1]; simp
    | cons x t =>
      rw [mt_one hc.1, ih t fun y hy => h y (List.mem_cons_of_mem _ hy)]
      unfold okc
      rw [decide_eq_false hc.2, Bool.false_or]
      by_cases h1 : c = x <;> by_cases h2 : p = t <;> simp [h1, h2]
theorem mt_marks : ∀ (k : Nat) (t : List Int), mt (List.replicate k 63) t = decide (t.length = k) := by
  intro k
  induction k with
  | zero => intro t; rw [List.replicate_zero, mt_nil]; cases t <;> simp
  | succ k ih =>
    intro t
    rw [List.replicate_succ]
    cases t with
    | nil => rw [mt_one_nil (by decide)]; simp
    | cons x t =>
      rw [mt_one (by decide), ih]
      unfold okc
      simp
theorem mt_marks_star (k : Nat) (t : List Int) : mt (List.replicate k 63 ++ [42]) t = decide (k ≤ t.length) := by
  rw [Bool.eq_iff_iff, mt_snoc_star, decide_eq_true_eq]
  constructor
  · rintro ⟨A, B, rfl, h⟩
    rw [mt_marks, decide_eq_true_eq] at h
    simp
    omega
  · intro h
    exact ⟨t.take k, t.drop k, (List.take_append_drop k t).symm, by rw [mt_marks, decide_eq_true_eq, List.length_take]; omega⟩
theorem mt_star_marks (k : Nat) (t : List Int) : mt (42 :: List.replicate k 63) t = decide (k ≤ t.length) := by
  rw [Bool.eq_iff_iff, mt_star_iff, decide_eq_true_eq]
  constructor
  · rintro ⟨A, B, rfl, h⟩
    rw [mt_marks, decide_eq_true_eq] at h
    simp
    omega
  · intro h
    exact ⟨t.take (t.length - k), t.drop (t.length - k), (List.take_append_drop _ t).symm, by rw [mt_marks, decide_eq_true_eq, List.length_drop]; omega⟩

/-! ### Going over a text from a star on -/
/-- Letters p[a..i) without a star take just so many. -/
theorem seg_step {p : List Int} {i : Nat} (h : i < p.length) : p.drop i = p.getD i 0 :: p.drop (i + 1) := by
  rw [List.getD_eq_getElem?_getD, List.getElem?_eq_getElem h, Option.getD_some]
  exact List.drop_eq_getElem_cons h
end Go.Proofs.YtfglhnnbfmpfeaaDoor.U
/- glob.asked: the letters of a pattern and of a text, folded, or an error. -/
set_option linter.unusedVariables false
set_option linter.unusedSimpArgs false
namespace Go.Proofs.YtfglhnnbfmpfeaaDoor.U
open Go.RowKit Go.Proofs Go.Lib Go.Proofs.YtfglhnnbfmpfeaaDoorW.PrintWords

/-- '[]rune(s)' of a text: its letters. -/
theorem runes_from (s : ByteArray) : ∀ (n i : Nat) (acc : Array Value), s.size - i ≤ n → valid (s.data.toList.drop i) = true →
    Conv.runesFrom s n i acc = acc ++ (nums .i32 ((letters (s.data.toList.drop i)).map fun m : Nat => (m : Int))).toArray := by
  intro n
  induction n with
  | zero =>
    intro i acc hn hv
    rw [List.drop_eq_nil_of_le (by rw [← size_eq]; omega), letters_nil]
    simp [Conv.runesFrom, nums]
  | succ n ih =>
    intro i acc hn hv
    unfold Conv.runesFrom
    by_cases h : i < s.size
    · rw [if_pos h]
      obtain ⟨r, wd, h1, h2, h3, h4, h5⟩ := next_facts s i h
      obtain ⟨_, hv', hl⟩ := units_step h2 h5 hv
      rw [h1]
      simp only
      rw [ih (i + wd) _ (by omega) hv', hl]
      simp [nums]
    · rw [if_neg h, List.drop_eq_nil_of_le (by rw [← size_eq]; omega), letters_nil]
      simp [nums]
/-- The letters of a text, folded, as '[]rune(Fold(s))' lays them. -/
theorem runes_fold (s : ByteArray) (hv : valid s.data.toList = true) : Conv.runesFrom ⟨(fold s.data.toList).toArray⟩ (⟨(fold s.data.toList).toArray⟩ : ByteArray).size 0 #[] = (nums .i32 (fnums s.data.toList)).toArray := by
  rw [runes_from _ _ 0 #[] (by omega) (by rw [List.drop_zero]; exact (valid_fold _).trans hv)]
  rw [List.drop_zero]
  show #[] ++ (nums .i32 ((letters (fold s.data.toList)).map fun m : Nat => (m : Int))).toArray = _
  rw [letters_fold]
  unfold fnums flet
  simp
theorem convert_runes (s : ByteArray) (hv : valid s.data.toList = true) (hs : s.size ≤ 17592186044416) (W : World) :
    ∃ cap, (convert 9 37 (.string ⟨(fold s.data.toList).toArray⟩)).run Tryd.prog W = .ok (.slice (some ⟨W.heap.size, 0, none⟩) (fnums s.data.toList).length cap)
      (W.drew.alloc (.cells ((nums .i32 (fnums s.data.toList)).toArray ++ Array.replicate (cap - (fnums s.data.toList).length) (.int .i32 0)) 21)) ∧ (fnums s.data.toList).length ≤ cap ∧ cap ≤ maxLen := by
  have hr := runes_fold s hv
  have hl : (nums .i32 (fnums s.data.toList)).toArray.size = (fnums s.data.toList).length := by simp [nums]
  have hb : (fnums s.data.toList).length ≤ 17592186044416 := by have := fnums_len s.data.toList; rw [← size_eq] at this; omega
  have h := run_runes_of_string (P := Tryd.prog) W 9 37 21 ⟨(fold s.data.toList).toArray⟩ Tryd.underlying9 Tryd.underlying37 Tryd.underlying21 (by rw [hr, hl]; omega)
  rw [hr, hl] at h
  exact ⟨_, h, grownCap_ge _ _ _ _, grownCap_le_maxLen _ _ _ _ (by unfold maxLen; omega)⟩
theorem row_of_runes (xs : List Int) (W : World) (cap : Nat) (h1 : xs.length ≤ cap) (h2 : cap ≤ maxLen) :
    Kd.R (Kd.int .i32) 21 (W.alloc (.cells ((nums .i32 xs).toArray ++ Array.replicate (cap - xs.length) (.int .i32 0)) 21)) W.heap.size (fun _ => True) (.slice (some ⟨W.heap.size, 0, none⟩) xs.length cap) xs := by
  refine Kd.R_of_own ⟨by simp [encs], .inr ⟨W.heap.size, cap, _, rfl, Nat.le_refl _, heap_alloc_new W _, h1, h2, ?_, ?_⟩⟩ (fun _ _ => trivial)
  · simp [nums]; omega
  · simp only [Nat.mul_one, Array.toList_append, List.toList_toArray]
    rw [List.take_append_of_le_length (by simp [nums]), List.take_of_length_le (by simp [nums])]
    rfl

def askE (a b : List UInt8) : Int := if valid a = true ∧ valid b = true then (if 64 < (fnums a).length ∨ 256 < (fnums b).length then 3 else 0) else 5
def AskDone (a b : ByteArray) (w : World) (e : Ending) (w' : World) : Prop :=
  ∃ vP vT, e = .returned (.tuple #[vP, vT, .int .i64 (askE a.data.toList b.data.toList)]) ∧ Below w.heap.size w w' ∧ ((∃ A n c, vP = .slice A n c) ∧ ∃ A n c, vT = .slice A n c) ∧
    (askE a.data.toList b.data.toList = 0 → Kd.R (Kd.int .i32) 21 w' w.heap.size (fun _ => True) vP (fnums a.data.toList) ∧ Kd.R (Kd.int .i32) 21 w' w.heap.size (fun _ => True) vT (fnums b.data.toList))
theorem R_below {e : Nat} {w1 w2 : World} {base : Nat} {v : Value} {xs : List Int} (h : Kd.R (Kd.int .i32) e w1 base (fun _ => True) v xs) (hb : Below w1.heap.size w1 w2) : Kd.R (Kd.int .i32) e w2 base (fun _ => True) v xs := by
  have ho := Kd.own_of_R h
  refine Kd.R_of_own (own_move ho fun k hk => ?_) (fun _ _ => trivial)
  exact hb.block k (ho.lt k hk).2

theorem two_at (a b : ByteArray) : (∀ W : World, (Instr.index 61 (.agg #[.string a, .string b]) (.int .i64 0)).run Tryd.prog W = .ok (.string a) W) ∧ (∀ W : World, (Instr.index 61 (.agg #[.string a, .string b]) (.int .i64 1)).run Tryd.prog W = .ok (.string b) W) := by
  have h : Tryd.prog.underlying 61 = some (.array 2 9) := by kernel_rfl
  constructor <;> intro W <;> simp [Instr.index, run_underlying h, asIntOf, go_sem]

set_option maxHeartbeats 8000000 in
set_option maxRecDepth 1000000 in
theorem asked_calls (a b : ByteArray) (w : World) (ha : a.size ≤ 17592186044416) (hb : b.size ≤ 17592186044416) (hT : Tabs w) :
    Calls Tryd.prog 22 #[.string a, .string b] w (AskDone a b w) := by
  have c1 := fun W (h : Tabs W) => Units_calls a W (by omega) h
  have c2 := fun W (h : Tabs W) => Units_calls b W (by omega) h
  have c3 := fun W => Fold_calls a W (by omega)
  have c4 := fun W => Fold_calls b W (by omega)
  have c5 : valid a.data.toList = true → ∀ W, _ := fun h W => convert_runes a h ha W
  have c6 : valid b.data.toList = true → ∀ W, _ := fun h W => convert_runes b h hb W
  have hl1 : (fnums a.data.toList).length ≤ 17592186044416 := by have := fnums_len a.data.toList; rw [← size_eq] at this; omega
  have hl2 : (fnums b.data.toList).length ≤ 17592186044416 := by have := fnums_len b.data.toList; rw [← size_eq] at this; omega
  have hE : askE a.data.toList b.data.toList = if valid a.data.toList = true ∧ valid b.data.toList = true then (if 64 < (fnums a.data.toList).length ∨ 256 < (fnums b.data.toList).length then 3 else 0) else 5 := rfl
  unfold AskDone
  generalize askE a.data.toList b.data.toList = E at *
  unfold errOf at c1 c2
  generalize countOf a.data.toList = n1 at *
  generalize countOf b.data.toList = n2 at *
  generalize fnums a.data.toList = P at *
  generalize fnums b.data.toList = T at *
  generalize (⟨(fold a.data.toList).toArray⟩ : ByteArray) = fa at *
  generalize (⟨(fold b.data.toList).toArray⟩ : ByteArray) = fb at *
  obtain ⟨va, hva⟩ : ∃ v, valid a.data.toList = v := ⟨_, rfl⟩
  obtain ⟨vb, hvb⟩ : ∃ v, valid b.data.toList = v := ⟨_, rfl⟩
  rw [hva] at c1 c5 hE
  rw [hvb] at c2 c6 hE
  clear hva hvb
  have HT := Lib.hid hT
  have C1 := Lib.hid c1
  have C2 := Lib.hid c2
  have C3 := Lib.hid c3
  have C4 := Lib.hid c4
  have C5 := Lib.hid c5
  have C6 := Lib.hid c6
  have HE := Lib.hid hE
  obtain ⟨x0, x1⟩ := two_at a b
  clear c1 c2 c3 c4 c5 c6 hT hE ha hb
  go_enter Tryd.func22, Tryd.ntmps22
  go_wp2
  go_loopw [14] (fun i wr => Below w.heap.size w wr ∧ (i = .int .i64 0 ∨ (i = .int .i64 1 ∧ va = true) ∨ (i = .int .i64 2 ∧ va = true ∧ vb = true))) (fun i _ => 2 - (RowKit.intOf i).toNat)
  case atStart => exact ⟨Below.refl _ _, .inl rfl⟩
  case round =>
    obtain ⟨hbw, hrel⟩ := hrel
    have B0 := Lib.hid hbw
    clear hbw
    rcases hrel with rfl | ⟨rfl, rfl⟩ | ⟨rfl, rfl, rfl⟩
    · go_wp2_with fail
      refine (C1.out _ (HT.out.below B0.out)).mono ?_
      rintro e w1 ⟨rfl, hb1⟩
      have B1 := Lib.hid (B0.out.trans (hb1.mono B0.out.size))
      clear hb1
      cases va with
      | false =>
        simp only [Bool.false_eq_true, if_false]
        go_wp2
        go_ret3
        exact ⟨.slice none 0 0, .slice none 0 0, by rw [HE.out]; simp, B1.out, ⟨⟨_, _, _, rfl⟩, _, _, _, rfl⟩, fun h => by rw [HE.out] at h; simp at h⟩
      | true =>
        simp only [if_true]
        go_wp2
        go_roundw
        case rel => exact ⟨B1.out, .inr (.inl ⟨rfl, by trivial⟩)⟩
        case measure => simp [RowKit.intOf]
    · go_wp2_with fail
      refine (C2.out _ (HT.out.below B0.out)).mono ?_
      rintro e w1 ⟨rfl, hb1⟩
      have B1 := Lib.hid (B0.out.trans (hb1.mono B0.out.size))
      clear hb1
      cases vb with
      | false =>
        simp only [Bool.false_eq_true, if_false]
        go_wp2
        go_ret3
        exact ⟨.slice none 0 0, .slice none 0 0, by rw [HE.out]; simp, B1.out, ⟨⟨_, _, _, rfl⟩, _, _, _, rfl⟩, fun h => by rw [HE.out] at h; simp at h⟩
      | true =>
        simp only [if_true]
        go_wp2
        go_roundw
        case rel => exact ⟨B1.out, .inr (.inr ⟨rfl, by trivial, by trivial⟩)⟩
        case measure => simp [RowKit.intOf]
    · go_wp2_with fail
      refine (C3.out _).mono ?_
      rintro e w1 ⟨rfl, hb1⟩
      have B1 := Lib.hid (B0.out.trans (hb1.mono B0.out.size))
      clear hb1
      obtain ⟨cap1, cv1, k1, k2⟩ := C5.out (by trivial) w1
      have R1 := Lib.hid (row_of_runes P w1.drew cap1 k1 k2)
      have A1 := Lib.hid (B1.out.trans ((below_drew1 (Below.refl w1.heap.size w1)).alloc (Nat.le_refl _) (.cells ((nums .i32 P).toArray ++ Array.replicate (cap1 - P.length) (.int .i32 0)) 21) |>.mono B1.out.size))
      have S1 := Lib.hid B1.out.size
      clear k1 k2 B1
      go_wp2_with fail
      clear cv1
      refine (C4.out _).mono ?_
      rintro e w2 ⟨rfl, hb2⟩
      have B2 := Lib.hid (A1.out.trans (hb2.mono A1.out.size))
      have R2 := Lib.hid (Kd.R_lower (R_below R1.out hb2) S1.out)
      clear hb2 A1 R1 S1
      obtain ⟨cap2, cv2, k1, k2⟩ := C6.out (by trivial) w2
      have R3 := Lib.hid (Kd.R_lower (row_of_runes T w2.drew cap2 k1 k2) B2.out.size)
      have hbz := (below_drew1 (Below.refl w2.heap.size w2)).alloc (Nat.le_refl _) (.cells ((nums .i32 T).toArray ++ Array.replicate (cap2 - T.length) (.int .i32 0)) 21)
      have R4 := Lib.hid (R_below R2.out hbz)
      have B3 := Lib.hid (B2.out.trans (hbz.mono B2.out.size))
      have hE := HE.out
      simp only [and_self, if_true] at hE
      clear k1 k2 hbz B2 R2 HE
      by_cases l1 : 64 < P.length
      · rw [if_pos (.inl l1)] at hE
        have d1 : decide ((64 : Int) < (P.length : Int)) = true := by simp; omega
        go_wp2
        go_ret3
        exact ⟨.slice none 0 0, .slice none 0 0, by rw [hE]; rfl, B3.out, ⟨⟨_, _, _, rfl⟩, _, _, _, rfl⟩, fun h => by rw [hE] at h; cases h⟩
      · have d1 : decide ((64 : Int) < (P.length : Int)) = false := by simp; omega
        by_cases l2 : 256 < T.length
        · rw [if_pos (.inr l2)] at hE
          have d2 : decide ((256 : Int) < (T.length : Int)) = true := by simp; omega
          go_wp2
          go_ret3
          exact ⟨.slice none 0 0, .slice none 0 0, by rw [hE]; rfl, B3.out, ⟨⟨_, _, _, rfl⟩, _, _, _, rfl⟩, fun h => by rw [hE] at h; cases h⟩
        · rw [if_neg (by omega)] at hE
          have d2 : decide ((256 : Int) < (T.length : Int)) = false := by simp; omega
          go_wp2
          go_ret3
          exact ⟨_, _, by rw [hE]; rfl, B3.out, ⟨⟨_, _, _, rfl⟩, _, _, _, rfl⟩, fun _ => ⟨R4.out, R3.out⟩⟩
end Go.Proofs.YtfglhnnbfmpfeaaDoor.U
/- Going over a text once, back to the last star at what does not fit: its steps, in plain words. -/
set_option linter.unusedVariables false
namespace Go.Proofs.YtfglhnnbfmpfeaaDoor.U

def Gi (p t : List Int) (i at' : Nat) (star : Option Nat) (mark : Nat) : Prop :=
  i ≤ p.length ∧ at' ≤ t.length ∧ match star with
  | none => mt p t = mt (p.drop i) (t.drop at')
  | some s => s < i ∧ mark ≤ at' ∧ at' - mark = i - (s + 1) ∧ mt p t = mt (42 :: p.drop (s + 1)) (t.drop mark) ∧
      (∀ T : List Int, mt (p.drop (s + 1)) T = true → at' - mark ≤ T.length ∧ mt (p.drop i) (T.drop (at' - mark)) = true) ∧
      (mt (p.drop i) (t.drop at') = true → mt (p.drop (s + 1)) (t.drop mark) = true)

theorem G0 (p t : List Int) : Gi p t 0 0 none 0 := ⟨Nat.zero_le _, Nat.zero_le _, rfl⟩
/-- One letter. -/
theorem G1 {p t : List Int} {i at' mark : Nat} {st : Option Nat} (h : Gi p t i at' st mark) (hi : i < p.length) (ha : at' < t.length) (h42 : p.getD i 0 ≠ 42) (hok : okc (p.getD i 0) (t.getD at' 0) = true) :
    Gi p t (i + 1) (at' + 1) st mark := by
  obtain ⟨_, _, h⟩ := h
  have e1 := seg_step hi
  have e2 := seg_step ha
  refine ⟨hi, ha, ?_⟩
  cases st with
  | none =>
    simp only at h ⊢
    rw [h, e1, e2, mt_one h42, hok, Bool.true_and]
  | some s =>
    simp only at h ⊢
    obtain ⟨h1, h2, h3, h4, h5, h6⟩ := h
    refine ⟨by omega, by omega, by omega, h4, fun T hT => ?_, fun hm => h6 ?_⟩
    · obtain ⟨k1, k2⟩ := h5 T hT
      rw [e1] at k2
      have hl : at' - mark < T.length := by
        rcases Nat.lt_or_ge (at' - mark) T.length with h | h
        · exact h
        · rw [List.drop_eq_nil_of_le h, mt_one_nil h42] at k2
          cases k2
      rw [seg_step hl, mt_one h42, Bool.and_eq_true] at k2
      refine ⟨by omega, ?_⟩
      rw [show at' + 1 - mark = at' - mark + 1 by omega]
      exact k2.2
    · rw [e1, e2, mt_one h42, hok, hm]
      rfl
/-- A star. -/
theorem G2 {p t : List Int} {i at' mark : Nat} {st : Option Nat} (h : Gi p t i at' st mark) (hi : i < p.length) (h42 : p.getD i 0 = 42) :
    Gi p t (i + 1) at' (some i) at' := by
  obtain ⟨_, ha, h⟩ := h
  have e1 := seg_step hi
  rw [h42] at e1
  refine ⟨hi, ha, ?_⟩
  simp only
  refine ⟨by omega, Nat.le_refl _, by omega, ?_, fun T hT => ⟨by omega, by rw [Nat.sub_self, List.drop_zero]; exact hT⟩, fun h => h⟩
  cases st with
  | none =>
    simp only at h
    rw [h, e1]
  | some s =>
    simp only at h
    obtain ⟨h1, h2, h3, h4, h5, h6⟩ := h
    rw [h4, Bool.eq_iff_iff]
    constructor
    · intro h
      obtain ⟨A, B, e, hB⟩ := (mt_star_iff _ _).1 h
      obtain ⟨k1, k2⟩ := h5 B hB
      rw [e1] at k2
      have e3 : t.drop at' = (A ++ B).drop (at' - mark) := by rw [← e, List.drop_drop]; congr 1; omega
      rw [e3]
      have e4 : (A ++ B).drop (at' - mark) = ((A ++ B).drop (at' - mark)).take A.length ++ B.drop (at' - mark) := by
        have e5 : ((A ++ B).drop (at' - mark)).drop A.length = B.drop (at' - mark) := by
          rw [List.drop_drop, Nat.add_comm, ← List.drop_drop, List.drop_left]
        rw [← e5, List.take_append_drop]
      rw [e4]
      exact mt_star_more _ _ _ k2
    · intro h
      rw [← e1] at h
      exact (mt_star_iff _ _).2 ⟨[], _, rfl, h6 h⟩
theorem no_fit {p t : List Int} {i at' : Nat} (hi : i ≤ p.length) (ha : at' < t.length) (hno : i < p.length → p.getD i 0 ≠ 42 ∧ okc (p.getD i 0) (t.getD at' 0) = false) : mt (p.drop i) (t.drop at') = false := by
  rw [seg_step ha]
  rcases Nat.lt_or_ge i p.length with h | h
  · rw [seg_step h, mt_one (hno h).1, (hno h).2]
    rfl
  · rw [List.drop_eq_nil_of_le h]
    rfl
/-- Nothing fits: from the star on, a letter more. -/
theorem G3 {p t : List Int} {i at' mark s : Nat} (h : Gi p t i at' (some s) mark) (ha : at' < t.length) (hno : i < p.length → p.getD i 0 ≠ 42 ∧ okc (p.getD i 0) (t.getD at' 0) = false) :
    Gi p t (s + 1) (mark + 1) (some s) (mark + 1) := by
  obtain ⟨hi, _, h⟩ := h
  simp only at h
  obtain ⟨h1, h2, h3, h4, h5, h6⟩ := h
  refine ⟨by omega, by omega, ?_⟩
  simp only
  refine ⟨by omega, Nat.le_refl _, by omega, ?_, fun T hT => ⟨by omega, by rw [Nat.sub_self, List.drop_zero]; exact hT⟩, fun h => h⟩
  have hf := no_fit hi ha hno
  have hf2 : mt (p.drop (s + 1)) (t.drop mark) = false := by
    cases hc : mt (p.drop (s + 1)) (t.drop mark) with
    | false => rfl
    | true =>
      have := (h5 _ hc).2
      rw [List.drop_drop, show mark + (at' - mark) = at' by omega, hf] at this
      cases this
  rw [h4]
  have e := seg_step (p := t) (i := mark) (by omega)
  rw [e] at hf2 ⊢
  rw [mt_star_cons, hf2, Bool.false_or]
theorem G4 {p t : List Int} {i at' mark : Nat} (h : Gi p t i at' none mark) (ha : at' < t.length) (hno : i < p.length → p.getD i 0 ≠ 42 ∧ okc (p.getD i 0) (t.getD at' 0) = false) : mt p t = false := by
  obtain ⟨hi, _, h⟩ := h
  simp only at h
  rw [h]
  exact no_fit hi ha hno
/-- The end. -/
theorem G5 {p t : List Int} {i at' mark : Nat} {st : Option Nat} (h : Gi p t i at' st mark) (ha : t.length ≤ at') : mt p t = mt (p.drop i) [] := by
  obtain ⟨hi, ha', h⟩ := h
  have hd : t.drop at' = [] := List.drop_eq_nil_of_le ha
  cases st with
  | none =>
    simp only at h
    rw [h, hd]
  | some s =>
    simp only at h
    obtain ⟨h1, h2, h3, h4, h5, h6⟩ := h
    rw [hd] at h6
    rw [h4, Bool.eq_iff_iff]
    constructor
    · intro h
      obtain ⟨A, B, e, hB⟩ := (mt_star_iff _ _).1 h
      obtain ⟨k1, k2⟩ := h5 B hB
      have : (t.drop mark).length = A.length + B.length := by rw [e, List.length_append]
      rw [List.length_drop] at this
      have e9 : B.drop (at' - mark) = [] := List.drop_eq_nil_of_le (by omega)
      rw [e9] at k2
      exact k2
    · intro h
      exact (mt_star_iff _ _).2 ⟨[], _, rfl, h6 h⟩
theorem G6 {p : List Int} {i : Nat} (hi : i < p.length) (h : p.getD i 0 = 42) : mt (p.drop i) [] = mt (p.drop (i + 1)) [] := by
  rw [seg_step hi, h, mt_star_nil]
theorem G7 {p : List Int} {i : Nat} (hi : i ≤ p.length) (h : i < p.length → p.getD i 0 ≠ 42) : mt (p.drop i) [] = decide (i = p.length) := by
  rcases Nat.lt_or_ge i p.length with hl | hl
  · rw [seg_step hl, mt_one_nil (h hl), decide_eq_false (by omega)]
  · rw [List.drop_eq_nil_of_le hl, decide_eq_true (by omega)]
    rfl
end Go.Proofs.YtfglhnnbfmpfeaaDoor.U
/- glob.Fits: a pattern is held against a text. -/
set_option linter.unusedVariables false
set_option linter.unusedSimpArgs false
namespace Go.Proofs.YtfglhnnbfmpfeaaDoor.U
open Go.RowKit Go.Proofs Go.Lib Go.Proofs.YtfglhnnbfmpfeaaDoorW.PrintWords

/-- A row of letters that is read, in a block below N. -/
def Row32 (w : World) (N : Nat) (v : Value) (xs : List Int) : Prop :=
  ∃ A c, v = .slice A xs.length c ∧ xs.length ≤ c ∧ (0 < xs.length → ∃ g, A = some ⟨g, 0, none⟩ ∧ g < N ∧ ∀ j, j < xs.length → w.cell? ⟨g, j, none⟩ = some (.int .i32 (xs.getD j 0)))
theorem Row32.of_R {w : World} {e base : Nat} {v : Value} {xs : List Int} (h : Kd.R (Kd.int .i32) e w base (fun _ => True) v xs) : Row32 w w.heap.size v xs := by
  obtain ⟨A, c, h1, h2, h3⟩ := open_row h
  refine ⟨A, c, h1, h2, fun h0 => ?_⟩
  obtain ⟨g, e, _, hg, hc⟩ := h3 h0
  exact ⟨g, e, hg, hc⟩
theorem Row32.kept {w w' : World} {N : Nat} {v : Value} {xs : List Int} (h : Row32 w N v xs) (hk : ∀ k, k < N → w'.heap[k]? = w.heap[k]?) : Row32 w' N v xs := by
  obtain ⟨A, c, h1, h2, h3⟩ := h
  refine ⟨A, c, h1, h2, fun h0 => ?_⟩
  obtain ⟨g, e, hg, hc⟩ := h3 h0
  exact ⟨g, e, hg, fun j hj => (World.cell?_of_block (a := ⟨g, j, none⟩) (hk g hg)).trans (hc j hj)⟩

/-- What lies in memory while a pattern is held against a text: the two rows, and at which letter of the pattern one is. -/
def FM (w : World) (N : Nat) (vP vT : Value) (P T : List Int) (i : Nat) : Prop :=
  w.heap[N]? = some (.cells #[vP] 37 (0, 0)) ∧ w.heap[N + 1]? = some (.cells #[vT] 37 (0, 0)) ∧ w.heap[N + 1 + 1]? = some (.cells #[.int .i64 (i : Int)] 3 (0, 0)) ∧ Row32 w N vP P ∧ Row32 w N vT T
def oneB (P T : List Int) (i at' : Nat) : Bool := decide (i < P.length) && (decide (P.getD i 0 ≠ 42) && okc (P.getD i 0) (T.getD at' 0))

set_option maxHeartbeats 8000000 in
set_option maxRecDepth 1000000 in
theorem one_calls (w : World) (N : Nat) (vP vT : Value) (P T : List Int) (i at' : Nat) (h : FM w N vP vT P T i) (hi : i ≤ P.length) (ha : at' < T.length) (hP : P.length ≤ 64) (hT : T.length ≤ 256) :
    Calls Tryd.prog 23 #[.int .i64 at', .pointer (some ⟨N + 1 + 1, 0, none⟩), .pointer (some ⟨N, 0, none⟩), .pointer (some ⟨N + 1, 0, none⟩)] w fun e w' => e = .returned (.bool (oneB P T i at')) ∧ ∃ q, w' = w.drewN q := by
  obtain ⟨h1, h2, h3, ⟨A1, cp1, rfl, hl1, hr1⟩, ⟨A2, cp2, rfl, hl2, hr2⟩⟩ := h
  have c1 : w.cell? ⟨N, 0, none⟩ = some (.slice A1 P.length cp1) := by rw [Lib.cell_of_heap h1]; rfl
  have c2 : w.cell? ⟨N + 1, 0, none⟩ = some (.slice A2 T.length cp2) := by rw [Lib.cell_of_heap h2]; rfl
  have c3 : w.cell? ⟨N + 1 + 1, 0, none⟩ = some (.int .i64 (i : Int)) := by rw [Lib.cell_of_heap h3]; rfl
  obtain ⟨g2, rfl, _, k2⟩ := hr2 (by omega)
  have x2 := k2 at' ha
  unfold oneB okc
  generalize T.getD at' 0 = tt at *
  clear h1 h2 h3 hr2 k2
  by_cases hip : i < P.length
  · obtain ⟨g1, rfl, _, k1⟩ := hr1 (by omega)
    have x1 := k1 i hip
    generalize P.getD i 0 = pp at *
    have d0 : decide ((i : Int) < (P.length : Int)) = true := by simp; omega
    rw [decide_eq_true hip, Bool.true_and]
    generalize P.length = m at *
    generalize T.length = n at *
    clear hr1 k1
    by_cases h42 : pp = 42
    · subst h42
      go_enter Tryd.func23, Tryd.ntmps23
      go_wp2
      repeat (go_quiet (fail); try go_wp2)
      go_ret
      exact ⟨rfl, _, rfl⟩
    · have d1 : (pp == 42) = false := by simp [h42]
      rw [decide_eq_true h42, Bool.true_and]
      by_cases h63 : pp = 63
      · subst h63
        go_enter Tryd.func23, Tryd.ntmps23
        go_wp2
        repeat (go_quiet (fail); try go_wp2)
        go_ret
        exact ⟨rfl, _, rfl⟩
      · have d2 : (pp == 63) = false := by simp [h63]
        rw [decide_eq_false h63, Bool.false_or]
        go_enter Tryd.func23, Tryd.ntmps23
        go_wp2
        repeat (go_quiet (fail); try go_wp2)
        go_ret
        exact ⟨by simp [BEq.beq]; intro _; exact h42, _, rfl⟩
  · have d0 : decide ((i : Int) < (P.length : Int)) = false := by simp; omega
    rw [decide_eq_false hip, Bool.false_and]
    generalize P.length = m at *
    generalize T.length = n at *
    go_enter Tryd.func23, Tryd.ntmps23
    go_wp2
    repeat (go_quiet (fail); try go_wp2)
    go_ret
    exact ⟨rfl, _, rfl⟩
end Go.Proofs.YtfglhnnbfmpfeaaDoor.U
/- glob.Fits, its walk. -/
set_option linter.unusedVariables false
set_option linter.unusedSimpArgs false
namespace Go.Proofs.YtfglhnnbfmpfeaaDoor.U
open Go.RowKit Go.Proofs Go.Lib Go.Proofs.YtfglhnnbfmpfeaaDoorW.PrintWords

def fitB (a b : List UInt8) : Bool := if askE a b = 0 then mt (fnums a) (fnums b) else false

theorem FM_start (w : World) (vP vT : Value) (P T : List Int) (h1 : Row32 w w.heap.size vP P) (h2 : Row32 w w.heap.size vT T) :
    FM (((w.alloc (.cells #[vP] 37)).alloc (.cells #[vT] 37)).alloc (.cells #[Value.int .i64 0] 3)) w.heap.size vP vT P T 0 := by
  have hk : ∀ k, k < w.heap.size → (((w.alloc (.cells #[vP] 37)).alloc (.cells #[vT] 37)).alloc (.cells #[Value.int .i64 0] 3)).heap[k]? = w.heap[k]? := fun k hk => by
    rw [Lib.alloc_old _ _ k (by simp; omega), Lib.alloc_old _ _ k (by simp; omega), Lib.alloc_old _ _ k hk]
  refine ⟨?_, ?_, ?_, h1.kept hk, h2.kept hk⟩
  · rw [Lib.alloc_old _ _ _ (by simp; omega), Lib.alloc_old _ _ _ (by simp)]
    exact heap_alloc_new w _
  · rw [Lib.alloc_old _ _ _ (by simp)]
    have := heap_alloc_new (w.alloc (.cells #[vP] 37)) (.cells #[vT] 37)
    simpa using this
  · have := heap_alloc_new ((w.alloc (.cells #[vP] 37)).alloc (.cells #[vT] 37)) (.cells #[Value.int .i64 0] 3)
    simpa using this
theorem FM.set {w : World} {N : Nat} {vP vT : Value} {P T : List Int} {i : Nat} (h : FM w N vP vT P T i) (j : Nat) : FM (w.setCell ⟨N + 1 + 1, 0, none⟩ (.int .i64 (j : Int))) N vP vT P T j := by
  obtain ⟨h1, h2, h3, h4, h5⟩ := h
  have hk : ∀ k, k ≠ N + 1 + 1 → (w.setCell ⟨N + 1 + 1, 0, none⟩ (.int .i64 (j : Int))).heap[k]? = w.heap[k]? := fun k hk => Below.heap_setCell _ _ _ _ hk
  refine ⟨(hk _ (by omega)).trans h1, (hk _ (by omega)).trans h2, ?_, h4.kept fun k h => hk k (by omega), h5.kept fun k h => hk k (by omega)⟩
  simp only [World.setCell, Array.getElem?_modify, if_true, h3, Option.map_some]
  rfl
theorem FM.cell {w : World} {N : Nat} {vP vT : Value} {P T : List Int} {i : Nat} (h : FM w N vP vT P T i) : w.cell? ⟨N, 0, none⟩ = some vP ∧ w.cell? ⟨N + 1, 0, none⟩ = some vT ∧ w.cell? ⟨N + 1 + 1, 0, none⟩ = some (.int .i64 (i : Int)) ∧ w.frozen? ⟨N + 1 + 1, 0, none⟩ = false := by
  obtain ⟨h1, h2, h3, _, _⟩ := h
  refine ⟨by rw [Lib.cell_of_heap h1]; rfl, by rw [Lib.cell_of_heap h2]; rfl, by rw [Lib.cell_of_heap h3]; rfl, Lib.frozen_of_heap h3 0⟩
/-- At which letter of the pattern one is. -/
def iOf (N : Nat) (w : World) : Nat := match w.cell? ⟨N + 1 + 1, 0, none⟩ with
  | some (.int _ z) => z.toNat
  | _ => 0
theorem FM.iOf {w : World} {N : Nat} {vP vT : Value} {P T : List Int} {i : Nat} (h : FM w N vP vT P T i) : U.iOf N w = i := by
  unfold U.iOf
  rw [h.cell.2.2.1]
  simp

def starZ : Option Nat → Int
  | none => -1
  | some s => (s : Int)
theorem seen_slices {w : World} {N : Nat} {A1 A2 : Option Addr} {n1 c1 n2 c2 : Nat} {P T : List Int} {i : Nat} (h : FM w N (.slice A1 n1 c1) (.slice A2 n2 c2) P T i) : n1 = P.length ∧ n2 = T.length := by
  obtain ⟨_, _, _, ⟨A, c, e, _⟩, ⟨A', c', e', _⟩⟩ := h
  injection e with _ e _
  injection e' with _ e' _
  exact ⟨e, e'⟩

set_option maxHeartbeats 8000000 in
set_option maxRecDepth 1000000 in
theorem Fits_calls (a b : ByteArray) (w : World) (ha : a.size ≤ 17592186044416) (hb : b.size ≤ 17592186044416) (hT : Tabs w) :
    Calls Tryd.prog 10 #[.string a, .string b] w fun e w' => e = .returned (.tuple #[.bool (fitB a.data.toList b.data.toList), .int .i64 (askE a.data.toList b.data.toList)]) ∧ Below w.heap.size w w' := by
  have cA := asked_calls a b w ha hb hT
  unfold AskDone at cA
  have hE : askE a.data.toList b.data.toList = 0 → (fnums a.data.toList).length ≤ 64 ∧ (fnums b.data.toList).length ≤ 256 := by
    unfold askE
    split
    · split
      · intro h; cases h
      · omega
    · intro h; cases h
  unfold fitB
  generalize askE a.data.toList b.data.toList = E at *
  generalize fnums a.data.toList = P at *
  generalize fnums b.data.toList = T at *
  obtain ⟨r, hr⟩ : ∃ r, (if E = 0 then mt P T else false) = r := ⟨_, rfl⟩
  rw [hr]
  have CA := Lib.hid cA
  clear cA hT
  go_enter Tryd.func10, Tryd.ntmps10
  go_wp2_with fail
  go_step3
  go_wp2_with fail
  refine (CA.out).mono ?_
  rintro e w1 ⟨vP, vT, rfl, hb1, ⟨⟨A1, n1, c1, rfl⟩, A2, n2, c2, rfl⟩, hR⟩
  have B1 := Lib.hid hb1
  clear hb1 CA
  by_cases h0 : E = 0
  · subst h0
    obtain ⟨hP, hT⟩ := hE rfl
    obtain ⟨r1, r2⟩ := hR rfl
    have R1 := Lib.hid (Row32.of_R r1)
    have R2 := Lib.hid (Row32.of_R r2)
    clear r1 r2 hR hE
    rw [if_pos rfl] at hr
    have HR := Lib.hid hr
    have HP := Lib.hid hP
    have HT := Lib.hid hT
    clear hr hP hT
    go_wp2
    have hF : FM (((w1.alloc (.cells #[Value.slice A1 n1 c1] 37)).alloc (.cells #[Value.slice A2 n2 c2] 37)).alloc (.cells #[Value.int .i64 0] 3)) w1.heap.size (.slice A1 n1 c1) (.slice A2 n2 c2) P T 0 := FM_start w1 _ _ P T R1.out R2.out
    have hB : Below w.heap.size w (((w1.alloc (.cells #[Value.slice A1 n1 c1] 37)).alloc (.cells #[Value.slice A2 n2 c2] 37)).alloc (.cells #[Value.int .i64 0] 3)) := ((B1.out.alloc B1.out.size _).alloc (by have := B1.out.size; simp; omega) _).alloc (by have := B1.out.size; simp; omega) _
    have HF := Lib.hid hF
    have HB := Lib.hid hB
    have HN : Hid (w.heap.size ≤ w1.heap.size) := Lib.hid B1.out.size
    clear hF hB R1 R2 B1
    generalize w1.heap.size = N at *
    go_step3
    go_wp2
    go_loopw [10, 11, 13] (fun star mark at' wr => ∃ (i a' m : Nat) (st : Option Nat), star = .int .i64 (starZ st) ∧ mark = .int .i64 (m : Int) ∧ at' = .int .i64 (a' : Int) ∧ (st = none → m = 0) ∧ FM wr N (.slice A1 n1 c1) (.slice A2 n2 c2) P T i ∧ Gi P T i a' st m ∧ Below w.heap.size w wr)
      (fun _ mark at' wr => (T.length - (RowKit.intOf mark).toNat) * (P.length + T.length + 1) + (P.length - iOf N wr) + (T.length - (RowKit.intOf at').toNat))
    case atStart => exact ⟨0, 0, 0, none, rfl, rfl, rfl, fun _ => rfl, HF.out, G0 P T, HB.out⟩
    case round =>
      clear HF HB
      obtain ⟨i, at', m, st, rfl, rfl, rfl, hm0, hF, hG, hB⟩ := hrel
      have hs := seen_slices hF
      obtain ⟨e1, e2⟩ := hs
      subst e1 e2
      obtain ⟨q1, q2, q3, q4⟩ := hF.cell
      have hi := hG.1
      have ha := hG.2.1
      have hio := hF.iOf
      have zi : i ≤ 64 := by have := HP.out; omega
      have za : at' ≤ 256 := by have := HT.out; omega
      by_cases hat : at' < T.length
      · have d0 : decide ((at' : Int) < (T.length : Int)) = true := by simp; omega
        have cO := one_calls wr N _ _ P T i at' hF hi hat HP.out HT.out
        have CO := Lib.hid cO
        have HF := Lib.hid hF
        have HB := Lib.hid hB
        have HG := Lib.hid hG
        have HM := Lib.hid hm0
        clear cO hF hB hG hm0
        go_wp2_with fail
        refine (CO.out).mono ?_
        rintro e w2' ⟨rfl, q, rfl⟩
        obtain ⟨w2, hw2⟩ : ∃ w2, wr.drewN q = w2 := ⟨_, rfl⟩
        have hF2 : FM w2 N (.slice A1 P.length c1) (.slice A2 T.length c2) P T i := by rw [← hw2]; exact HF.out
        have hB2 : Below w.heap.size w w2 := by rw [← hw2]; exact pw_below_drewN HB.out q
        rw [hw2]
        clear hw2 CO HB
        obtain ⟨p1, p2, p3, p4⟩ := hF2.cell
        clear q1 q2 q3 q4
        have hS : FM (w2.setCell ⟨N + 1 + 1, 0, none⟩ (.int .i64 ((i : Int) + 1))) N (.slice A1 P.length c1) (.slice A2 T.length c2) P T (i + 1) := by
          have := hF2.set (i + 1)
          rwa [Int.natCast_succ] at this
        have HB2 := Lib.hid hB2
        have hNN : w.heap.size ≤ N + 1 + 1 := by have := HN.out; omega
        have HSB := Lib.hid (hB2.setCell (p := ⟨N + 1 + 1, 0, none⟩) hNN (.int .i64 ((i : Int) + 1)))
        have HS := Lib.hid hS
        have HF2 := Lib.hid hF2
        have HI := Lib.hid hS.iOf
        clear hB2 hF2 hS
        by_cases hone : oneB P T i at' = true
        · rw [hone]
          have hk : i < P.length ∧ P.getD i 0 ≠ 42 ∧ okc (P.getD i 0) (T.getD at' 0) = true := by
            unfold oneB at hone
            simp only [Bool.and_eq_true, decide_eq_true_eq] at hone
            exact hone
          have HG1 := Lib.hid (G1 HG.out hk.1 hat hk.2.1 hk.2.2)
          have hik := hk.1
          clear hone hk
          go_wp2
          go_roundw
          case rel => exact ⟨i + 1, at' + 1, m, st, rfl, rfl, by rw [Int.natCast_succ], HM.out, HS.out, HG1.out, HSB.out⟩
          case measure =>
            rw [HI.out, hio]
            simp only [RowKit.intOf, Int.toNat_natCast]
            have e : ((at' : Int) + 1).toNat = at' + 1 := by omega
            rw [e]
            omega
        · rw [Bool.not_eq_true] at hone
          rw [hone]
          by_cases h42 : i < P.length ∧ P.getD i 0 = 42
          · obtain ⟨hik, h42⟩ := h42
            obtain ⟨_, _, _, ⟨A, c, eA, _, hr⟩, _⟩ := HF2.out
            injection eA with eA _ eC
            subst eA eC
            obtain ⟨g, rfl, _, hc⟩ := hr (by omega)
            have x1 := hc i hik
            rw [h42] at x1
            have d3 : decide ((i : Int) < (P.length : Int)) = true := by simp; omega
            have HG2 := Lib.hid (G2 HG.out hik h42)
            have hma : m ≤ at' := by
              cases st with
              | none => rw [HM.out rfl]; omega
              | some s => exact HG.out.2.2.2.1
            clear hc hr hone h42
            go_wp2
            go_roundw
            case rel => exact ⟨i + 1, at', at', some i, rfl, rfl, rfl, fun h => (by cases h), HS.out, HG2.out, HSB.out⟩
            case measure =>
              rw [HI.out, hio]
              simp only [RowKit.intOf, Int.toNat_natCast]
              have := Nat.mul_le_mul_right (P.length + T.length + 1) (show T.length - at' ≤ T.length - m by omega)
              omega
          · have hno : i < P.length → P.getD i 0 ≠ 42 ∧ okc (P.getD i 0) (T.getD at' 0) = false := by
              intro h
              have h1 : P.getD i 0 ≠ 42 := fun e => h42 ⟨h, e⟩
              refine ⟨h1, ?_⟩
              unfold oneB at hone
              rw [decide_eq_true h, decide_eq_true h1, Bool.true_and, Bool.true_and] at hone
              exact hone
            have HNO := Lib.hid hno
            cases st with
            | none =>
              have h4 := G4 HG.out hat hno
              rw [HR.out] at h4
              subst h4
              have hzz : starZ none = -1 := rfl
              rw [hzz]
              clear hzz
              by_cases hik : i < P.length
              · obtain ⟨_, _, _, ⟨A, c, eA, _, hr⟩, _⟩ := HF2.out
                injection eA with eA _ eC
                subst eA eC
                obtain ⟨g, rfl, _, hc⟩ := hr (by omega)
                have x1 := hc i hik
                have d3 : decide ((i : Int) < (P.length : Int)) = true := by simp; omega
                have d4 : (P.getD i 0 == 42) = false := by simp; exact (hno hik).1
                generalize P.getD i 0 = pp at *
                clear hc hr hone h42 hno
                go_wp2
                try rw [Exit.noGoto_ret]
                go_ret2
                exact ⟨rfl, HB2.out⟩
              · have d3 : decide ((i : Int) < (P.length : Int)) = false := by simp; omega
                clear hone h42 hno
                go_wp2
                try rw [Exit.noGoto_ret]
                go_ret2
                exact ⟨rfl, HB2.out⟩
            | some s =>
              have hs1 : s < i := HG.out.2.2.1
              have hma : m ≤ at' := HG.out.2.2.2.1
              have HG3 := Lib.hid (G3 HG.out hat hno)
              have hzz : starZ (some s) = (s : Int) := rfl
              rw [hzz]
              have d5 : decide ((s : Int) < 0) = false := by simp
              have hS3 : FM (w2.setCell ⟨N + 1 + 1, 0, none⟩ (.int .i64 ((s : Int) + 1))) N (.slice A1 P.length c1) (.slice A2 T.length c2) P T (s + 1) := by
                have := HF2.out.set (s + 1)
                rwa [Int.natCast_succ] at this
              have HSB3 := Lib.hid (HB2.out.setCell (p := ⟨N + 1 + 1, 0, none⟩) hNN (.int .i64 ((s : Int) + 1)))
              have HS3 := Lib.hid hS3
              have HI3 := Lib.hid hS3.iOf
              clear hS3
              have hlt : (T.length - (m + 1)) * (P.length + T.length + 1) + (P.length + T.length + 1) ≤ (T.length - m) * (P.length + T.length + 1) := by
                rw [show T.length - m = T.length - (m + 1) + 1 by omega, Nat.add_mul, Nat.one_mul]
                exact Nat.le_refl _
              have HLT := Lib.hid hlt
              clear hlt
              by_cases hik : i < P.length
              · obtain ⟨_, _, _, ⟨A, c, eA, _, hr⟩, _⟩ := HF2.out
                injection eA with eA _ eC
                subst eA eC
                obtain ⟨g, rfl, _, hc⟩ := hr (by omega)
                have x1 := hc i hik
                have d3 : decide ((i : Int) < (P.length : Int)) = true := by simp; omega
                have d4 : (P.getD i 0 == 42) = false := by simp; exact (hno hik).1
                generalize P.getD i 0 = pp at *
                clear hc hr hone h42 hno
                go_wp2
                go_roundw
                case rel => exact ⟨s + 1, m + 1, m + 1, some s, rfl, by rw [Int.natCast_succ], by rw [Int.natCast_succ], fun h => (by cases h), HS3.out, HG3.out, HSB3.out⟩
                case measure =>
                  rw [HI3.out, hio]
                  simp only [RowKit.intOf, Int.toNat_natCast]
                  have e : ((m : Int) + 1).toNat = m + 1 := by omega
                  rw [e]
                  have := HLT.out
                  omega
              · have d3 : decide ((i : Int) < (P.length : Int)) = false := by simp; omega
                clear hone h42 hno
                go_wp2
                go_roundw
                case rel => exact ⟨s + 1, m + 1, m + 1, some s, rfl, by rw [Int.natCast_succ], by rw [Int.natCast_succ], fun h => (by cases h), HS3.out, HG3.out, HSB3.out⟩
                case measure =>
                  rw [HI3.out, hio]
                  simp only [RowKit.intOf, Int.toNat_natCast]
                  have e : ((m : Int) + 1).toNat = m + 1 := by omega
                  rw [e]
                  have := HLT.out
                  omega
      · have d0 : decide ((at' : Int) < (T.length : Int)) = false := by simp; omega
        have h5 := G5 hG (by omega)
        rw [HR.out] at h5
        have H5 := Lib.hid h5.symm
        have HF := Lib.hid hF
        have HB := Lib.hid hB
        clear h5 hF hB hG hm0 za hio
        go_wp2
        go_loopw [61] (fun _ wx => ∃ j : Nat, FM wx N (.slice A1 P.length c1) (.slice A2 T.length c2) P T j ∧ j ≤ P.length ∧ mt (P.drop j) [] = r ∧ Below w.heap.size w wx) (fun _ wx => P.length - iOf N wx)
        case atStart => exact ⟨i, HF.out, hi, H5.out, HB.out⟩
        case round =>
          clear HF HB H5 q1 q2 q3 q4 zi hi ha
          obtain ⟨j, hF, hj, hr, hB⟩ := hrel
          obtain ⟨q1, q2, q3, q4⟩ := hF.cell
          have hio := hF.iOf
          have zj : j ≤ 64 := by have := HP.out; omega
          have HR5 := Lib.hid hr
          by_cases hjl : j < P.length
          · have d3 : decide ((j : Int) < (P.length : Int)) = true := by simp; omega
            have hF' := hF
            obtain ⟨_, _, _, ⟨A, c, eA, _, hr⟩, _⟩ := hF
            injection eA with eA _ eC
            subst eA eC
            obtain ⟨g, rfl, _, hc⟩ := hr (by omega)
            have x1 := hc j hjl
            by_cases h42 : P.getD j 0 = 42
            · have HN6 := Lib.hid ((G6 hjl h42).symm.trans HR5.out)
              rw [h42] at x1
              have hS : FM (wr.setCell ⟨N + 1 + 1, 0, none⟩ (.int .i64 ((j : Int) + 1))) N (.slice (some ⟨g, 0, none⟩) P.length c1) (.slice A2 T.length c2) P T (j + 1) := by
                have := hF'.set (j + 1)
                rwa [Int.natCast_succ] at this
              have HSB := Lib.hid (hB.setCell (p := ⟨N + 1 + 1, 0, none⟩) (show w.heap.size ≤ N + 1 + 1 by have := HN.out; omega) (.int .i64 ((j : Int) + 1)))
              have HS := Lib.hid hS
              have HI := Lib.hid hS.iOf
              clear hc hr h42 hS hB hF'
              go_wp2
              go_roundw
              case rel => exact ⟨j + 1, HS.out, by omega, HN6.out, HSB.out⟩
              case measure =>
                rw [HI.out, hio]
                omega
            · have h7 := G7 hj (fun _ => h42)
              rw [HR5.out] at h7
              have H7 := Lib.hid h7
              have d4 : (P.getD j 0 == 42) = false := by simp; exact h42
              have HB := Lib.hid hB
              have hne : ¬ j = P.length := by omega
              have d6 : ((j : Int) == (P.length : Int)) = false := by simp; omega
              generalize P.getD j 0 = pp at *
              clear hc hr h42 h7 hB
              go_wp2
              try rw [Exit.noGoto_ret]
              go_ret2
              exact ⟨by rw [H7.out, decide_eq_false hne]; rfl, HB.out⟩
          · have h7 := G7 hj (fun h => absurd h hjl)
            rw [HR5.out] at h7
            have H7 := Lib.hid h7
            have d3 : decide ((j : Int) < (P.length : Int)) = false := by simp; omega
            have he : j = P.length := by omega
            have d6 : ((j : Int) == (P.length : Int)) = true := by simp; omega
            have HB := Lib.hid hB
            clear h7 hB hr hF
            go_wp2
            try rw [Exit.noGoto_ret]
            go_ret2
            exact ⟨by rw [H7.out, decide_eq_true he]; rfl, HB.out⟩
  · rw [if_neg h0] at hr
    subst hr
    have d0 : (E == 0) = false := by simp [h0]
    clear hR hE
    go_wp2
    try rw [Exit.noGoto_ret]
    go_ret2
    exact ⟨rfl, (B1.out.alloc B1.out.size _).alloc (by have := B1.out.size; simp; omega) _⟩
end Go.Proofs.YtfglhnnbfmpfeaaDoor.U
/- refectoryref05.Fits: the document's answer is what the plain words say. -/
set_option linter.unusedVariables false
set_option linter.unusedSimpArgs false
namespace Go.Proofs.YtfglhnnbfmpfeaaDoor.U
open Go.RowKit Go.Proofs Go.Lib Go.Proofs.YtfglhnnbfmpfeaaDoorW.PrintWords Go.Proofs.YtfglhnnbfmpfeaaDoor.PR

/-- A row of the reference: at k: do the first k letters of the pattern fit? -/
def RowIs (P t : List Int) (x : List Bool) : Prop := x.length = P.length + 1 ∧ ∀ j, j ≤ P.length → x.getD j false = mt (P.take j) t
theorem take_snoc {P : List Int} {j : Nat} (h : j < P.length) : P.take (j + 1) = P.take j ++ [P.getD j 0] := by
  rw [List.take_add_one, List.getElem?_eq_getElem h, List.getD_eq_getElem?_getD, List.getElem?_eq_getElem h]
  rfl
theorem getD_set (x : List Bool) (a j : Nat) (b : Bool) (h : a < x.length) : (x.set a b).getD j false = if j = a then b else x.getD j false := by
  rw [List.getD_eq_getElem?_getD, List.getD_eq_getElem?_getD, List.getElem?_set]
  by_cases e : a = j
  · subst e
    rw [if_pos rfl, if_pos h, if_pos rfl]
    rfl
  · rw [if_neg e, if_neg (Ne.symm e)]
theorem w64n {n : Nat} (h : n ≤ 9000000000000000000) : wrap64 ((n : Int) + 1) = ((n + 1 : Nat) : Int) := by rw [w64 (by omega) (by omega)]; omega

theorem fits_l0 (P T : List Int) (hP : P.length ≤ 100) : ∀ (d k j : Nat) (x : List Bool), P.length - j ≤ d → j ≤ P.length → x.length = P.length + 1 → (∀ i, i ≤ P.length → x.getD i false = decide (i ≤ j)) → (∀ i, i < j → P.getD i 0 = 42) → d + 3 ≤ k →
    ∃ k' y, k ≤ k' + d + 2 ∧ RowIs P [] y ∧ refectoryref05_fits.l0 k P T x j = refectoryref05_fits.l1 k' P T y 0 := by
  have fin : ∀ (j : Nat) (x : List Bool), j ≤ P.length → x.length = P.length + 1 → (∀ i, i ≤ P.length → x.getD i false = decide (i ≤ j)) → (∀ i, i < j → P.getD i 0 = 42) → (j < P.length → P.getD j 0 ≠ 42) → RowIs P [] x := by
    intro j x hj hl hx hs hne
    have stars : ∀ i, i ≤ j → mt (P.take i) [] = true := by
      intro i
      induction i with
      | zero => intro _; rfl
      | succ i ih =>
        intro hi
        rw [take_snoc (by omega), hs i (by omega), mt_snoc_star_nil]
        exact ih (by omega)
    refine ⟨hl, fun i hi => ?_⟩
    rw [hx i hi]
    by_cases hij : i ≤ j
    · rw [decide_eq_true hij, stars i hij]
    · rw [decide_eq_false hij]
      have none_ : ∀ m, j + 1 + m ≤ P.length → mt (P.take (j + 1 + m)) [] = false := by
        intro m
        induction m with
        | zero =>
          intro h
          rw [Nat.add_zero, take_snoc (by omega), mt_snoc_one_nil (hne (by omega))]
        | succ m ih =>
          intro h
          rw [show j + 1 + (m + 1) = j + 1 + m + 1 by omega, take_snoc (by omega)]
          by_cases hc : P.getD (j + 1 + m) 0 = 42
          · rw [hc, mt_snoc_star_nil]
            exact ih (by omega)
          · exact mt_snoc_one_nil hc _
      have := none_ (i - (j + 1)) (by omega)
      rw [show j + 1 + (i - (j + 1)) = i by omega] at this
      rw [this]
  intro d
  induction d with
  | zero =>
    intro k j x hd hj hl hx hs hk
    obtain ⟨k, rfl⟩ : ∃ m, k = m + 2 := ⟨k - 2, by omega⟩
    refine ⟨k, x, by omega, fin j x hj hl hx hs (fun h => by omega), ?_⟩
    rw [refectoryref05_fits.l0, if_neg (by omega), refectoryref05_fits.j1]
  | succ d ih =>
    intro k j x hd hj hl hx hs hk
    obtain ⟨k, rfl⟩ : ∃ m, k = m + 2 := ⟨k - 2, by omega⟩
    by_cases hjl : j < P.length
    · rw [refectoryref05_fits.l0, if_pos (by omega), if_pos (by omega)]
      have hr : rd P (j : Int) = P.getD j 0 := by unfold rd; rw [Int.toNat_natCast]
      rw [hr]
      by_cases h42 : P.getD j 0 = 42
      · rw [if_pos h42, w64n (by omega), if_pos (by omega), if_pos (by omega), Int.toNat_natCast]
        obtain ⟨k', y, h1, h2, h3⟩ := ih (k + 1) (j + 1) (x.set (j + 1) true) (by omega) (by omega) (by simp [hl]) (fun i hi => by
          rw [getD_set _ _ _ _ (by omega)]
          split
          · rename_i e
            rw [decide_eq_true (by omega)]
          · rw [hx i hi]
            exact decide_eq_decide.2 (by omega)) (fun i hi => by
          by_cases e : i = j
          · subst e; exact h42
          · exact hs i (by omega)) (by omega)
        exact ⟨k', y, by omega, h2, h3⟩
      · rw [if_neg h42, refectoryref05_fits.j1]
        exact ⟨k, x, by omega, fin j x hj hl hx hs (fun _ => h42), rfl⟩
    · rw [refectoryref05_fits.l0, if_neg (by omega), refectoryref05_fits.j1]
      exact ⟨k, x, by omega, fin j x hj hl hx hs (fun h => absurd h hjl), rfl⟩

/-- A row from the one ahead of it. -/
def NextIs (P t : List Int) (c : Int) (j : Nat) (y : List Bool) : Prop := y.length = P.length + 1 ∧ ∀ i, i ≤ P.length → y.getD i false = if i ≤ j then mt (P.take i) (t ++ [c]) else false
theorem NextIs.set {P t : List Int} {c : Int} {j : Nat} {y : List Bool} (h : NextIs P t c j y) (hj : j < P.length) (b : Bool) (hb : b = mt (P.take (j + 1)) (t ++ [c])) : NextIs P t c (j + 1) (y.set (j + 1) b) := by
  refine ⟨by rw [List.length_set]; exact h.1, fun i hi => ?_⟩
  rw [getD_set _ _ _ _ (by rw [h.1]; omega)]
  by_cases e : i = j + 1
  · rw [if_pos e, if_pos (by omega), e, hb]
  · rw [if_neg e, h.2 i hi]
    by_cases e2 : i ≤ j
    · rw [if_pos e2, if_pos (by omega)]
    · rw [if_neg e2, if_neg (by omega)]
theorem NextIs.keep {P t : List Int} {c : Int} {j : Nat} {y : List Bool} (h : NextIs P t c j y) (hj : j < P.length) (hb : mt (P.take (j + 1)) (t ++ [c]) = false) : NextIs P t c (j + 1) y := by
  refine ⟨h.1, fun i hi => ?_⟩
  rw [h.2 i hi]
  by_cases e : i = j + 1
  · rw [if_neg (by omega), if_pos (by omega), e, hb]
  · by_cases e2 : i ≤ j
    · rw [if_pos e2, if_pos (by omega)]
    · rw [if_neg e2, if_neg (by omega)]

theorem fits_l2 (P T : List Int) (hP : P.length ≤ 100) (hT : T.length ≤ 1000) (i : Nat) (hi : i < T.length) (x : List Bool) (hx : RowIs P (T.take i) x) : ∀ (d k j : Nat) (y : List Bool), P.length - j ≤ d → j ≤ P.length → NextIs P (T.take i) (T.getD i 0) j y → d + 1 ≤ k →
    ∃ k' z, k ≤ k' + d + 1 ∧ RowIs P (T.take (i + 1)) z ∧ refectoryref05_fits.l2 k P T x i y j = refectoryref05_fits.l1 k' P T z ((i + 1 : Nat) : Int) := by
  have fin : ∀ y, NextIs P (T.take i) (T.getD i 0) P.length y → RowIs P (T.take (i + 1)) y := fun y h => ⟨h.1, fun j hj => by rw [h.2 j hj, if_pos hj, take_snoc hi]⟩
  intro d
  induction d with
  | zero =>
    intro k j y hd hj hy hk
    obtain ⟨k, rfl⟩ : ∃ m, k = m + 1 := ⟨k - 1, by omega⟩
    obtain rfl : j = P.length := by omega
    refine ⟨k, y, by omega, fin y hy, ?_⟩
    rw [refectoryref05_fits.l2, if_neg (by omega), w64n (by omega)]
  | succ d ih =>
    intro k j y hd hj hy hk
    obtain ⟨k, rfl⟩ : ∃ m, k = m + 1 := ⟨k - 1, by omega⟩
    by_cases hjl : j < P.length
    · have hr : rd P (j : Int) = P.getD j 0 := by unfold rd; rw [Int.toNat_natCast]
      have hrT : rd T (i : Int) = T.getD i 0 := by unfold rd; rw [Int.toNat_natCast]
      have x0 : rdOf false x (j : Int) = mt (P.take j) (T.take i) := by unfold rdOf; rw [Int.toNat_natCast]; exact hx.2 j (by omega)
      have x1 : rdOf false x ((j + 1 : Nat) : Int) = mt (P.take (j + 1)) (T.take i) := by unfold rdOf; rw [Int.toNat_natCast]; exact hx.2 (j + 1) (by omega)
      have y0 : rdOf false y (j : Int) = mt (P.take j) (T.take i ++ [T.getD i 0]) := by unfold rdOf; rw [Int.toNat_natCast, hy.2 j (by omega), if_pos (Nat.le_refl _)]
      have lx := hx.1
      have ly := hy.1
      have next : ∀ (b : Bool), b = mt (P.take (j + 1)) (T.take i ++ [T.getD i 0]) → ∃ k' z, k + 1 ≤ k' + (d + 1) + 1 ∧ RowIs P (T.take (i + 1)) z ∧ refectoryref05_fits.l2 k P T x i (y.set (j + 1) b) ((j + 1 : Nat) : Int) = refectoryref05_fits.l1 k' P T z ((i + 1 : Nat) : Int) := by
        intro b hb
        obtain ⟨k', z, h1, h2, h3⟩ := ih k (j + 1) _ (by omega) (by omega) (hy.set hjl b hb) (by omega)
        exact ⟨k', z, by omega, h2, h3⟩
      rw [refectoryref05_fits.l2, if_pos (by omega), if_pos (by omega), hr, hrT, w64n (by omega), Int.toNat_natCast, x0, x1, y0]
      have t1 : P.take (j + 1) = P.take j ++ [P.getD j 0] := take_snoc hjl
      by_cases h42 : P.getD j 0 = 42
      · rw [h42] at t1
        have e := mt_snoc_star_snoc (P.take j) (T.take i) (T.getD i 0)
        rw [← t1] at e
        rw [if_pos h42, if_pos (by omega), if_pos (by omega)]
        by_cases c1 : mt (P.take (j + 1)) (T.take i) = true
        · rw [if_pos c1, if_pos (by omega)]
          exact next true (by rw [e, c1]; rfl)
        · have c0 : ¬ mt (P.take j) (T.take i) = true := by
            intro h
            apply c1
            rw [t1, mt_snoc_star]
            exact ⟨T.take i, [], by simp, h⟩
          rw [if_neg c1, if_pos (by omega), if_neg c0, if_pos (by omega), if_pos (by omega)]
          rw [Bool.not_eq_true] at c1
          exact next _ (by rw [e, c1, Bool.false_or])
      · have e := mt_snoc_one h42 (P.take j) (T.take i) (T.getD i 0)
        rw [← t1] at e
        unfold okc at e
        rw [if_neg h42]
        by_cases h63 : P.getD j 0 = 63
        · rw [if_pos h63, if_pos (by omega), if_pos (by omega), if_pos (by omega)]
          exact next _ (by rw [e, decide_eq_true h63, Bool.true_or, Bool.true_and])
        · rw [if_neg h63, if_pos (by omega), if_pos (by omega)]
          by_cases hc : P.getD j 0 = T.getD i 0
          · rw [if_pos hc, if_pos (by omega), if_pos (by omega), if_pos (by omega)]
            exact next _ (by rw [e, decide_eq_true hc, Bool.or_true, Bool.true_and])
          · rw [if_neg hc]
            obtain ⟨k', z, h1, h2, h3⟩ := ih k (j + 1) y (by omega) (by omega) (hy.keep hjl (by rw [e, decide_eq_false h63, decide_eq_false hc]; rfl)) (by omega)
            exact ⟨k', z, by omega, h2, h3⟩
    · obtain rfl : j = P.length := by omega
      refine ⟨k, y, by omega, fin y hy, ?_⟩
      rw [refectoryref05_fits.l2, if_neg (by omega), w64n (by omega)]
theorem fits_l1 (P T : List Int) (hP : P.length ≤ 100) (hT : T.length ≤ 1000) : ∀ (d k i : Nat) (x : List Bool), T.length - i ≤ d → i ≤ T.length → RowIs P (T.take i) x → d * (P.length + 3) + 1 ≤ k →
    refectoryref05_fits.l1 k P T x i = some (mt P T) := by
  intro d
  induction d with
  | zero =>
    intro k i x hd hi hx hk
    obtain ⟨k, rfl⟩ : ∃ m, k = m + 1 := ⟨k - 1, by omega⟩
    have hl := hx.1
    rw [refectoryref05_fits.l1, if_neg (by omega), if_pos (by omega), if_pos (by omega)]
    unfold rdOf
    rw [Int.toNat_natCast, hx.2 _ (Nat.le_refl _), List.take_length, List.take_of_length_le (by omega)]
  | succ d ih =>
    intro k i x hd hi hx hk
    rw [Nat.add_mul, Nat.one_mul] at hk
    obtain ⟨k, rfl⟩ : ∃ m, k = m + 1 := ⟨k - 1, by omega⟩
    have hl := hx.1
    by_cases h : i < T.length
    · rw [refectoryref05_fits.l1, if_pos (by omega), w64n (by omega), if_pos (by omega), if_pos (by omega), Int.toNat_natCast]
      have h0 : NextIs P (T.take i) (T.getD i 0) 0 (List.replicate (P.length + 1) false) := by
        refine ⟨by simp, fun j hj => ?_⟩
        have e : (List.replicate (P.length + 1) false).getD j false = false := by
          rw [List.getD_eq_getElem?_getD, List.getElem?_replicate]
          split <;> rfl
        rw [e]
        split
        · obtain rfl : j = 0 := by omega
          rw [List.take_zero, mt_nil]
          cases T.take i <;> rfl
        · rfl
      obtain ⟨k', z, h1, h2, h3⟩ := fits_l2 P T hP hT i h x hx P.length k 0 _ (by omega) (by omega) h0 (by omega)
      rw [show ((0 : Nat) : Int) = 0 from rfl] at h3
      rw [h3]
      exact ih k' (i + 1) z (by omega) (by omega) h2 (by omega)
    · rw [refectoryref05_fits.l1, if_neg (by omega), if_pos (by omega), if_pos (by omega)]
      unfold rdOf
      rw [Int.toNat_natCast, hx.2 _ (Nat.le_refl _), List.take_length, List.take_of_length_le (by omega)]
theorem fits_eq (P T : List Int) (hP : P.length ≤ 64) (hT : T.length ≤ 256) (k : Nat) (hk : 20000 ≤ k) : refectoryref05_fits.f k P T = some (mt P T) := by
  unfold refectoryref05_fits.f
  rw [w64n (by omega), if_pos (by omega), if_pos (by omega), Option.bind_some, Int.toNat_natCast, List.length_replicate, if_pos (by omega)]
  obtain ⟨k', y, h1, h2, h3⟩ := fits_l0 P T (by omega) P.length k 0 ((List.replicate (P.length + 1) false).set 0 true) (by omega) (by omega) (by simp) (fun i hi => by
    rw [getD_set _ _ _ _ (by simp)]
    split
    · rename_i e
      rw [decide_eq_true (by omega)]
    · rw [decide_eq_false (by omega), List.getD_eq_getElem?_getD, List.getElem?_replicate]
      split <;> rfl) (fun i hi => by omega) (by omega)
  rw [show ((0 : Nat) : Int) = 0 from rfl] at h3
  rw [show (0 : Int).toNat = 0 from rfl, h3]
  have := fits_l1 P T (by omega) (by omega) T.length k' 0 y (by omega) (by omega) (by rw [List.take_zero]; exact h2) (by
    have : T.length * (P.length + 3) ≤ 256 * 67 := Nat.mul_le_mul hT (by omega)
    omega)
  exact this

/-! ### The letters, folded -/
theorem fold_l0 (s : ByteArray) (hs : s.size ≤ 17592186044415) : ∀ (d k i : Nat) (acc : List Int), s.size - i ≤ d → i ≤ s.size → acc.length ≤ i → d + 1 ≤ k →
    refectoryref02_Fold.l0 k s acc i = some (strOfNums (acc ++ (fold (s.data.toList.drop i)).map fun b => (b.toNat : Int))) := by
  intro d
  induction d with
  | zero =>
    intro k i acc hd hi ha hk
    obtain ⟨k, rfl⟩ : ∃ m, k = m + 1 := ⟨k - 1, by omega⟩
    rw [refectoryref02_Fold.l0, if_neg (by omega), List.drop_eq_nil_of_le (by rw [← size_eq]; omega)]
    simp [fold]
  | succ d ih =>
    intro k i acc hd hi ha hk
    obtain ⟨k, rfl⟩ : ∃ m, k = m + 1 := ⟨k - 1, by omega⟩
    by_cases h : i < s.size
    · have hb := bt_drop s i 0 (by omega)
      rw [Nat.add_zero] at hb
      have hlt : i < s.data.toList.length := by rw [← size_eq]; exact h
      have hd' : s.data.toList.drop i = s.data.toList[i] :: s.data.toList.drop (i + 1) := List.drop_eq_getElem_cons hlt
      rw [hd'] at hb
      simp only [List.getD_cons_zero] at hb
      have h256 := (s.data.toList[i]).toNat_lt
      have hz := foldB_nat s.data.toList[i]
      unfold foldN at hz
      rw [refectoryref02_Fold.l0, if_pos (by omega), if_pos (by omega), hb, hd', w64n (by omega)]
      have fin : ∀ z : Int, z = ((foldB s.data.toList[i]).toNat : Int) → (if acc.length < 140737488355328 then refectoryref02_Fold.l0 k s (acc ++ [z]) ((i + 1 : Nat) : Int) else none) = some (strOfNums (acc ++ (fold (s.data.toList[i] :: s.data.toList.drop (i + 1))).map fun b => (b.toNat : Int))) := by
        intro z hz
        rw [if_pos (by omega), ih k (i + 1) _ (by omega) (by omega) (by simp; omega) (by omega), hz]
        simp [fold]
      generalize s.data.toList[i] = c at *
      by_cases h1 : 65 ≤ c.toNat
      · rw [if_pos (by omega)]
        by_cases h2 : c.toNat ≤ 90
        · rw [if_pos (by omega)]
          rw [if_pos ⟨h1, h2⟩] at hz
          exact fin _ (by omega)
        · rw [if_neg (by omega)]
          rw [if_neg (by omega)] at hz
          exact fin _ (by omega)
      · rw [if_neg (by omega)]
        rw [if_neg (by omega)] at hz
        exact fin _ (by omega)
    · rw [refectoryref02_Fold.l0, if_neg (by omega), List.drop_eq_nil_of_le (by rw [← size_eq]; omega)]
      simp [fold]
theorem RFold_eq (s : ByteArray) (hs : s.size ≤ 17592186044415) (k : Nat) (hk : s.size + 1 ≤ k) : refectoryref02_Fold.f k s = some ⟨(fold s.data.toList).toArray⟩ := by
  unfold refectoryref02_Fold.f
  have := fold_l0 s hs s.size k 0 [] (by omega) (by omega) (by simp) hk
  rw [show ((0 : Nat) : Int) = 0 from rfl] at this
  rw [this]
  simp only [strOfNums, List.map_map, List.nil_append, List.drop_zero]
  congr 3
  rw [List.map_congr_left (g := fun b => b) (fun b _ => by simp), List.map_id']
theorem Rletters_eq (s : ByteArray) (hs : s.size ≤ 17592186044415) (k : Nat) (hk : s.size + 9 ≤ k) : refectoryref05_letters.f k s = some (fnums s.data.toList, valid s.data.toList) := by
  unfold refectoryref05_letters.f
  have hz : (⟨(fold s.data.toList).toArray⟩ : ByteArray).size = s.size := by rw [size_eq, List.toList_toArray, fold_length, ← size_eq]
  rw [RFold_eq s hs k (by omega), Option.bind_some, Letters_eq _ (by omega) k (by omega), Option.bind_some]
  show some (lnums (fold s.data.toList), valid (fold s.data.toList)) = _
  unfold lnums fnums flet
  rw [letters_fold, valid_fold]
theorem Rasked_eq (a b : ByteArray) (ha : a.size ≤ 17592186044415) (hb : b.size ≤ 17592186044415) (k : Nat) (hk : a.size + b.size + 10 ≤ k) :
    refectoryref05_asked.f k a b = some (if askE a.data.toList b.data.toList = 0 then (fnums a.data.toList, fnums b.data.toList, 0) else ([], [], askE a.data.toList b.data.toList)) := by
  obtain ⟨k, rfl⟩ : ∃ m, k = m + 1 := ⟨k - 1, by omega⟩
  unfold refectoryref05_asked.f
  rw [Rletters_eq a ha _ (by omega), Option.bind_some, Rletters_eq b hb _ (by omega), Option.bind_some]
  unfold askE
  generalize fnums a.data.toList = P
  generalize fnums b.data.toList = T
  cases valid a.data.toList <;> cases valid b.data.toList
  · simp [refectoryref05_asked.j0]
  · simp [refectoryref05_asked.j0]
  · simp [refectoryref05_asked.j0]
  · simp only [refectoryref05_asked.j0, Bool.not_true, if_true, and_self, Bool.false_eq_true, if_false]
    by_cases h1 : 64 < P.length
    · have e : (if 64 < P.length ∨ 256 < T.length then (3 : Int) else 0) = 3 := if_pos (.inl h1)
      rw [if_pos (by omega), e]
      rfl
    · rw [if_neg (by omega)]
      by_cases h2 : 256 < T.length
      · have e : (if 64 < P.length ∨ 256 < T.length then (3 : Int) else 0) = 3 := if_pos (.inr h2)
        rw [if_pos (by omega), e]
        rfl
      · have e : (if 64 < P.length ∨ 256 < T.length then (3 : Int) else 0) = 0 := if_neg (by omega)
        rw [if_neg (by omega), e]
        rfl
theorem ask_len {a b : List UInt8} (h : askE a b = 0) : (fnums a).length ≤ 64 ∧ (fnums b).length ≤ 256 := by
  unfold askE at h
  split at h
  · split at h
    · cases h
    · omega
  · cases h
theorem RFits_eq (a b : ByteArray) (ha : a.size ≤ 17592186044415) (hb : b.size ≤ 17592186044415) (k : Nat) (hk : a.size + b.size + 20010 ≤ k) :
    refectoryref05_Fits.f k a b = some (fitB a.data.toList b.data.toList, askE a.data.toList b.data.toList) := by
  unfold refectoryref05_Fits.f
  rw [Rasked_eq a b ha hb k (by omega), Option.bind_some]
  unfold fitB
  by_cases h : askE a.data.toList b.data.toList = 0
  · obtain ⟨h1, h2⟩ := ask_len h
    rw [if_pos h, if_pos h]
    dsimp only
    rw [if_pos rfl, fits_eq _ _ h1 h2 k (by omega), Option.bind_some, h]
  · rw [if_neg h, if_neg h]
    dsimp only
    rw [if_neg h]
end Go.Proofs.YtfglhnnbfmpfeaaDoor.U
/- glob: the document's own examples; what the laws call. -/
set_option linter.unusedVariables false
set_option linter.unusedSimpArgs false
namespace Go.Proofs.YtfglhnnbfmpfeaaDoor.U
open Go.RowKit Go.Proofs Go.Lib Go.Proofs.YtfglhnnbfmpfeaaDoorW.PrintWords Go.Proofs.YtfglhnnbfmpfeaaDoor.PR

theorem ascii_of {l : List UInt8} (h : ∀ b ∈ l, b.toNat < 128) : ∀ (j : Nat) (b : UInt8), l[j]? = some b → b.toNat < 128 := fun _ b h' => h b (List.mem_of_getElem? h')
set_option maxHeartbeats 4000000 in
set_option maxRecDepth 1000000 in
/-- glob.Plain of a text of ASCII letters. -/
theorem Plain_ascii (s : ByteArray) (b : Bool) (w : World) (hs : s.size < 4294967281) (hT : Tabs w) (hv : valid s.data.toList = true) (ha : ∀ (j : Nat) b, s.data.toList[j]? = some b → b.toNat < 128) (hb : Lib.containsAny s.data.toList [42, 63] = !b) :
    Calls Tryd.prog 16 #[.string s] w fun e w' => e = .returned (.bool b) ∧ Below w.heap.size w w' := by
  have c1 := Units_calls s w (by omega) hT
  have c2 := fun W => Tryd.strings_ContainsAny_laid s ⟨#[42, 63]⟩ W hs (by decide) ha (ascii_of (by decide))
  rw [show (⟨#[42, 63]⟩ : ByteArray).data.toList = [42, 63] from rfl, hb] at c2
  unfold errOf at c1
  rw [if_pos hv] at c1
  have C1 := Lib.hid c1
  have C2 := Lib.hid c2
  clear c1 c2 hT ha hb hv
  go_enter Tryd.func16, Tryd.ntmps16
  go_wp2_with fail
  refine (C1.out).mono ?_
  rintro e w1 ⟨rfl, hb1⟩
  have B1 := Lib.hid hb1
  clear hb1
  go_wp2_with fail
  refine (C2.out _).mono ?_
  rintro e w2 ⟨rfl, hb2⟩
  have B2 := Lib.hid (B1.out.trans (hb2.mono B1.out.size))
  clear hb2
  go_wp2
  go_ret
  exact ⟨by simp, B2.out⟩

theorem ex_fit1 : fitB [42, 46, 84, 88, 84] [97, 46, 116, 120, 116] = true ∧ askE [42, 46, 84, 88, 84] [97, 46, 116, 120, 116] = 0 := by decide +kernel
theorem ex_fit2 : fitB [97, 63, 99] [97, 99] = false ∧ askE [97, 63, 99] [97, 99] = 0 := by decide +kernel

set_option maxHeartbeats 4000000 in
set_option maxRecDepth 1000000 in
theorem works_calls (w : World) (hT : Tabs w) :
    Calls Tryd.prog 12 #[] w fun e w' => e = .returned (.bool true) ∧ Below w.heap.size w w' := by
  have c1 := Fits_calls ⟨#[42, 46, 84, 88, 84]⟩ ⟨#[97, 46, 116, 120, 116]⟩ w (by decide) (by decide) hT
  have c2 := fun W h => Fits_calls ⟨#[97, 63, 99]⟩ ⟨#[97, 99]⟩ W (by decide) (by decide) h
  have c3 := fun W h => Plain_ascii ⟨#[97, 46, 98]⟩ true W (by decide) h (by decide +kernel) (ascii_of (by decide)) (by decide +kernel)
  have c4 := fun W h => Plain_ascii ⟨#[97, 42]⟩ false W (by decide) h (by decide +kernel) (ascii_of (by decide)) (by decide +kernel)
  rw [show (⟨#[42, 46, 84, 88, 84]⟩ : ByteArray).data.toList = [42, 46, 84, 88, 84] from rfl, show (⟨#[97, 46, 116, 120, 116]⟩ : ByteArray).data.toList = [97, 46, 116, 120, 116] from rfl, ex_fit1.1, ex_fit1.2] at c1
  rw [show (⟨#[97, 63, 99]⟩ : ByteArray).data.toList = [97, 63, 99] from rfl, show (⟨#[97, 99]⟩ : ByteArray).data.toList = [97, 99] from rfl, ex_fit2.1, ex_fit2.2] at c2
  have C1 := Lib.hid c1
  have C2 := Lib.hid c2
  have C3 := Lib.hid c3
  have C4 := Lib.hid c4
  have HT := Lib.hid hT
  clear c1 c2 c3 c4 hT
  go_enter Tryd.func12, Tryd.ntmps12
  go_wp2_with fail
  refine (C1.out).mono ?_
  rintro e w1 ⟨rfl, hb1⟩
  have B1 := Lib.hid hb1
  clear hb1
  go_wp2_with fail
  refine (C2.out _ (HT.out.below B1.out)).mono ?_
  rintro e w2 ⟨rfl, hb2⟩
  have B2 := Lib.hid (B1.out.trans (hb2.mono B1.out.size))
  clear hb2
  go_wp2_with fail
  refine (C3.out _ (HT.out.below B2.out)).mono ?_
  rintro e w3 ⟨rfl, hb3⟩
  have B3 := Lib.hid (B2.out.trans (hb3.mono B2.out.size))
  clear hb3
  go_wp2_with fail
  refine (C4.out _ (HT.out.below B3.out)).mono ?_
  rintro e w4 ⟨rfl, hb4⟩
  have B4 := Lib.hid (B3.out.trans (hb4.mono B3.out.size))
  clear hb4
  go_wp2
  go_ret
  exact ⟨rfl, B4.out⟩

set_option maxHeartbeats 4000000 in
set_option maxRecDepth 1000000 in
theorem GlobFits_walk (a b : ByteArray) (w : World) (ha : a.size ≤ 1048576) (hb : b.size ≤ 1048576) (hT : Tabs w) :
    Calls Tryd.prog 3 #[.string a, .string b] w fun e w' => e = .returned (.bool true) ∧ Below w.heap.size w w' := by
  have c1 := Fits_calls a b w (by omega) (by omega) hT
  have c2 := fun W => refectoryref05_Fits.calls _ a b _ _ W (RFits_eq a b (by omega) (by omega) _ (Nat.le_refl _))
  generalize fitB a.data.toList b.data.toList = F at *
  generalize askE a.data.toList b.data.toList = E at *
  have C1 := Lib.hid c1
  have C2 := Lib.hid c2
  have HT := Lib.hid hT
  have dE : ((E : Int) == E) = true := by simp
  have dF : (F == F) = true := by simp
  clear c1 c2 hT ha hb
  go_enter Tryd.func3, Tryd.ntmps3
  go_wp2_with fail
  refine (C1.out).mono ?_
  rintro e w1 ⟨rfl, hb1⟩
  have B1 := Lib.hid hb1
  clear hb1
  go_wp2_with fail
  refine (C2.out _).mono ?_
  rintro e w2 ⟨rfl, hb2⟩
  have B2 := Lib.hid (B1.out.trans (Below.mono (by first | exact hb2 | exact hb2.below) B1.out.size))
  clear hb2
  go_wp2_with fail
  refine (works_calls _ (HT.out.below B2.out)).mono ?_
  rintro e w3 ⟨rfl, hb3⟩
  have B3 := Lib.hid (B2.out.trans (hb3.mono B2.out.size))
  clear hb3
  go_wp2
  go_ret
  exact ⟨rfl, B3.out⟩
end Go.Proofs.YtfglhnnbfmpfeaaDoor.U
/- The plain law of glob: texts that are short, patterns that are put together, ? alone. -/
set_option linter.unusedVariables false
set_option linter.unusedSimpArgs false
namespace Go.Proofs.YtfglhnnbfmpfeaaDoor.U
open Go.RowKit Go.Proofs Go.Lib Go.Proofs.YtfglhnnbfmpfeaaDoorW.PrintWords Go.Proofs.YtfglhnnbfmpfeaaDoor.PR

theorem fnums_length (l : List UInt8) : (fnums l).length = (letters l).length := by simp [fnums, flet]
theorem lnums_length (l : List UInt8) : (lnums l).length = (letters l).length := by simp [lnums]
/-- A text of at most so many letters. -/
def shortB (l : List UInt8) (m : Nat) : Bool := valid l && decide ((fnums l).length ≤ m)
theorem short_eq (s : ByteArray) (m : Nat) (hs : s.size ≤ 17592186044415) (k : Nat) (hk : s.size + 9 ≤ k) : refectorylaw05_short.f k s (m : Int) = some (shortB s.data.toList m) := by
  unfold refectorylaw05_short.f shortB
  rw [Letters_eq s hs k hk, Option.bind_some]
  dsimp only
  cases valid s.data.toList with
  | true =>
    rw [if_pos rfl, Bool.true_and, lnums_length, fnums_length]
    congr 1
    exact decide_eq_decide.2 (by omega)
  | false => rfl
theorem short_calls (s : ByteArray) (m : Nat) (W : World) (hs : s.size ≤ 17592186044415) :
    Calls Tryd.prog 13 #[.string s, .int .i64 (m : Int)] W fun e w' => e = .returned (.bool (shortB s.data.toList m)) ∧ Below W.heap.size W w' := by
  exact (refectorylaw05_short.calls _ s m _ W (short_eq s m hs _ (Nat.le_refl _))).mono fun e w' ⟨he, hb⟩ => ⟨he, by first | exact hb | exact hb.below⟩
theorem short_iff (l : List UInt8) (m : Nat) : shortB l m = true ↔ valid l = true ∧ (fnums l).length ≤ m := by
  unfold shortB
  rw [Bool.and_eq_true, decide_eq_true_eq]
theorem ask_short {a b : List UInt8} (h1 : shortB a 64 = true) (h2 : shortB b 256 = true) : askE a b = 0 ∧ fitB a b = mt (fnums a) (fnums b) := by
  obtain ⟨v1, l1⟩ := (short_iff _ _).1 h1
  obtain ⟨v2, l2⟩ := (short_iff _ _).1 h2
  have e : askE a b = 0 := by
    unfold askE
    rw [if_pos ⟨v1, v2⟩, if_neg (by omega)]
  refine ⟨e, ?_⟩
  unfold fitB
  rw [if_pos e]
theorem fnums_append {a b : List UInt8} (h : valid a = true) : fnums (a ++ b) = fnums a ++ fnums b := by
  unfold fnums flet
  rw [letters_append a b h, List.map_append, List.map_append]
theorem letters_ascii : ∀ l : List UInt8, (∀ b ∈ l, b.toNat < 128) → letters l = l.map (fun b => b.toNat) := by
  intro l
  induction l with
  | nil => intro _; rfl
  | cons b t ih =>
    intro h
    have hb := h b List.mem_cons_self
    have e : b :: t = enc b.toNat ++ t := by
      unfold enc
      rw [if_pos hb]
      simp
    have hi : IsLetter b.toNat := .inl (by omega)
    have := letters_enc [b.toNat] t (fun n hn => by rw [List.mem_singleton.1 hn]; exact hi)
    simp only [List.flatMap_cons, List.flatMap_nil, List.append_nil] at this
    rw [show letters (b :: t) = letters (enc b.toNat ++ t) from by rw [← e], this, ih fun c hc => h c (List.mem_cons_of_mem _ hc), List.map_cons]
    rfl
theorem valid_ascii (l : List UInt8) (h : ∀ b ∈ l, b.toNat < 128) : valid l = true := by
  rw [valid_iff, letters_ascii l h]
  intro n hn
  obtain ⟨b, hb, rfl⟩ := List.mem_map.1 hn
  exact .inl (by have := h b hb; omega)
theorem fnums_star : fnums [42] = [42] ∧ valid [42] = true := by decide +kernel
theorem fnums_marks (k : Nat) : fnums (List.replicate k 63) = List.replicate k 63 ∧ valid (List.replicate k 63) = true := by
  have h : ∀ b ∈ List.replicate k (63 : UInt8), b.toNat < 128 := fun b hb => by rw [List.eq_of_mem_replicate hb]; decide
  refine ⟨?_, valid_ascii _ h⟩
  unfold fnums flet
  rw [letters_ascii _ h]
  simp [foldN]

/-- Patterns that are put together. -/
theorem joins_law {p q s t b : List UInt8} (h1 : shortB (p ++ q) 60 = true) (h2 : shortB (s ++ b ++ t) 256 = true) (h3 : shortB p 64 = true) (h4 : shortB q 64 = true) (h5 : shortB s 256 = true) (h6 : shortB t 256 = true) (h7 : shortB b 256 = true) :
    askE (p ++ q) (s ++ t) = 0 ∧ askE (p ++ [42] ++ q) (s ++ b ++ t) = 0 ∧ (fitB p s = true → fitB q t = true → fitB (p ++ q) (s ++ t) = true ∧ fitB (p ++ [42] ++ q) (s ++ b ++ t) = true) := by
  obtain ⟨vp, lp⟩ := (short_iff _ _).1 h3
  obtain ⟨vq, lq⟩ := (short_iff _ _).1 h4
  obtain ⟨vs, ls⟩ := (short_iff _ _).1 h5
  obtain ⟨vt, lt⟩ := (short_iff _ _).1 h6
  obtain ⟨vb, lb⟩ := (short_iff _ _).1 h7
  obtain ⟨_, l1⟩ := (short_iff _ _).1 h1
  obtain ⟨v2, l2⟩ := (short_iff _ _).1 h2
  have v3 : valid (s ++ b) = true := by rw [valid_append s b vs, vb]
  have v4 : valid (p ++ [42]) = true := by rw [valid_append p _ vp, fnums_star.2]
  have e1 : fnums (p ++ q) = fnums p ++ fnums q := fnums_append vp
  have e2 : fnums (s ++ t) = fnums s ++ fnums t := fnums_append vs
  have e3 : fnums (p ++ [42] ++ q) = fnums p ++ [42] ++ fnums q := by rw [fnums_append v4, fnums_append vp, fnums_star.1]
  have e4 : fnums (s ++ b ++ t) = fnums s ++ fnums b ++ fnums t := by rw [fnums_append v3, fnums_append vs]
  rw [e1, List.length_append] at l1
  rw [e4, List.length_append, List.length_append] at l2
  have a1 := ask_short (a := p ++ q) (b := s ++ t) ((short_iff _ _).2 ⟨by rw [valid_append p q vp, vq], by rw [e1, List.length_append]; omega⟩) ((short_iff _ _).2 ⟨by rw [valid_append s t vs, vt], by rw [e2, List.length_append]; omega⟩)
  have a2 := ask_short (a := p ++ [42] ++ q) (b := s ++ b ++ t) ((short_iff _ _).2 ⟨by rw [valid_append _ q v4, vq], by rw [e3, List.length_append, List.length_append]; simp; omega⟩) h2
  have a3 := ask_short h3 h5
  have a4 := ask_short h4 h6
  refine ⟨a1.1, a2.1, fun f1 f2 => ?_⟩
  rw [a3.2] at f1
  rw [a4.2] at f2
  rw [a1.2, a2.2, e1, e2, e3, e4]
  refine ⟨(mt_append _ _ _).2 ⟨_, _, rfl, f1, f2⟩, (mt_append _ _ _).2 ⟨_, _, rfl, (mt_snoc_star _ _).2 ⟨_, _, rfl, f1⟩, f2⟩⟩
/-- ? alone. -/
theorem marks_law {s : List UInt8} (h : shortB s 256 = true) (k : Nat) (hk : k < 60) :
    askE (List.replicate k 63) s = 0 ∧ askE (List.replicate k 63 ++ [42]) s = 0 ∧ askE ([42] ++ List.replicate k 63) s = 0 ∧
    fitB (List.replicate k 63) s = decide ((letters s).length = k) ∧ fitB (List.replicate k 63 ++ [42]) s = decide (k ≤ (letters s).length) ∧ fitB ([42] ++ List.replicate k 63) s = decide (k ≤ (letters s).length) := by
  obtain ⟨m1, m2⟩ := fnums_marks k
  have f1 : fnums (List.replicate k 63 ++ [42]) = List.replicate k 63 ++ [42] := by rw [fnums_append m2, m1, fnums_star.1]
  have f2 : fnums ([42] ++ List.replicate k 63) = 42 :: List.replicate k 63 := by rw [fnums_append fnums_star.2, m1, fnums_star.1]; rfl
  have a1 := ask_short (a := List.replicate k 63) (b := s) ((short_iff _ _).2 ⟨m2, by rw [m1]; simp; omega⟩) h
  have a2 := ask_short (a := List.replicate k 63 ++ [42]) (b := s) ((short_iff _ _).2 ⟨by rw [valid_append _ _ m2]; exact fnums_star.2, by rw [f1]; simp; omega⟩) h
  have a3 := ask_short (a := [42] ++ List.replicate k 63) (b := s) ((short_iff _ _).2 ⟨by rw [valid_append _ _ fnums_star.2]; exact m2, by rw [f2]; simp; omega⟩) h
  refine ⟨a1.1, a2.1, a3.1, ?_, ?_, ?_⟩
  · rw [a1.2, m1, mt_marks, fnums_length]
  · rw [a2.2, f1, mt_marks_star, fnums_length]
  · rw [a3.2, f2, mt_star_marks, fnums_length]
end Go.Proofs.YtfglhnnbfmpfeaaDoor.U
/- strings.Builder's WriteString and WriteRune, at a builder that the call itself has made; the frame of the shelf's forms '_k'. -/
set_option linter.unusedVariables false
set_option linter.unusedSimpArgs false
namespace Go.Proofs.YtfglhnnbfmpfeaaDoor.U
open Go.RowKit Go.Proofs Go.Shelf

set_option maxHeartbeats 2000000 in
set_option maxRecDepth 100000 in
/-- WriteString. -/
theorem WriteString_k (B b : Nat) (bs : List Value) (s : ByteArray) (w : World) (h : Lib.IsBuilderF 49 5 B b bs w) (hlen : bs.length + s.size ≤ 140737488355328) (hBw : B ≤ w.heap.size) :
    Calls Tryd.prog 33 #[.pointer (some ⟨b, 0, none⟩), .string s] w fun e w' => e = .returned (.tuple #[.int .i64 s.size, .nilIface]) ∧ (Lib.BuilderAtF 49 5 B b (.pointer (some ⟨b, 0, none⟩)) (bs ++ Lib.strCells s) w' ∧ Below B w w' ∧ Lib.OthersKept 5 (some b) w w') := by
  obtain ⟨i0, hi, hz0, hz1, hz2⟩ := info_parts infoByte
  go_enter Tryd.func33, Tryd.ntmps33
  go_wp2_with (go_at_call 38; refine (copyCheck_k B b bs _ h).mono ?_)
  rintro e w1 ⟨rfl, h1, hb1, hk1⟩
  obtain ⟨hB, v, hbk, hown, hne⟩ := h1
  have c0 : w1.cell? ⟨b, 0, none⟩ = some (.pointer (some ⟨b, 0, none⟩)) := by rw [Lib.cell_of_heap hbk]; rfl
  have c1 : w1.cell? ⟨b, 1, none⟩ = some v := by rw [Lib.cell_of_heap hbk]; rfl
  go_wp2_with (at_builtin; refine Lib.wpList_append_own_stringF _ rfl _ _ 47 9 rfl B 5 i0 Tryd.underlying47 Tryd.underlying9 hi hz0 hz1 hz2 _ _ _ rfl hown s rfl ?c3 ?c4 ?c5 ?_)
  case c3 => unfold maxLen; omega
  case c4 => omega
  case c5 => have := hb1.size; omega
  intro v' w2 hown' hgrow _
  have hlt : b < w1.heap.size := (Array.getElem?_eq_some_iff.1 hbk).1
  have hb2 : w2.heap[b]? = some (.cells #[.pointer (some ⟨b, 0, none⟩), v] 49 (0, 0)) := by
    rw [hgrow.block b hlt (fun e => hne e.symm)]
    exact hbk
  have d0 : w2.cell? ⟨b, 0, none⟩ = some (.pointer (some ⟨b, 0, none⟩)) := by rw [Lib.cell_of_heap hb2]; rfl
  have d1 : w2.cell? ⟨b, 1, none⟩ = some v := by rw [Lib.cell_of_heap hb2]; rfl
  have f1 : w2.frozen? ⟨b, 1, none⟩ = false := Lib.frozen_of_heap hb2 1
  obtain ⟨ao, n', cap, rfl⟩ : ∃ ao n' cap, v' = .slice ao n' cap := by
    rcases hown'.2 with ⟨hv, _⟩ | ⟨g, cap, cur, fz, hv, _⟩
    · exact ⟨_, _, _, hv⟩
    · exact ⟨_, _, _, hv⟩
  go_wp2
  go_ret2
  refine ⟨rfl, ?_, ?_, (hk1.grown hgrow (Lib.ownsRowF_kind hown)).setCell ⟨b, 1, none⟩ rfl _⟩
  · exact Lib.BuilderAtF.put (T := 49) (e := 5) hB hb2 (bs' := bs ++ Lib.strCells s) (by simpa [Lib.strCells_length] using hown') (by decide)
  · exact (hb1.grown hgrow (by have := hb1.size; omega) (fun k hk => (hown.lt k hk).1)).setCell (p := ⟨b, 1, none⟩) hB _

def ren2 : Go.Shelf.Ren := ⟨Tryd.lays242_ren.f, fun | 72 => 49 | 70 => 46 | n => Tryd.lays242_ren.t n, Tryd.lays242_ren.g⟩
theorem lays2 : Go.Proofs.Lays.n242 Tryd.prog ren2 := { Tryd.lays242 with }
theorem extra2 : Builder.Extra Tryd.prog ren2 := {
  sizeBuilder := by kernel_rfl
  liesBuilder := by kernel_rfl
  t5 := Tryd.underlying5
  a5 := Tryd.isAgg5
  z5 := Tryd.sizeOf5
  v5 := Tryd.zeroValue5
  infoByte := by kernel_rfl
  cellsByte := by kernel_rfl
  sizeByte := by kernel_rfl
  neB5 := by decide }
theorem AppendRune_F (B : Nat) (v : Value) (n : Nat) (xs : List Value) (r : Int) (hr0 : -2147483648 ≤ r) (hr1 : r ≤ 2147483647) (w : World) (hown : w.ownsRowF B 5 1 v n xs) (hlen : n + 4 ≤ 140737488355328) (hBw : B ≤ w.heap.size) :
    Calls Tryd.prog 42 #[v, .int .i32 r] w fun e w' => ∃ v', e = .returned v' ∧ w'.ownsRowF B 5 1 v' (n + (Lib.runeCells r).length) (xs ++ Lib.runeCells r) ∧ ∃ o, (w.alloc o).grownBy w' v.ownBlock :=
  Any.utf8_AppendRune_own lays2 extra2 B v n xs r hr0 hr1 w hown hlen hBw

set_option maxHeartbeats 4000000 in
set_option maxRecDepth 100000 in
/-- WriteRune. -/
theorem WriteRune_k (B b : Nat) (bs : List Value) (r : Int) (hr0 : -2147483648 ≤ r) (hr1 : r ≤ 2147483647) (w : World) (h : Lib.IsBuilderF 49 5 B b bs w) (hlen : bs.length + 4 ≤ 140737488355328) (hBw : B ≤ w.heap.size) :
    Calls Tryd.prog 34 #[.pointer (some ⟨b, 0, none⟩), .int .i32 r] w fun e w' => e = .returned (.tuple #[.int .i64 (Lib.runeCells r).length, .nilIface]) ∧ (Lib.BuilderAtF 49 5 B b (.pointer (some ⟨b, 0, none⟩)) (bs ++ Lib.runeCells r) w' ∧ Below B w w' ∧ Lib.OthersKept 5 (some b) w w') := by
  have hk4 := Lib.runeCells_le r
  go_enter Tryd.func34, Tryd.ntmps34
  go_wp2_with (go_at_call 38; refine (copyCheck_k B b bs _ h).mono ?_)
  rintro e w1 ⟨rfl, h1, hb1, hk1⟩
  obtain ⟨hB, v, hbk, hown, hne⟩ := h1
  obtain ⟨ao, cap, rfl⟩ : ∃ ao cap, v = .slice ao bs.length cap := by
    rcases hown.2 with ⟨hv, h0⟩ | ⟨g, cap, cur, fz, hv, _⟩
    · exact ⟨none, 0, by rw [hv, h0]⟩
    · exact ⟨_, _, hv⟩
  have c0 : w1.cell? ⟨b, 0, none⟩ = some (.pointer (some ⟨b, 0, none⟩)) := by rw [Lib.cell_of_heap hbk]; rfl
  have c1 : w1.cell? ⟨b, 1, none⟩ = some (.slice ao bs.length cap) := by rw [Lib.cell_of_heap hbk]; rfl
  go_wp2_with (go_at_call 42; refine (AppendRune_F B _ bs.length bs r hr0 hr1 _ hown hlen (by have := hb1.size; omega)).mono ?_)
  rintro e w2 ⟨v', rfl, hown', o, hgrow⟩
  have hlt : b < w1.heap.size := (Array.getElem?_eq_some_iff.1 hbk).1
  have hb2 : w2.heap[b]? = some (.cells #[.pointer (some ⟨b, 0, none⟩), .slice ao bs.length cap] 49 (0, 0)) := by
    rw [hgrow.block b (by simp; omega) (fun e => hne e.symm), Lib.alloc_old w1 _ b hlt]
    exact hbk
  have d0 : w2.cell? ⟨b, 0, none⟩ = some (.pointer (some ⟨b, 0, none⟩)) := by rw [Lib.cell_of_heap hb2]; rfl
  have d1 : w2.cell? ⟨b, 1, none⟩ = some (.slice ao bs.length cap) := by rw [Lib.cell_of_heap hb2]; rfl
  have f1 : w2.frozen? ⟨b, 1, none⟩ = false := Lib.frozen_of_heap hb2 1
  obtain ⟨g, cap', rfl⟩ : ∃ g cap', v' = .slice (some ⟨g, 0, none⟩) (bs.length + (Lib.runeCells r).length) cap' := by
    rcases hown'.2 with ⟨_, h0⟩ | ⟨g, cap', cur, fz, hv, _⟩
    · omega
    · exact ⟨g, cap', hv⟩
  go_wp2
  go_ret2
  refine ⟨?_, ?_, ?_, ((hk1.alloc _).grown hgrow (Lib.ownsRowF_kind (hown.alloc _))).setCell ⟨b, 1, none⟩ rfl _⟩
  · have e : ((bs.length : Int) + ((Lib.runeCells r).length : Int) - (bs.length : Int)) = ((Lib.runeCells r).length : Int) := by omega
    simp [e]
  · exact Lib.BuilderAtF.put (T := 49) (e := 5) hB hb2 (bs' := bs ++ Lib.runeCells r) (by simpa using hown') (by decide)
  · exact ((hb1.alloc (by have := hb1.size; omega) _).grown hgrow (by have := hb1.size; simp; omega) (fun k hk => (hown.lt k hk).1)).setCell (p := ⟨b, 1, none⟩) hB _
end Go.Proofs.YtfglhnnbfmpfeaaDoor.U
/- glob.Short: a pattern's short form. -/
set_option linter.unusedVariables false
set_option linter.unusedSimpArgs false
namespace Go.Proofs.YtfglhnnbfmpfeaaDoor.U
open Go.RowKit Go.Proofs Go.Lib Go.Proofs.YtfglhnnbfmpfeaaDoorW.PrintWords

/-- The short form, letter by letter; st: a star waits. -/
def sh : List Nat → Bool → List Nat
  | [], st => if st then [42] else []
  | c :: t, st => if c = 42 then sh t true else if c = 63 then 63 :: sh t st else (if st then [42] else []) ++ c :: sh t false
def shortOf (l : List UInt8) : List UInt8 := (sh (letters l) false).flatMap enc
theorem enc_star : enc 42 = [42] ∧ enc 63 = [63] := by decide
theorem sh_len : ∀ (ns : List Nat) (st : Bool), ((sh ns st).flatMap enc).length ≤ (ns.flatMap enc).length + (if st then 1 else 0) := by
  intro ns
  induction ns with
  | nil => intro st; cases st <;> simp [sh, enc_star.1]
  | cons c t ih =>
    intro st
    rw [sh, List.flatMap_cons, List.length_append]
    split
    · rename_i h
      subst h
      have := ih true
      rw [enc_star.1]
      simp only [if_true, List.length_cons, List.length_nil] at this ⊢
      omega
    · split
      · rename_i h
        subst h
        have := ih st
        rw [List.flatMap_cons, List.length_append, enc_star.2]
        simp only [List.length_cons, List.length_nil]
        omega
      · have := ih false
        rw [List.flatMap_append, List.length_append, List.flatMap_cons, List.length_append]
        have e : ((if st then [42] else []).flatMap enc).length = if st then 1 else 0 := by cases st <;> simp [enc_star.1]
        rw [e]
        simp only [Bool.false_eq_true, if_false] at this
        omega
def starS (st : Bool) : ByteArray := if st then ⟨#[42]⟩ else ⟨#[]⟩
theorem star_cells (st : Bool) : Lib.strCells (starS st) = Lib.byteCells ((if st then [42] else []).flatMap enc) := by
  cases st <;> rfl
theorem byteCells_append' (a b : List UInt8) : Lib.byteCells (a ++ b) = Lib.byteCells a ++ Lib.byteCells b := Lib.byteCells_append a b

theorem encode_letter (n : Nat) (h : IsLetter n) : Lib.runeCells (n : Int) = Lib.byteCells (enc n) := by
  unfold IsLetter at h
  unfold Lib.runeCells Lib.byteCells enc
  by_cases h1 : n < 128
  · rw [if_pos h1, Lib.encodeRuneZ_one (by omega) (by omega)]
    simp
    omega
  · by_cases h2 : n < 2048
    · rw [if_neg h1, if_pos h2, Lib.encodeRuneZ_two (by omega) (by omega)]
      simp
      omega
    · by_cases h3 : n < 65536
      · rw [if_neg h1, if_neg h2, if_pos h3, Lib.encodeRuneZ_three (by omega)]
        simp
        omega
      · rw [if_neg h1, if_neg h2, if_neg h3, if_pos (by omega), Lib.encodeRuneZ_four (by omega) (by omega)]
        simp
        omega
theorem enc_len' (n : Nat) : (enc n).length ≤ 4 := by
  unfold enc
  repeat' split
  all_goals simp only [List.length_cons, List.length_nil]
  all_goals omega
/-- What the loop holds. -/
def ShAt (s : ByteArray) (b : Nat) (w : World) (tot : List UInt8) (pos : Nat) (st : Bool) (done : List UInt8) (wr : World) : Prop :=
  wr.heap[b + 1]? = some (.stringIter s pos) ∧ Lib.IsBuilderF 49 5 b b (Lib.byteCells done) wr ∧ Below b w wr ∧ valid (s.data.toList.drop pos) = true ∧ done ++ (sh (letters (s.data.toList.drop pos)) st).flatMap enc = tot

set_option maxHeartbeats 8000000 in
set_option maxRecDepth 1000000 in
theorem Short_calls (s : ByteArray) (w : World) (hs : s.size ≤ 17592186044416) (hT : Tabs w) :
    Calls Tryd.prog 18 #[.string s] w fun e w' => e = .returned (.tuple #[.string (if askE s.data.toList [] = 0 then ⟨(shortOf s.data.toList).toArray⟩ else ⟨#[]⟩), .int .i64 (askE s.data.toList [])]) ∧ Below w.heap.size w w' := by
  have cA := asked_calls s ⟨#[]⟩ w hs (by decide) hT
  unfold AskDone at cA
  rw [show (⟨#[]⟩ : ByteArray).data.toList = [] from rfl] at cA
  have hE : askE s.data.toList [] = 0 → valid s.data.toList = true := by
    intro h
    unfold askE at h
    split at h
    · rename_i hv; exact hv.1
    · cases h
  obtain ⟨tot, htot⟩ : ∃ tot, shortOf s.data.toList = tot := ⟨_, rfl⟩
  have hlen : tot.length ≤ s.size := by
    have := sh_len (letters s.data.toList) false
    rw [enc_letters, ← size_eq] at this
    unfold shortOf at htot
    rw [htot] at this
    simpa using this
  rw [htot]
  generalize askE s.data.toList [] = E at *
  obtain ⟨r, hr⟩ : ∃ r : ByteArray, (if E = 0 then (⟨tot.toArray⟩ : ByteArray) else ⟨#[]⟩) = r := ⟨_, rfl⟩
  rw [hr]
  have CA := Lib.hid cA
  have HTOT := Lib.hid htot
  clear cA hT htot
  go_enter Tryd.func18, Tryd.ntmps18
  go_wp2_with fail
  refine (CA.out).mono ?_
  rintro e w1 ⟨vP, vT, rfl, hb1, ⟨⟨A1, n1, c1, rfl⟩, A2, n2, c2, rfl⟩, _⟩
  have B1 := Lib.hid hb1
  clear hb1 CA
  by_cases h0 : E = 0
  · have HV := Lib.hid (hE h0)
    subst h0
    rw [if_pos rfl] at hr
    have HR := Lib.hid hr
    clear hE hr
    go_wp2
    go_loopw [8] (fun star wr => ∃ pos st done, star = .string (starS st) ∧ ShAt s w1.heap.size w1 tot pos st done wr) (fun _ wr => s.size - wr.iterPos (w1.heap.size + 1))
    case atStart =>
      refine ⟨0, false, [], rfl, ?_, ?_, ?_, HV.out, by rw [List.drop_zero]; exact HTOT.out⟩
      · have := World.iter_heap (w1.alloc (.cells #[.pointer none, .slice none 0 0] 49)) s 0
        simpa using this
      · exact (Lib.IsBuilderF.of (Lib.fresh_isBuilder 49 5 w1)).alloc _
      · exact ((Below.refl _ w1).alloc (Nat.le_refl _) _).alloc (by simp) _
    case round =>
      obtain ⟨pos, st, done, rfl, hit, hI, hbw, hv, hk⟩ := hrel
      have hsz : w1.heap.size + 1 < wr.heap.size := (Array.getElem?_eq_some_iff.1 hit).1
      have hdl : done.length ≤ s.size := by
        have := congrArg List.length hk
        rw [List.length_append] at this
        omega
      by_cases hp : pos < s.size
      · obtain ⟨r, wd, hde, hdd, hwd, hd1, hne⟩ := next_facts s pos hp
        have hnx := next_run (P := Tryd.prog) hde hp wr (w1.heap.size + 1) hit
        obtain ⟨_, hv', hl⟩ := units_step hdd hne hv
        have hrl : IsLetter r := (valid_iff _).1 hv r (by rw [hl]; exact List.mem_cons_self)
        have hit2 := Lib.iterAt_heap wr (w1.heap.size + 1) s pos (pos + wd) hit
        have hI2 := hI.iterAt hit (pos + wd)
        have hb2 := Lib.below_iterAt hbw (k := w1.heap.size + 1) (by omega) s (pos + wd)
        rw [hl, sh] at hk
        have HIT := Lib.hid hit
        have H2 := Lib.hid hit2
        have HI := Lib.hid hI2
        have HB := Lib.hid hb2
        have HV' := Lib.hid hv'
        have hbl : (Lib.byteCells done).length = done.length := Lib.byteCells_length _
        have HBL := Lib.hid hbl
        have hz2 : w1.heap.size ≤ (wr.iterAt (w1.heap.size + 1) s (pos + wd)).heap.size := by rw [Lib.iterAt_size]; omega
        have HZ := Lib.hid hz2
        clear hit hit2 hI hI2 hb2 hbw hv hv' hl hde hdd hne hbl hz2
        by_cases h42 : r = 42
        · subst h42
          rw [if_pos rfl] at hk
          have HK := Lib.hid hk
          clear hk
          go_wp2
          go_roundw
          case rel => exact ⟨pos + wd, true, done, rfl, H2.out, HI.out, HB.out, HV'.out, HK.out⟩
          case measure =>
            have e1 := HIT.out
            have e2 := H2.out
            simp only [World.iterPos, e1, e2]
            omega
        · rw [if_neg h42] at hk
          have n42 : ((r : Int) == 42) = false := by simp; omega
          by_cases h63 : r = 63
          · subst h63
            rw [if_pos rfl, List.flatMap_cons, enc_star.2, ← List.append_assoc] at hk
            have HK := Lib.hid hk
            clear hk
            go_wp2_with fail
            refine (WriteByte_k w1.heap.size w1.heap.size _ 63 _ HI.out (by rw [HBL.out]; omega) HZ.out).mono ?_
            rintro e w3 ⟨rfl, hB3, hb3, hk3⟩
            have hI3 : Lib.IsBuilderF 49 5 w1.heap.size w1.heap.size (Lib.byteCells (done ++ [63])) w3 := by
              rw [Lib.byteCells_append]
              exact Or.inr hB3
            have H3 := Lib.hid (hk3.iter H2.out (by omega))
            have HI3 := Lib.hid hI3
            have HB3 := Lib.hid (HB.out.trans hb3)
            clear hB3 hb3 hk3 hI3
            go_wp2
            go_roundw
            case rel => exact ⟨pos + wd, st, done ++ [63], rfl, H3.out, HI3.out, HB3.out, HV'.out, HK.out⟩
            case measure =>
              have e1 := HIT.out
              have e2 := H3.out
              simp only [World.iterPos, e1, e2]
              omega
          · rw [if_neg h63, List.flatMap_append, List.flatMap_cons, ← List.append_assoc, ← List.append_assoc] at hk
            have n63 : ((r : Int) == 63) = false := by simp; omega
            have HK := Lib.hid hk
            have hrc := encode_letter r hrl
            have hre := enc_len' r
            have HRC := Lib.hid hrc
            have hss : (starS st).size ≤ 1 := by cases st <;> decide
            have hsl : ((if st then [42] else []).flatMap enc : List UInt8).length ≤ 1 := by cases st <;> decide
            clear hk hrc
            go_wp2_with fail
            refine (WriteString_k w1.heap.size w1.heap.size _ (starS st) _ HI.out (by rw [HBL.out]; omega) HZ.out).mono ?_
            rintro e w3 ⟨rfl, hB3, hb3, hk3⟩
            have hI3 : Lib.IsBuilderF 49 5 w1.heap.size w1.heap.size (Lib.byteCells (done ++ (if st then [42] else []).flatMap enc)) w3 := by
              rw [Lib.byteCells_append, ← star_cells]
              exact Or.inr hB3
            have H3 := Lib.hid (hk3.iter H2.out (by omega))
            have HI3 := Lib.hid hI3
            have HB3 := Lib.hid (HB.out.trans hb3)
            have HZ3 := Lib.hid (Nat.le_trans HZ.out hb3.size)
            clear hB3 hb3 hk3 hI3
            go_wp2_with fail
            refine (WriteRune_k w1.heap.size w1.heap.size _ (r : Int) (by omega) (by omega) _ HI3.out (by rw [Lib.byteCells_length, List.length_append]; omega) HZ3.out).mono ?_
            rintro e w4 ⟨rfl, hB4, hb4, hk4⟩
            have hI4 : Lib.IsBuilderF 49 5 w1.heap.size w1.heap.size (Lib.byteCells (done ++ (if st then [42] else []).flatMap enc ++ enc r)) w4 := by
              rw [Lib.byteCells_append, ← HRC.out]
              exact Or.inr hB4
            have H4 := Lib.hid (hk4.iter H3.out (by omega))
            have HI4 := Lib.hid hI4
            have HB4 := Lib.hid (HB3.out.trans hb4)
            clear hB4 hb4 hk4 hI4
            go_wp2
            go_roundw
            case rel => exact ⟨pos + wd, false, _, rfl, H4.out, HI4.out, HB4.out, HV'.out, HK.out⟩
            case measure =>
              have e1 := HIT.out
              have e2 := H4.out
              simp only [World.iterPos, e1, e2]
              omega
      · have hnx : ∀ ty, (Instr.next (.pointer (some ⟨w1.heap.size + 1, 0, none⟩)) true ty).run Tryd.prog wr = _ := fun ty => Lib.run_next_end_at wr (w1.heap.size + 1) s pos ty hit hp
        have he : s.data.toList.drop pos = [] := List.drop_eq_nil_of_le (by rw [← size_eq]; omega)
        rw [he, letters_nil, sh] at hk
        have hfin : (⟨done.toArray⟩ : ByteArray) ++ starS st = ⟨tot.toArray⟩ := by
          rw [← hk]
          apply ByteArray.ext
          apply Array.toList_inj.1
          cases st <;> simp [starS, enc_star.1]
        have HF := Lib.hid hfin
        have HI := Lib.hid hI
        have HB := Lib.hid hbw
        have hz : w1.heap.size ≤ wr.heap.size := by omega
        have z1 : (⟨done.toArray⟩ : ByteArray).size ≤ s.size := by rw [size_eq, List.toList_toArray]; exact hdl
        have z2 : (starS st).size ≤ 1 := by cases st <;> decide
        clear hk he hit hI hbw hv hfin
        go_wp2_with fail
        refine (Tryd.Builder_String_any_k w1.heap.size w1.heap.size _ _ HI.out hz).mono ?_
        rintro e W1 ⟨rfl, _, b1, _⟩
        have HB2 := Lib.hid (B1.out.trans ((HB.out.trans b1).mono B1.out.size))
        clear b1 HI HB
        go_wp2
        go_ret2
        exact ⟨by rw [← HR.out, ← HF.out]; rfl, HB2.out⟩
  · rw [if_neg h0] at hr
    subst hr
    have d0 : (E == 0) = false := by simp [h0]
    clear hE
    go_wp2
    go_ret2
    exact ⟨rfl, B1.out⟩
end Go.Proofs.YtfglhnnbfmpfeaaDoor.U
/- The short form of a pattern, in plain words: it fits what the pattern fits, is its own short form, and not longer. -/
set_option linter.unusedVariables false
set_option linter.unusedSimpArgs false
namespace Go.Proofs.YtfglhnnbfmpfeaaDoor.U
open Go.RowKit Go.Proofs Go.Lib

theorem sh_is : ∀ (ns : List Nat) (st : Bool), (∀ n ∈ ns, IsLetter n) → ∀ n ∈ sh ns st, IsLetter n := by
  intro ns
  induction ns with
  | nil =>
    intro st _ n hn
    cases st with
    | false => cases hn
    | true =>
      rw [List.mem_singleton.1 hn]
      exact .inl (by decide)
  | cons c t ih =>
    intro st h n hn
    have ht := fun x hx => h x (List.mem_cons_of_mem _ hx)
    rw [sh] at hn
    split at hn
    · exact ih true ht n hn
    · split at hn
      · rcases List.mem_cons.1 hn with rfl | hn
        · exact .inl (by decide)
        · exact ih st ht n hn
      · rcases List.mem_append.1 hn with hn | hn
        · cases st with
          | false => cases hn
          | true =>
            rw [List.mem_singleton.1 hn]
            exact .inl (by decide)
        · rcases List.mem_cons.1 hn with rfl | hn
          · exact h _ List.mem_cons_self
          · exact ih false ht n hn
theorem sh_sh : ∀ (ns : List Nat) (st b : Bool), sh (sh ns st) b = sh ns (st || b) := by
  intro ns
  induction ns with
  | nil => intro st b; cases st <;> cases b <;> rfl
  | cons c t ih =>
    intro st b
    by_cases h1 : c = 42
    · subst h1
      show sh (sh t true) b = sh t true
      rw [ih, Bool.true_or]
    · by_cases h2 : c = 63
      · subst h2
        show 63 :: sh (sh t st) b = 63 :: sh t (st || b)
        rw [ih]
      · have e : ∀ x, sh (c :: t) x = (if x then [42] else []) ++ c :: sh t false := fun x => by rw [sh, if_neg h1, if_neg h2]
        have e2 : ∀ (u : List Nat) x, sh (c :: u) x = (if x then [42] else []) ++ c :: sh u false := fun u x => by rw [sh, if_neg h1, if_neg h2]
        rw [e, e]
        cases st with
        | false =>
          show sh (c :: sh t false) b = _
          rw [e2, ih, Bool.false_or]
          rfl
        | true =>
          show sh (42 :: c :: sh t false) b = _
          show sh (c :: sh t false) true = _
          rw [e2, ih, Bool.true_or]
          rfl
theorem sh_count : ∀ (ns : List Nat) (st : Bool), (sh ns st).length ≤ ns.length + (if st then 1 else 0) := by
  intro ns
  induction ns with
  | nil => intro st; cases st <;> simp [sh]
  | cons c t ih =>
    intro st
    rw [sh, List.length_cons]
    split
    · have := ih true
      simp only [if_true] at this
      omega
    · split
      · have := ih st
        rw [List.length_cons]
        omega
      · have := ih false
        rw [List.length_append, List.length_cons]
        have e : (if st then [42] else ([] : List Nat)).length = if st then 1 else 0 := by cases st <;> rfl
        rw [e]
        simp only [Bool.false_eq_true, if_false] at this
        omega
/-! ### What a pattern fits -/
theorem mt_star_star (p t : List Int) : mt (42 :: 42 :: p) t = mt (42 :: p) t := by
  rw [Bool.eq_iff_iff, mt_star_iff, mt_star_iff]
  constructor
  · rintro ⟨A, B, rfl, h⟩
    obtain ⟨C, D, rfl, h2⟩ := (mt_star_iff _ _).1 h
    exact ⟨A ++ C, D, by rw [List.append_assoc], h2⟩
  · rintro ⟨A, B, rfl, h⟩
    exact ⟨A, B, rfl, (mt_star_iff _ _).2 ⟨[], B, rfl, h⟩⟩
theorem mt_mark (p t : List Int) : mt (63 :: p) t = true ↔ ∃ x B, t = x :: B ∧ mt p B = true := by
  cases t with
  | nil =>
    rw [mt_one_nil (by decide)]
    constructor
    · intro h; cases h
    · rintro ⟨x, B, e, _⟩; cases e
  | cons x t =>
    rw [mt_one (by decide), show okc 63 x = true from by unfold okc; simp, Bool.true_and]
    constructor
    · intro h; exact ⟨x, t, rfl, h⟩
    · rintro ⟨y, B, e, h⟩
      injection e with e1 e2
      subst e2
      exact h
theorem mt_swap (p t : List Int) : mt (63 :: 42 :: p) t = mt (42 :: 63 :: p) t := by
  rw [Bool.eq_iff_iff, mt_mark, mt_star_iff]
  constructor
  · rintro ⟨x, B, rfl, h⟩
    obtain ⟨C, D, rfl, h2⟩ := (mt_star_iff _ _).1 h
    rcases List.eq_nil_or_concat C with rfl | ⟨C', y, rfl⟩
    · exact ⟨[], x :: D, rfl, (mt_mark _ _).2 ⟨x, D, rfl, h2⟩⟩
    · exact ⟨x :: C', y :: D, by simp, (mt_mark _ _).2 ⟨y, D, rfl, h2⟩⟩
  · rintro ⟨A, B, rfl, h⟩
    obtain ⟨x, D, rfl, h2⟩ := (mt_mark _ _).1 h
    cases A with
    | nil => exact ⟨x, D, rfl, (mt_star_iff _ _).2 ⟨[], D, rfl, h2⟩⟩
    | cons a A => exact ⟨a, A ++ x :: D, rfl, (mt_star_iff _ _).2 ⟨A ++ [x], D, by simp, h2⟩⟩
theorem mt_cong (a X Y : List Int) (h : ∀ t, mt X t = mt Y t) (t : List Int) : mt (a ++ X) t = mt (a ++ Y) t := by
  rw [Bool.eq_iff_iff, mt_append, mt_append]
  constructor
  · rintro ⟨A, B, e, h1, h2⟩; exact ⟨A, B, e, h1, by rw [← h B]; exact h2⟩
  · rintro ⟨A, B, e, h1, h2⟩; exact ⟨A, B, e, h1, by rw [h B]; exact h2⟩
def fI (n : Nat) : Int := ((foldN n : Nat) : Int)
theorem mt_sh : ∀ (ns : List Nat) (st : Bool) (t : List Int), mt ((sh ns st).map fI) t = mt ((if st then [42] else []) ++ ns.map fI) t := by
  have f42 : fI 42 = 42 := by decide
  have f63 : fI 63 = 63 := by decide
  intro ns
  induction ns with
  | nil =>
    intro st t
    cases st with
    | false => rfl
    | true =>
      show mt [fI 42] t = mt [42] t
      rw [f42]
  | cons c u ih =>
    intro st t
    by_cases h1 : c = 42
    · subst h1
      show mt ((sh u true).map fI) t = mt ((if st then [42] else []) ++ fI 42 :: u.map fI) t
      rw [ih true, f42]
      cases st with
      | false => rfl
      | true => exact (mt_star_star _ _).symm
    · by_cases h2 : c = 63
      · subst h2
        show mt (fI 63 :: (sh u st).map fI) t = mt ((if st then [42] else []) ++ fI 63 :: u.map fI) t
        rw [f63]
        refine (mt_cong [63] _ _ (ih st) t).trans ?_
        cases st with
        | false => rfl
        | true => exact mt_swap _ _
      · rw [sh, if_neg h1, if_neg h2, List.map_append, List.map_cons, List.map_cons]
        have e : (if st then [42] else ([] : List Nat)).map fI = if st then [42] else [] := by
          cases st with
          | false => rfl
          | true => show [fI 42] = [42]; rw [f42]
        rw [e]
        have := mt_cong ((if st then [42] else []) ++ [fI c]) _ _ (ih false) t
        rw [List.append_assoc, List.append_assoc] at this
        exact this
/-! ### The short form -/
theorem letters_short {l : List UInt8} (h : valid l = true) : letters (shortOf l) = sh (letters l) false :=
  letters_of_enc _ (sh_is _ _ ((valid_iff l).1 h))
theorem valid_short {l : List UInt8} (h : valid l = true) : valid (shortOf l) = true := by
  rw [valid_iff, letters_short h]
  exact sh_is _ _ ((valid_iff l).1 h)
theorem short_short {l : List UInt8} (h : valid l = true) : shortOf (shortOf l) = shortOf l := by
  show (sh (letters (shortOf l)) false).flatMap enc = _
  rw [letters_short h, sh_sh]
  rfl
theorem short_size (l : List UInt8) : (shortOf l).length ≤ l.length := by
  have := sh_len (letters l) false
  rw [enc_letters] at this
  exact this
theorem fnums_fI (l : List UInt8) : fnums l = (letters l).map fI := by
  unfold fnums flet fI
  rw [List.map_map]
  rfl
theorem short_table (p s : List UInt8) :
    (askE p [] = 3) ∨ (askE p [] = 5) ∨ (askE p [] = 0 ∧ shortB s 256 = false) ∨
    (askE p [] = 0 ∧ shortB s 256 = true ∧ askE (shortOf p) [] = 0 ∧ shortOf (shortOf p) = shortOf p ∧ askE p s = 0 ∧ askE (shortOf p) s = 0 ∧ fitB (shortOf p) s = fitB p s) := by
  have hn : valid [] = true ∧ (fnums []).length = 0 := by decide +kernel
  by_cases hv : valid p = true
  · by_cases hl : (fnums p).length ≤ 64
    · have sp : shortB p 64 = true := (short_iff _ _).2 ⟨hv, hl⟩
      have sq : shortB (shortOf p) 64 = true := by
        refine (short_iff _ _).2 ⟨valid_short hv, ?_⟩
        rw [fnums_length, letters_short hv]
        have := sh_count (letters p) false
        rw [fnums_length] at hl
        simp only [Bool.false_eq_true, if_false] at this
        omega
      have se : shortB [] 256 = true := (short_iff _ _).2 ⟨hn.1, by rw [hn.2]; omega⟩
      right; right
      cases hs : shortB s 256 with
      | false => exact .inl ⟨(ask_short sp se).1, rfl⟩
      | true =>
        right
        refine ⟨(ask_short sp se).1, rfl, (ask_short sq se).1, short_short hv, (ask_short sp hs).1, (ask_short sq hs).1, ?_⟩
        rw [(ask_short sp hs).2, (ask_short sq hs).2, fnums_fI, fnums_fI p, letters_short hv]
        exact mt_sh _ _ _
    · left
      unfold askE
      rw [if_pos ⟨hv, hn.1⟩, if_pos (.inl (by omega))]
  · right; left
    unfold askE
    rw [if_neg (fun h => hv h.1)]
end Go.Proofs.YtfglhnnbfmpfeaaDoor.U
/- The short form, byte by byte: the same. -/
set_option linter.unusedVariables false
set_option linter.unusedSimpArgs false
namespace Go.Proofs.YtfglhnnbfmpfeaaDoor.U
open Go.RowKit Go.Proofs Go.Lib

def shB : List UInt8 → Bool → List UInt8
  | [], st => if st then [42] else []
  | b :: t, st => if b = 42 then shB t true else if b = 63 then 63 :: shB t st else (if st then [42] else []) ++ b :: shB t false
theorem shB_plain : ∀ (e u : List UInt8), (∀ b ∈ e, b ≠ 42 ∧ b ≠ 63) → shB (e ++ u) false = e ++ shB u false := by
  intro e
  induction e with
  | nil => intro u _; rfl
  | cons b e ih =>
    intro u h
    have hb := h b List.mem_cons_self
    rw [List.cons_append, shB, if_neg hb.1, if_neg hb.2, ih u fun c hc => h c (List.mem_cons_of_mem _ hc)]
    rfl
theorem shB_more (e u : List UInt8) (st : Bool) (hne : e ≠ []) (h : ∀ b ∈ e, b ≠ 42 ∧ b ≠ 63) : shB (e ++ u) st = (if st then [42] else []) ++ e ++ shB u false := by
  cases e with
  | nil => exact absurd rfl hne
  | cons b e =>
    have hb := h b List.mem_cons_self
    rw [List.cons_append, shB, if_neg hb.1, if_neg hb.2, shB_plain e u fun c hc => h c (List.mem_cons_of_mem _ hc)]
    simp
theorem enc_not (n : Nat) (h1 : n ≠ 42) (h2 : n ≠ 63) (hn : IsLetter n) : ∀ b ∈ enc n, b ≠ 42 ∧ b ≠ 63 := by
  have key : ∀ k : Nat, k < 256 → k ≠ 42 → k ≠ 63 → UInt8.ofNat k ≠ 42 ∧ UInt8.ofNat k ≠ 63 := by
    intro k hk a b
    constructor
    · intro e
      have := congrArg UInt8.toNat e
      rw [UInt8.toNat_ofNat'] at this
      rw [Nat.mod_eq_of_lt hk] at this
      exact a this
    · intro e
      have := congrArg UInt8.toNat e
      rw [UInt8.toNat_ofNat'] at this
      rw [Nat.mod_eq_of_lt hk] at this
      exact b this
  unfold IsLetter at hn
  intro b hb
  unfold enc at hb
  split at hb
  · rw [List.mem_singleton.1 hb]
    exact key _ (by omega) h1 h2
  · split at hb
    · simp only [List.mem_cons, List.not_mem_nil, or_false] at hb
      rcases hb with rfl | rfl <;> exact key _ (by omega) (by omega) (by omega)
    · split at hb
      · simp only [List.mem_cons, List.not_mem_nil, or_false] at hb
        rcases hb with rfl | rfl | rfl <;> exact key _ (by omega) (by omega) (by omega)
      · split at hb
        · simp only [List.mem_cons, List.not_mem_nil, or_false] at hb
          rcases hb with rfl | rfl | rfl | rfl <;> exact key _ (by omega) (by omega) (by omega)
        · omega
theorem shB_enc : ∀ (ns : List Nat) (st : Bool), (∀ n ∈ ns, IsLetter n) → shB (ns.flatMap enc) st = (sh ns st).flatMap enc := by
  intro ns
  induction ns with
  | nil => intro st _; cases st <;> simp [shB, sh, enc_star.1]
  | cons c t ih =>
    intro st h
    have ht := fun x hx => h x (List.mem_cons_of_mem _ hx)
    rw [List.flatMap_cons, sh]
    split
    · rename_i h1
      subst h1
      rw [enc_star.1]
      show shB (42 :: t.flatMap enc) st = _
      rw [shB, if_pos rfl, ih true ht]
    · rename_i h1
      split
      · rename_i h2
        subst h2
        rw [enc_star.2, List.flatMap_cons, enc_star.2]
        show shB (63 :: t.flatMap enc) st = 63 :: _
        rw [shB, if_neg (by decide), if_pos rfl, ih st ht]
        rfl
      · rename_i h2
        rw [shB_more _ _ _ (enc_ne c) (enc_not c h1 h2 (h c List.mem_cons_self)), ih false ht, List.flatMap_append, List.flatMap_cons, ← List.append_assoc]
        congr 2
        cases st <;> simp [enc_star.1]
theorem shB_short {l : List UInt8} (h : valid l = true) : shB l false = shortOf l := by
  have := shB_enc (letters l) false ((valid_iff l).1 h)
  rw [enc_letters] at this
  exact this
/-- Plain: byte by byte. -/
def plainB (l : List UInt8) : Bool := l.all fun b => decide (b ≠ 42) && decide (b ≠ 63)
theorem plain_enc : ∀ (ns : List Nat), (∀ n ∈ ns, IsLetter n) → (plainB (ns.flatMap enc) = true ↔ ∀ n ∈ ns, n ≠ 42 ∧ n ≠ 63) := by
  intro ns
  induction ns with
  | nil => intro _; exact ⟨fun _ n hn => (by cases hn), fun _ => rfl⟩
  | cons c t ih =>
    intro h
    have ht := fun x hx => h x (List.mem_cons_of_mem _ hx)
    have e : plainB ((c :: t).flatMap enc) = (plainB (enc c) && plainB (t.flatMap enc)) := by unfold plainB; rw [List.flatMap_cons, List.all_append]
    rw [e, Bool.and_eq_true, ih ht]
    constructor
    · rintro ⟨h1, h2⟩ n hn
      rcases List.mem_cons.1 hn with rfl | hn
      · constructor
        · rintro rfl; rw [enc_star.1] at h1; cases h1
        · rintro rfl; rw [enc_star.2] at h1; cases h1
      · exact h2 n hn
    · intro hh
      have hc := hh c List.mem_cons_self
      refine ⟨?_, fun n hn => hh n (List.mem_cons_of_mem _ hn)⟩
      unfold plainB
      rw [List.all_eq_true]
      intro b hb
      have := enc_not c hc.1 hc.2 (h c List.mem_cons_self) b hb
      rw [Bool.and_eq_true, decide_eq_true_eq, decide_eq_true_eq]
      exact this
theorem plain_letters {l : List UInt8} (h : valid l = true) : plainB l = true ↔ ∀ n ∈ letters l, n ≠ 42 ∧ n ≠ 63 := by
  have := plain_enc (letters l) ((valid_iff l).1 h)
  rw [enc_letters] at this
  exact this
end Go.Proofs.YtfglhnnbfmpfeaaDoor.U
/- strings.ContainsAny(s, "*?") at any text s. -/
set_option linter.unusedVariables false
set_option linter.unusedSimpArgs false
namespace Go.Proofs.YtfglhnnbfmpfeaaDoor.U
open Go.RowKit Go.Proofs Go.Lib Go.Proofs.YtfglhnnbfmpfeaaDoorW.PrintWords

theorem utf8_valid {n : Nat} (h : IsLetter n) : Utf8.valid (n : Int) = true := by
  unfold IsLetter at h
  unfold Utf8.valid
  simp
  omega
set_option maxHeartbeats 2000000 in
set_option maxRecDepth 100000 in
theorem ValidRune_calls (n : Nat) (w : World) (h : IsLetter n) :
    Calls Tryd.prog 53 #[.int .i32 n] w fun e w' => e = .returned (.bool true) ∧ w' = w := by
  unfold IsLetter at h
  by_cases h1 : n < 55296
  · have d1 : decide ((n : Int) < 55296) = true := by simp; omega
    have d0 : decide (0 ≤ (n : Int)) = true := by simp
    go_enter Tryd.func53, Tryd.ntmps53
    go_wp2
    go_ret
    exact ⟨rfl, rfl⟩
  · have d1 : decide ((n : Int) < 55296) = false := by simp; omega
    have d0 : decide (0 ≤ (n : Int)) = true := by simp
    have d2 : decide (57343 < (n : Int)) = true := by simp; omega
    have d3 : decide ((n : Int) ≤ 1114111) = true := by simp; omega
    go_enter Tryd.func53, Tryd.ntmps53
    go_wp2
    go_ret
    exact ⟨rfl, rfl⟩
set_option maxHeartbeats 4000000 in
set_option maxRecDepth 1000000 in
theorem IndexRune_none (n : Nat) (w : World) (h : IsLetter n) (h128 : 128 ≤ n) :
    Calls Tryd.prog 46 #[.string ⟨#[42, 63]⟩, .int .i32 n] w fun e w' => e = .returned (.int .i64 (-1)) ∧ Below w.heap.size w w' := by
  have cV := ValidRune_calls n w h
  obtain ⟨z1, z2, z3⟩ := encode_facts (n : Int) (utf8_valid h) (by omega)
  have hle : n ≤ 1114111 := by unfold IsLetter at h; omega
  obtain ⟨R, hR⟩ : ∃ R, Utf8.encode (n : Int) = R := ⟨_, rfl⟩
  rw [hR] at z1 z2 z3
  have HR := Lib.hid hR
  have CV := Lib.hid cV
  clear hR cV h
  have e0 : decide (0 ≤ (n : Int)) = true := by simp
  have e1 : decide ((n : Int) < 128) = false := by simp; omega
  by_cases hF : n = 65533
  · subst hF
    go_enter Tryd.func46, Tryd.ntmps46
    go_wp2
    go_loopg [5, 6] 2 (fun g _ _ wx => ∃ i : Nat, i + g = 2 ∧ wx = w.iter ⟨#[42, 63]⟩ i)
    case atStart => exact ⟨0, rfl, rfl⟩
    case round =>
      obtain ⟨i, hig, rfl⟩ := hrel
      cases gk with
      | zero =>
        obtain rfl : i = 2 := by omega
        have hnx := run_next_end (P := Tryd.prog) w ⟨#[42, 63]⟩ 2
        go_wp2
        go_ret
        exact ⟨rfl, (Below.refl _ _).alloc (Nat.le_refl _) _⟩
      | succ g =>
        rcases (show i = 0 ∨ i = 1 by omega) with rfl | rfl
        · have hnx := fun ty => run_next_ascii (P := Tryd.prog) w ⟨#[42, 63]⟩ 0 ty (by decide) (by decide)
          go_wp2
          go_roundg g
          case measure => omega
          case rel => exact ⟨1, by omega, rfl⟩
        · have hnx := fun ty => run_next_ascii (P := Tryd.prog) w ⟨#[42, 63]⟩ 1 ty (by decide) (by decide)
          go_wp2
          go_roundg g
          case measure => omega
          case rel => exact ⟨2, by omega, rfl⟩
  · have e2 : ((n : Int) == 65533) = false := by simp; omega
    go_enter Tryd.func46, Tryd.ntmps46
    go_wp2_with fail
    refine (CV.out).mono ?_
    rintro e w1 ⟨rfl, rfl⟩
    go_wp2_with fail
    go_step3
    have hR' := HR.out
    go_wp2_with fail
    clear hR'
    go_loopw [9, 10] (fun i f wr => i = .int .i64 ((R.size : Int) - 1) ∧ f = .int .i64 0 ∧ wr = w1) (fun _ _ _ => 0)
    case atStart => exact ⟨rfl, rfl, rfl⟩
    case round =>
      obtain ⟨rfl, rfl, rfl⟩ := hrel
      by_cases h2 : R.size = 2
      · have hz : (R.size : Int) - 1 = 1 := by omega
        have h1 : (1 : Nat) < R.size := by omega
        have hb : ((63 : Int) != ((R[1]'h1).toNat : Int)) = true := by
          have z := z3 (by omega)
          have e : R.size - 1 = 1 := by omega
          simp only [e] at z
          simp
          omega
        have hsl : (⟨#[42, 63]⟩ : ByteArray).extract 2 2 = ⟨#[]⟩ := by decide
        have i1 : ∀ W : World, (Instr.index 9 (.string ⟨#[42, 63]⟩) (.int .i64 1)).run Tryd.prog W = .ok (.int .u8 63) W := by
          intro W
          rw [run_index_string _ _ _ _ _ Tryd.underlying9]
          rfl
        have i2 : ∀ W : World, (Instr.index 9 (.string R) (.int .i64 1)).run Tryd.prog W = .ok (.int .u8 ((R[1]'h1).toNat : Int)) W := by
          intro W
          rw [run_index_string _ _ _ _ _ Tryd.underlying9]
          rw [dif_pos ⟨by omega, by omega⟩]
          rfl
        have i3 : ∀ W : World, (Instr.slice 9 (.string ⟨#[42, 63]⟩) (some (.int .i64 2)) none none).run Tryd.prog W = .ok (.string ⟨#[]⟩) W := by
          intro W
          rw [run_slice_string_from_if _ _ _ _ _ Tryd.underlying9]
          rfl
        have c52 : ∀ W : World, Calls Tryd.prog 52 #[.string ⟨#[]⟩, .int .u8 ((R[1]'h1).toNat : Int)] W fun e w' => e = .returned (.int .i64 (-1)) ∧ ∃ nd, w' = W.drewN nd :=
          fun W => (Tryd.strings_IndexByte ⟨#[]⟩ _ W).mono fun e w' ⟨he, hw⟩ => ⟨he, 0, hw⟩
        have hw2 : IntKind.i64.wrap 2 = 2 := by decide
        rw [hz]
        go_wp2_with fail
        go_step3
        go_wp2_with fail
        go_quiet (fail)
        go_wp2_with fail
        go_quiet (first | (go_at_call 52; (with_reducible refine (c52 _).mono ?_); rintro e w' ⟨rfl, ⟨nd, rfl⟩⟩; (try first | exact ⟨rfl, _, World.drewN_drewN _ _ _⟩ | exact ⟨rfl, _, Eq.trans (World.drewN_drewN _ _ _) (congrArg (World.drewN _) (Nat.add_assoc _ _ _))⟩)))
        have hm1 : Lib.indexByte [] ((R[1]'h1).toNat : Int).toNat.toUInt8 = -1 := rfl
        go_wp2_with fail
        change bodyPost Tryd.prog Tryd.f46 (fun e w' => e = .returned (.int .i64 (-1)) ∧ Below wr.heap.size wr w') Exit.ret _ _
        go_ret
        exact ⟨rfl, pw_below_drewN (Below.refl _ _) _⟩
      · have d : decide ((R.size : Int) - 1 < 2) = false := by simp; omega
        go_wp2_with fail
        try rw [Exit.noGoto_ret]
        go_ret
        exact ⟨rfl, Below.refl _ _⟩
/-! ### Plain -/
theorem plain_step {s : ByteArray} {pos r wd : Nat} (hd : decodeL (s.data.toList.drop pos) = (r, wd)) (hne : s.data.toList.drop pos ≠ []) (hv : valid (s.data.toList.drop pos) = true) :
    plainB (s.data.toList.drop pos) = (decide (r ≠ 42) && decide (r ≠ 63) && plainB (s.data.toList.drop (pos + wd))) := by
  obtain ⟨_, hv', hl⟩ := units_step hd hne hv
  rw [Bool.eq_iff_iff, Bool.and_eq_true, Bool.and_eq_true, plain_letters hv, plain_letters hv', hl, decide_eq_true_eq, decide_eq_true_eq]
  constructor
  · intro h
    exact ⟨h r List.mem_cons_self, fun n hn => h n (List.mem_cons_of_mem _ hn)⟩
  · rintro ⟨h1, h2⟩ n hn
    rcases List.mem_cons.1 hn with rfl | hn
    · exact h1
    · exact h2 n hn
theorem plain_any : ∀ l : List UInt8, Lib.containsAny l [42, 63] = !plainB l := by
  have key : ∀ l : List UInt8, Lib.indexAny l [42, 63] = -1 ↔ plainB l = true := by
    intro l
    induction l with
    | nil => exact ⟨fun _ => rfl, fun _ => rfl⟩
    | cons b t ih =>
      have e : plainB (b :: t) = ((decide (b ≠ 42) && decide (b ≠ 63)) && plainB t) := rfl
      have hc : ([42, 63] : List UInt8).contains b = !(decide (b ≠ 42) && decide (b ≠ 63)) := by
        by_cases h1 : b = 42
        · subst h1; rfl
        · by_cases h2 : b = 63
          · subst h2; rfl
          · simp [h1, h2]
      rw [e, Lib.indexAny, hc]
      have hg := Lib.indexAny_ge [42, 63] t
      cases decide (b ≠ 42) && decide (b ≠ 63) with
      | false => simp
      | true =>
        simp only [Bool.not_true, Bool.false_eq_true, if_false, Bool.true_and]
        rw [← ih]
        by_cases h : Lib.indexAny t [42, 63] = -1
        · rw [h]; simp
        · rw [if_neg (by simp; exact h)]
          constructor
          · intro h2; omega
          · intro h2; exact absurd h2 h
  intro l
  unfold Lib.containsAny
  have hg := Lib.indexAny_ge [42, 63] l
  rw [Bool.eq_iff_iff, decide_eq_true_eq, Bool.not_eq_true', ← Bool.not_eq_true, ← key l]
  omega
set_option maxHeartbeats 4000000 in
set_option maxRecDepth 1000000 in
theorem IndexAny_short_any (s : ByteArray) (w : World) (hv : valid s.data.toList = true) (h8 : s.size ≤ 8) :
    Calls Tryd.prog 40 #[.string s, .string ⟨#[42, 63]⟩] w fun e w' => (∃ z : Int, e = .returned (.int .i64 z) ∧ decide (0 ≤ z) = !plainB s.data.toList) ∧ Below w.heap.size w w' := by
  have h8z : decide ((8 : Int) < (s.size : Int)) = false := decide_eq_false (by omega)
  obtain ⟨P, hP⟩ : ∃ P, plainB s.data.toList = P := ⟨_, rfl⟩
  rw [hP]
  have HV := Lib.hid hv
  have HP := Lib.hid hP
  clear hv hP
  go_enter Tryd.func40, Tryd.ntmps40
  go_wp2_with fail
  refine (Any.strings_shouldUseASCIISet Tryd.lays226 _ _).mono ?_
  rintro e w1 ⟨rfl, rfl⟩
  rw [h8z]
  go_wp2
  go_loopw [9, 10] (fun _ _ wr => ∃ pos : Nat, wr.heap[w1.heap.size]? = some (.stringIter s pos) ∧ Below w1.heap.size w1 wr ∧ valid (s.data.toList.drop pos) = true ∧ plainB (s.data.toList.drop pos) = P) (fun _ _ wr => s.size - wr.iterPos w1.heap.size)
  case atStart => exact ⟨0, World.iter_heap w1 s 0, (Below.refl _ w1).alloc (Nat.le_refl _) _, HV.out, HP.out⟩
  case round =>
    obtain ⟨pos, hit, hbw, hv, hk⟩ := hrel
    have hsz : w1.heap.size < wr.heap.size := (Array.getElem?_eq_some_iff.1 hit).1
    by_cases hp : pos < s.size
    · obtain ⟨r, wd, hde, hdd, hwd, hd1, hne⟩ := next_facts s pos hp
      have hnx := next_run (P := Tryd.prog) hde hp wr w1.heap.size hit
      obtain ⟨_, hv', hl⟩ := units_step hdd hne hv
      have hrl : IsLetter r := (valid_iff _).1 hv r (by rw [hl]; exact List.mem_cons_self)
      have hit2 := Lib.iterAt_heap wr w1.heap.size s pos (pos + wd) hit
      have hb2 := Lib.below_iterAt hbw (k := w1.heap.size) (Nat.le_refl _) s (pos + wd)
      have hz2 : w1.heap.size < (wr.iterAt w1.heap.size s (pos + wd)).heap.size := by rw [Lib.iterAt_size]; omega
      rw [plain_step hdd hne hv] at hk
      have HIT := Lib.hid hit
      have H2 := Lib.hid hit2
      have HB := Lib.hid hb2
      have HV' := Lib.hid hv'
      have HK := Lib.hid hk
      have HZ := Lib.hid hz2
      clear hit hit2 hb2 hbw hv hv' hl hde hdd hne hz2 hk
      by_cases h128 : r < 128
      · by_cases h42 : r = 42 ∨ r = 63
        · have hP : P = false := by
            rw [← HK.out]
            rcases h42 with rfl | rfl <;> rfl
          have hz : ∃ z : Int, Lib.indexByte [42, 63] ((r : Int)).toNat.toUInt8 = z ∧ decide (0 ≤ z) = true := by
            rcases h42 with rfl | rfl
            · exact ⟨0, rfl, rfl⟩
            · exact ⟨1, by decide, rfl⟩
          obtain ⟨z, hz, hz0⟩ := hz
          have HZZ := Lib.hid hz
          subst hP
          clear hz
          go_wp2_with fail
          refine (Tryd.strings_IndexRune_ascii _ _ _ (by omega) (by omega)).mono ?_
          rintro e w3 ⟨rfl, rfl⟩
          rw [HZZ.out]
          go_wp2_with fail
          go_ret
          exact ⟨⟨_, rfl, by simp⟩, HB.out⟩
        · rw [not_or] at h42
          have hz : Lib.indexByte [42, 63] ((r : Int)).toNat.toUInt8 = -1 := by
            have : ∀ k : Nat, k < 128 → k ≠ 42 → k ≠ 63 → Lib.indexByte [42, 63] k.toUInt8 = -1 := by decide
            exact this r h128 h42.1 h42.2
          have HZZ := Lib.hid hz
          have hk2 : plainB (s.data.toList.drop (pos + wd)) = P := by
            have := HK.out
            rwa [decide_eq_true h42.1, decide_eq_true h42.2, Bool.true_and, Bool.true_and] at this
          have HK2 := Lib.hid hk2
          clear hz hk2
          go_wp2_with fail
          refine (Tryd.strings_IndexRune_ascii _ _ _ (by omega) (by omega)).mono ?_
          rintro e w3 ⟨rfl, rfl⟩
          rw [HZZ.out]
          go_wp2_with fail
          go_roundw
          case rel => exact ⟨pos + wd, H2.out, HB.out, HV'.out, HK2.out⟩
          case measure =>
            have e1 := HIT.out
            have e2 := H2.out
            simp only [World.iterPos, e1, e2]
            omega
      · have hk2 : plainB (s.data.toList.drop (pos + wd)) = P := by
          have := HK.out
          rwa [decide_eq_true (show r ≠ 42 by omega), decide_eq_true (show r ≠ 63 by omega), Bool.true_and, Bool.true_and] at this
        have HK2 := Lib.hid hk2
        clear hk2
        go_wp2_with fail
        refine (IndexRune_none r _ hrl (by omega)).mono ?_
        rintro e w3 ⟨rfl, hb⟩
        have h3 := (hb.block _ HZ.out).trans H2.out
        have H3 := Lib.hid h3
        have HB3 := Lib.hid (HB.out.trans (hb.mono (by have := HZ.out; omega)))
        clear h3 hb
        go_wp2_with fail
        go_roundw
        case rel => exact ⟨pos + wd, H3.out, HB3.out, HV'.out, HK2.out⟩
        case measure =>
          have e1 := HIT.out
          have e2 := H3.out
          simp only [World.iterPos, e1, e2]
          omega
    · have hnx : ∀ ty, (Instr.next (.pointer (some ⟨w1.heap.size, 0, none⟩)) true ty).run Tryd.prog wr = _ := fun ty => Lib.run_next_end_at wr w1.heap.size s pos ty hit hp
      have he : s.data.toList.drop pos = [] := List.drop_eq_nil_of_le (by rw [← size_eq]; omega)
      rw [he] at hk
      have hP : P = true := hk.symm
      subst hP
      have HB := Lib.hid hbw
      clear hk he hit hbw hv
      go_wp2_with fail
      go_ret
      exact ⟨⟨-1, rfl, rfl⟩, HB.out⟩
theorem ascii_two : ∀ (j : Nat) b, (⟨#[42, 63]⟩ : ByteArray).data.toList[j]? = some b → b.toNat < 128 := by
  intro j b h
  have := List.mem_of_getElem? h
  simp at this
  rcases this with rfl | rfl <;> decide
set_option maxHeartbeats 2000000 in
theorem ContainsAny_any (s : ByteArray) (w : World) (hv : valid s.data.toList = true) (hs : s.size < 4294967281) :
    Calls Tryd.prog 31 #[.string s, .string ⟨#[42, 63]⟩] w fun e w' => e = .returned (.bool (!plainB s.data.toList)) ∧ Below w.heap.size w w' := by
  have c : Calls Tryd.prog 40 #[.string s, .string ⟨#[42, 63]⟩] w fun e w' => (∃ z : Int, e = .returned (.int .i64 z) ∧ decide (0 ≤ z) = !plainB s.data.toList) ∧ Below w.heap.size w w' := by
    by_cases h8 : s.size ≤ 8
    · exact IndexAny_short_any s w hv h8
    · refine (Tryd.strings_IndexAny_long (zero_of_info (n := 256) (by kernel_rfl)).1 s ⟨#[42, 63]⟩ w (by decide) (by omega) hs (by decide) (ascii_two)).mono ?_
      rintro e w' ⟨rfl, rfl⟩
      refine ⟨⟨_, rfl, ?_⟩, ((Below.refl _ _).alloc (Nat.le_refl _) _).alloc (by simp) _⟩
      exact plain_any _
  have C := Lib.hid c
  clear c
  go_enter Tryd.func31, Tryd.ntmps31
  go_wp2_with fail
  refine (C.out).mono ?_
  rintro e w1 ⟨⟨z, rfl, hz⟩, hb⟩
  go_wp2
  go_ret
  exact ⟨by rw [← hz]; rfl, hb⟩
end Go.Proofs.YtfglhnnbfmpfeaaDoor.U
/- What is alike: the same, folded. -/
set_option linter.unusedVariables false
set_option linter.unusedSimpArgs false
namespace Go.Proofs.YtfglhnnbfmpfeaaDoor.U
theorem ordN_nil (ys : List Nat) : ordN [] ys = -(ys.length : Int) := by rw [ordN_end _ _ (.inl rfl)]; simp
theorem ordN_nil' (xs : List Nat) : ordN xs [] = (xs.length : Int) := by rw [ordN_end _ _ (.inr rfl)]; simp
theorem ordN_cons (x y : Nat) (xs ys : List Nat) : ordN (x :: xs) (y :: ys) = if x = y then ordN xs ys else (x : Int) - (y : Int) := by rw [ordN]
theorem ordN_eq : ∀ xs ys : List Nat, ordN xs ys = 0 ↔ xs = ys := by
  intro xs
  induction xs with
  | nil =>
    intro ys
    rw [ordN_nil]
    cases ys with
    | nil => simp
    | cons y ys => simp; omega
  | cons x xs ih =>
    intro ys
    cases ys with
    | nil => rw [ordN_nil']; simp; omega
    | cons y ys =>
      rw [ordN_cons]
      split
      · rename_i h
        subst h
        simp [ih]
      · rename_i h
        simp [h]
        omega
theorem flet_fold (l : List UInt8) : flet l = letters (fold l) := by unfold flet; rw [letters_fold]
theorem flet_iff (a b : List UInt8) : flet a = flet b ↔ fold a = fold b := by
  rw [flet_fold, flet_fold]
  exact ⟨letters_inj, fun h => by rw [h]⟩
theorem alike_flet (a b : List UInt8) : alikeB a b = decide (flet a = flet b) := by
  unfold alikeB
  exact decide_eq_decide.2 (ordN_eq _ _)
theorem alike_eq (a b : List UInt8) : alikeB a b = decide (fold a = fold b) := by
  rw [alike_flet]
  exact decide_eq_decide.2 (flet_iff a b)
end Go.Proofs.YtfglhnnbfmpfeaaDoor.U
/- glob.Plain of any text; what GlobPlain says, in plain words. -/
set_option linter.unusedVariables false
set_option linter.unusedSimpArgs false
namespace Go.Proofs.YtfglhnnbfmpfeaaDoor.U
open Go.RowKit Go.Proofs Go.Lib

set_option maxHeartbeats 4000000 in
set_option maxRecDepth 1000000 in
theorem Plain_calls (s : ByteArray) (w : World) (hs : s.size < 4294967281) (hT : Tabs w) :
    Calls Tryd.prog 16 #[.string s] w fun e w' => e = .returned (.bool (valid s.data.toList && plainB s.data.toList)) ∧ Below w.heap.size w w' := by
  have c1 := Units_calls s w (by omega) hT
  have c2 := fun W h => ContainsAny_any s W h hs
  unfold errOf at c1
  have B0 := Lib.hid (Below.refl w.heap.size w)
  cases hv : valid s.data.toList with
  | true =>
    rw [hv, if_pos rfl] at c1
    have C1 := Lib.hid c1
    have C2 := Lib.hid fun W => c2 W hv
    generalize plainB s.data.toList = b at *
    clear c1 c2 hT hv
    go_enter Tryd.func16, Tryd.ntmps16
    go_wp2_with fail
    refine (C1.out).mono ?_
    rintro e w1 ⟨rfl, hb1⟩
    have B1 := Lib.hid hb1
    clear hb1
    go_wp2_with fail
    refine (C2.out _).mono ?_
    rintro e w2 ⟨rfl, hb2⟩
    have B2 := Lib.hid (B1.out.trans (hb2.mono B1.out.size))
    clear hb2
    go_wp2
    go_ret
    exact ⟨by simp, B2.out⟩
  | false =>
    rw [hv, if_neg (by decide)] at c1
    have C1 := Lib.hid c1
    clear c1 c2 hT hv
    go_enter Tryd.func16, Tryd.ntmps16
    go_wp2_with fail
    refine (C1.out).mono ?_
    rintro e w1 ⟨rfl, hb1⟩
    have B1 := Lib.hid hb1
    clear hb1
    go_wp2
    go_ret
    exact ⟨rfl, B1.out⟩
/-! ### GlobPlain -/
theorem fnums_fold (l : List UInt8) : fnums (fold l) = fnums l := by
  rw [fnums_fI, fnums_fI, letters_fold, List.map_map]
  congr 1
  funext n
  show ((foldN (foldN n) : Nat) : Int) = _
  rw [foldN_foldN]
  rfl
theorem short_fold (l : List UInt8) (m : Nat) : shortB (fold l) m = shortB l m := by
  unfold shortB
  rw [valid_fold, fnums_fold]
theorem fnums_flet (a b : List UInt8) : fnums a = fnums b ↔ flet a = flet b := by
  unfold fnums
  constructor
  · intro h
    have := congrArg (List.map Int.toNat) h
    rw [List.map_map, List.map_map] at this
    have e : (Int.toNat ∘ fun n : Nat => (n : Int)) = id := by funext n; simp
    rw [e, List.map_id, List.map_id] at this
    exact this
  · intro h; rw [h]
theorem fI_not {n k : Nat} (hk : k < 65) : (fI n = (k : Int)) ↔ n = k := by
  unfold fI foldN
  split <;> omega
theorem plain_table (p s : List UInt8) (h1 : shortB p 64 = true) (h2 : shortB s 256 = true) :
    askE p s = 0 ∧ askE (fold p) (fold s) = 0 ∧ askE [42] s = 0 ∧ fitB (fold p) (fold s) = fitB p s ∧ fitB [42] s = true ∧ ((valid p && plainB p) = true → fitB p s = alikeB p s) := by
  have h3 : shortB (fold p) 64 = true := by rw [short_fold, h1]
  have h4 : shortB (fold s) 256 = true := by rw [short_fold, h2]
  have h5 : shortB [42] 64 = true := by
    rw [short_iff, fnums_star.1]
    exact ⟨fnums_star.2, by decide⟩
  have a1 := ask_short h1 h2
  have a2 := ask_short h3 h4
  have a3 := ask_short h5 h2
  refine ⟨a1.1, a2.1, a3.1, ?_, ?_, ?_⟩
  · rw [a1.2, a2.2, fnums_fold, fnums_fold]
  · rw [a3.2, fnums_star.1]
    exact mt_all _
  · intro hp
    rw [Bool.and_eq_true] at hp
    have hl := (plain_letters hp.1).1 hp.2
    rw [a1.2, mt_plain, alike_flet]
    · exact decide_eq_decide.2 (fnums_flet p s)
    · intro c hc
      rw [fnums_fI] at hc
      obtain ⟨n, hn, rfl⟩ := List.mem_map.1 hc
      have := hl n hn
      exact ⟨fun e => this.1 ((fI_not (k := 42) (by decide)).1 e), fun e => this.2 ((fI_not (k := 63) (by decide)).1 e)⟩
end Go.Proofs.YtfglhnnbfmpfeaaDoor.U
/- The law GlobPlain: a plain pattern fits just what is alike; for texts of at most 2^20 bytes. -/
set_option linter.unusedVariables false
set_option linter.unusedSimpArgs false
namespace Go.Proofs.YtfglhnnbfmpfeaaDoor.U
open Go.RowKit Go.Proofs Go.Lib Go.Proofs.YtfglhnnbfmpfeaaDoorW.PrintWords Go.Proofs.YtfglhnnbfmpfeaaDoor.PR

set_option maxHeartbeats 8000000 in
set_option maxRecDepth 1000000 in
theorem GlobPlain_walk (p s : ByteArray) (w : World) (hp : p.size ≤ 1048576) (hs : s.size ≤ 1048576) (hT : Tabs w) :
    Calls Tryd.prog 6 #[.string p, .string s] w fun e w' => e = .returned (.bool true) ∧ Below w.heap.size w w' := by
  have zf : ∀ l : ByteArray, l.size ≤ 1048576 → (⟨(fold l.data.toList).toArray⟩ : ByteArray).size ≤ 1048576 := by
    intro l h
    show (fold l.data.toList).toArray.size ≤ _
    rw [List.size_toArray, fold_length, ← size_eq]
    exact h
  have zp := zf p hp
  have zs := zf s hs
  have c1 := fun W => short_calls p 64 W (by omega)
  have c2 := fun W => short_calls s 256 W (by omega)
  have c3 := fun W h => Fits_calls p s W (by omega) (by omega) h
  have c4 := fun W => Fold_calls p W (by omega)
  have c5 := fun W => Fold_calls s W (by omega)
  have c6 := fun W h => Fits_calls ⟨(fold p.data.toList).toArray⟩ ⟨(fold s.data.toList).toArray⟩ W (by omega) (by omega) h
  have c7 := fun W h => Fits_calls ⟨#[42]⟩ s W (by decide) (by omega) h
  have c8 := fun W h => Plain_calls p W (by omega) h
  have c9 := fun W => Alike_calls p s W (by omega) (by omega)
  rw [show (⟨#[42]⟩ : ByteArray).data.toList = [42] from rfl] at c7
  simp only [] at c6
  have law := plain_table p.data.toList s.data.toList
  clear zf zp zs
  generalize shortB p.data.toList 64 = r1 at *
  generalize shortB s.data.toList 256 = r2 at *
  generalize fitB (fold p.data.toList) (fold s.data.toList) = F2 at *
  generalize askE (fold p.data.toList) (fold s.data.toList) = E2 at *
  generalize (⟨(fold p.data.toList).toArray⟩ : ByteArray) = fp at *
  generalize (⟨(fold s.data.toList).toArray⟩ : ByteArray) = fs at *
  generalize fitB p.data.toList s.data.toList = F1 at *
  generalize askE p.data.toList s.data.toList = E1 at *
  generalize fitB [42] s.data.toList = F3 at *
  generalize askE [42] s.data.toList = E3 at *
  generalize (valid p.data.toList && plainB p.data.toList) = pb at *
  generalize alikeB p.data.toList s.data.toList = al at *
  have HT := Lib.hid hT
  have B0 := Lib.hid (Below.refl w.heap.size w)
  have C1 := Lib.hid c1
  have C2 := Lib.hid c2
  have C3 := Lib.hid c3
  have C4 := Lib.hid c4
  have C5 := Lib.hid c5
  have C6 := Lib.hid c6
  have C7 := Lib.hid c7
  have C8 := Lib.hid c8
  have C9 := Lib.hid c9
  have LAW := Lib.hid law
  clear hT hp hs law c1 c2 c3 c4 c5 c6 c7 c8 c9
  go_enter Tryd.func6, Tryd.ntmps6
  go_wp2_with fail
  refine (C1.out _).mono ?_
  rintro e w1 ⟨rfl, hb⟩
  have T_1 := Lib.hid (HT.out.below hb)
  have B1 := Lib.hid (B0.out.trans (hb.mono B0.out.size))
  clear hb HT
  cases r1 with
  | false =>
    go_wp2_with fail
    refine (works_calls _ T_1.out).mono ?_
    rintro e w2 ⟨rfl, hb⟩
    have T_2 := Lib.hid (T_1.out.below hb)
    have B2 := Lib.hid (B1.out.trans (hb.mono B1.out.size))
    clear hb T_1 B1
    go_wp2
    go_ret
    exact ⟨rfl, B2.out⟩
  | true =>
    go_wp2_with fail
    refine (C2.out _).mono ?_
    rintro e w2 ⟨rfl, hb⟩
    have T_2 := Lib.hid (T_1.out.below hb)
    have B2 := Lib.hid (B1.out.trans (hb.mono B1.out.size))
    clear hb T_1 B1
    cases r2 with
    | false =>
      go_wp2_with fail
      refine (works_calls _ T_2.out).mono ?_
      rintro e w3 ⟨rfl, hb⟩
      have T_3 := Lib.hid (T_2.out.below hb)
      have B3 := Lib.hid (B2.out.trans (hb.mono B2.out.size))
      clear hb T_2 B2
      go_wp2
      go_ret
      exact ⟨rfl, B3.out⟩
    | true =>
      obtain ⟨e1, e2, e3, f2, f3, hl⟩ := LAW.out (by trivial) (by trivial)
      subst e1 e2 e3 f2 f3
      have HL := Lib.hid hl
      clear hl
      go_wp2_with fail
      refine (C3.out _ T_2.out).mono ?_
      rintro e w3 ⟨rfl, hb⟩
      have T_3 := Lib.hid (T_2.out.below hb)
      have B3 := Lib.hid (B2.out.trans (hb.mono B2.out.size))
      clear hb T_2 B2
      go_wp2_with fail
      refine (C4.out _).mono ?_
      rintro e w4 ⟨rfl, hb⟩
      have T_4 := Lib.hid (T_3.out.below hb)
      have B4 := Lib.hid (B3.out.trans (hb.mono B3.out.size))
      clear hb T_3 B3
      go_wp2_with fail
      refine (C5.out _).mono ?_
      rintro e w5 ⟨rfl, hb⟩
      have T_5 := Lib.hid (T_4.out.below hb)
      have B5 := Lib.hid (B4.out.trans (hb.mono B4.out.size))
      clear hb T_4 B4
      go_wp2_with fail
      refine (C6.out _ T_5.out).mono ?_
      rintro e w6 ⟨rfl, hb⟩
      have T_6 := Lib.hid (T_5.out.below hb)
      have B6 := Lib.hid (B5.out.trans (hb.mono B5.out.size))
      clear hb T_5 B5
      go_wp2_with fail
      refine (C7.out _ T_6.out).mono ?_
      rintro e w7 ⟨rfl, hb⟩
      have T_7 := Lib.hid (T_6.out.below hb)
      have B7 := Lib.hid (B6.out.trans (hb.mono B6.out.size))
      clear hb T_6 B6
      go_wp2_with fail
      refine (C8.out _ T_7.out).mono ?_
      rintro e w8 ⟨rfl, hb⟩
      have T_8 := Lib.hid (T_7.out.below hb)
      have B8 := Lib.hid (B7.out.trans (hb.mono B7.out.size))
      clear hb T_7 B7
      cases pb with
      | false =>
        go_wp2_with fail
        refine (works_calls _ T_8.out).mono ?_
        rintro e w9 ⟨rfl, hb⟩
        have T_9 := Lib.hid (T_8.out.below hb)
        have B9 := Lib.hid (B8.out.trans (hb.mono B8.out.size))
        clear hb T_8 B8
        go_wp2
        go_ret
        exact ⟨rfl, B9.out⟩
      | true =>
        have hl := HL.out (by trivial)
        subst hl
        go_wp2_with fail
        refine (C9.out _).mono ?_
        rintro e w9 ⟨rfl, hb⟩
        have T_9 := Lib.hid (T_8.out.below hb)
        have B9 := Lib.hid (B8.out.trans (hb.mono B8.out.size))
        clear hb T_8 B8
        go_wp2_with fail
        refine (works_calls _ T_9.out).mono ?_
        rintro e w10 ⟨rfl, hb⟩
        have T_10 := Lib.hid (T_9.out.below hb)
        have B10 := Lib.hid (B9.out.trans (hb.mono B9.out.size))
        clear hb T_9 B9
        go_wp2
        go_ret
        exact ⟨rfl, B10.out⟩
end Go.Proofs.YtfglhnnbfmpfeaaDoor.U
