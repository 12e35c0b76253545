/- Texts as lists of bytes: letters, their bytes, folding; plain Lean over the library's decoder. No program, no condition. -/
import Derived.Lib.ValidLaws
import Derived.Lib.RuneBytes
set_option linter.unusedVariables false
namespace Go.Proofs.YtanncmaojnmldaaDoor.U
open Go.Lib

/-- At the head of l: a byte that belongs to no letter. -/
def Bad (l : List UInt8) : Prop := (decodeL l).1 = 65533 ∧ (decodeL l).2 = 1
instance (l : List UInt8) : Decidable (Bad l) := inferInstanceAs (Decidable (_ ∧ _))

/-- The letter at the head; a byte that belongs to none is one above all. -/
def letter1 (l : List UInt8) : Nat := if Bad l then 1114112 + (l.headD 0).toNat else (decodeL l).1
theorem letter1_good {l : List UInt8} {r wd : Nat} (h : decodeL l = (r, wd)) (hb : ¬ (r = 65533 ∧ wd = 1)) : letter1 l = r := by
  have : ¬ Bad l := by unfold Bad; rw [h]; exact hb
  unfold letter1
  rw [if_neg this, h]
theorem letter1_bad {l : List UInt8} (h : decodeL l = (65533, 1)) : letter1 l = 1114112 + (l.headD 0).toNat := by
  have : Bad l := by unfold Bad; rw [h]; exact ⟨rfl, rfl⟩
  unfold letter1
  rw [if_pos this]
def lettersN : Nat → List UInt8 → List Nat
  | 0, _ => []
  | n + 1, l => if l = [] then [] else letter1 l :: lettersN n (l.drop (decodeL l).2)
def letters (l : List UInt8) : List Nat := lettersN l.length l

theorem lettersN_nil : ∀ n, lettersN n [] = []
  | 0 => rfl
  | n + 1 => by simp [lettersN]
theorem lettersN_fuel : ∀ (n m : Nat) (l : List UInt8), l.length ≤ n → l.length ≤ m → lettersN n l = lettersN m l
  | 0, m, l, hn, _ => by
    have : l = [] := List.eq_nil_of_length_eq_zero (by omega)
    subst this
    rw [lettersN_nil, lettersN_nil]
  | n + 1, 0, l, _, hm => by
    have : l = [] := List.eq_nil_of_length_eq_zero (by omega)
    subst this
    rw [lettersN_nil, lettersN_nil]
  | n + 1, m + 1, l, hn, hm => by
    unfold lettersN
    by_cases hne : l = []
    · simp [hne]
    · have hw := decodeL_width l
      have hl : 0 < l.length := List.length_pos_iff.2 hne
      rw [if_neg hne, if_neg hne, lettersN_fuel n m (l.drop (decodeL l).2) (by rw [List.length_drop]; omega) (by rw [List.length_drop]; omega)]
theorem letters_nil : letters [] = [] := rfl
theorem letters_step (l : List UInt8) (hne : l ≠ []) : letters l = letter1 l :: letters (l.drop (decodeL l).2) := by
  have hl : 0 < l.length := List.length_pos_iff.2 hne
  have hw := decodeL_width l
  obtain ⟨n, hn⟩ : ∃ n, l.length = n + 1 := ⟨l.length - 1, by omega⟩
  unfold letters
  rw [hn]
  show (if l = [] then [] else _) = _
  rw [if_neg hne, lettersN_fuel n (l.drop (decodeL l).2).length _ (by rw [List.length_drop]; omega) (Nat.le_refl _)]

/-- A rule of induction: what is left behind a letter is shorter. -/
theorem by_letters {p : List UInt8 → Prop} (h0 : p []) (h1 : ∀ l, l ≠ [] → p (l.drop (decodeL l).2) → p l) : ∀ l, p l := by
  have go : ∀ n (l : List UInt8), l.length ≤ n → p l := by
    intro n
    induction n with
    | zero =>
      intro l hl
      have : l = [] := List.eq_nil_of_length_eq_zero (by omega)
      subst this
      exact h0
    | succ n ih =>
      intro l hl
      by_cases hne : l = []
      · subst hne; exact h0
      · have hw := decodeL_width l
        have hl0 : 0 < l.length := List.length_pos_iff.2 hne
        exact h1 l hne (ih _ (by rw [List.length_drop]; omega))
  exact fun l => go l.length l (Nat.le_refl _)

/-- The bytes of a letter, by its number; of one above all its own byte. -/
def enc (n : Nat) : List UInt8 :=
  if n < 128 then [UInt8.ofNat n]
  else if n < 2048 then [UInt8.ofNat (192 + n / 64), UInt8.ofNat (128 + n % 64)]
  else if n < 65536 then [UInt8.ofNat (224 + n / 4096), UInt8.ofNat (128 + n / 64 % 64), UInt8.ofNat (128 + n % 64)]
  else if n < 1114112 then [UInt8.ofNat (240 + n / 262144), UInt8.ofNat (128 + n / 4096 % 64), UInt8.ofNat (128 + n / 64 % 64), UInt8.ofNat (128 + n % 64)]
  else [UInt8.ofNat (n - 1114112)]

/-- A letter's number. -/
def IsLetter (n : Nat) : Prop := n < 55296 ∨ (57344 ≤ n ∧ n < 1114112)
instance (n : Nat) : Decidable (IsLetter n) := inferInstanceAs (Decidable (_ ∨ _))

theorem byte_eq {a : UInt8} {n : Nat} (h : a.toNat = n) : UInt8.ofNat n = a := by
  subst h
  simp

/-- What may stand at the head. -/
theorem shape (l : List UInt8) (hne : l ≠ []) :
    (∃ a t, l = a :: t ∧ a.toNat < 128 ∧ decodeL l = (a.toNat, 1)) ∨
    (∃ a b t, l = a :: b :: t ∧ a.toNat / 32 = 6 ∧ b.toNat / 64 = 2 ∧ 128 ≤ a.toNat % 32 * 64 + b.toNat % 64 ∧ decodeL l = (a.toNat % 32 * 64 + b.toNat % 64, 2)) ∨
    (∃ a b c t, l = a :: b :: c :: t ∧ a.toNat / 16 = 14 ∧ b.toNat / 64 = 2 ∧ c.toNat / 64 = 2 ∧ 2048 ≤ a.toNat % 16 * 4096 + b.toNat % 64 * 64 + c.toNat % 64 ∧
      (a.toNat % 16 * 4096 + b.toNat % 64 * 64 + c.toNat % 64 < 55296 ∨ 57344 ≤ a.toNat % 16 * 4096 + b.toNat % 64 * 64 + c.toNat % 64) ∧
      decodeL l = (a.toNat % 16 * 4096 + b.toNat % 64 * 64 + c.toNat % 64, 3)) ∨
    (∃ a b c d t, l = a :: b :: c :: d :: t ∧ a.toNat / 8 = 30 ∧ b.toNat / 64 = 2 ∧ c.toNat / 64 = 2 ∧ d.toNat / 64 = 2 ∧
      65536 ≤ a.toNat % 8 * 262144 + b.toNat % 64 * 4096 + c.toNat % 64 * 64 + d.toNat % 64 ∧ a.toNat % 8 * 262144 + b.toNat % 64 * 4096 + c.toNat % 64 * 64 + d.toNat % 64 ≤ 1114111 ∧
      decodeL l = (a.toNat % 8 * 262144 + b.toNat % 64 * 4096 + c.toNat % 64 * 64 + d.toNat % 64, 4)) ∨
    (∃ a t, l = a :: t ∧ 128 ≤ a.toNat ∧ decodeL l = (65533, 1)) := by
  cases l with
  | nil => exact absurd rfl hne
  | cons a t =>
    by_cases ha : a.toNat < 128
    · exact .inl ⟨a, t, rfl, ha, decodeL_ascii a t ha⟩
    · have hN := decodeL_N (a :: t)
      rcases decodeN_shape (a :: t).length ((a :: t).getD 0 0).toNat ((a :: t).getD 1 0).toNat ((a :: t).getD 2 0).toNat ((a :: t).getD 3 0).toNat with ⟨c, e⟩ | ⟨c1, c2, c3, cv, e⟩ | ⟨c1, c2, c3, c4, cv, cs, e⟩ | ⟨c1, c2, c3, c4, c5, cv, cw, e⟩ | e
      · exact absurd c ha
      · rcases t with _ | ⟨b, t⟩
        · exact absurd c2 (by simp only [List.length_cons, List.length_nil]; omega)
        · exact .inr (.inl ⟨a, b, t, rfl, c1, c3, cv, hN.trans e⟩)
      · rcases t with _ | ⟨b, _ | ⟨c, t⟩⟩
        · exact absurd c2 (by simp only [List.length_cons, List.length_nil]; omega)
        · exact absurd c2 (by simp only [List.length_cons, List.length_nil]; omega)
        · exact .inr (.inr (.inl ⟨a, b, c, t, rfl, c1, c3, c4, cv, cs, hN.trans e⟩))
      · rcases t with _ | ⟨b, _ | ⟨c, _ | ⟨d, t⟩⟩⟩
        · exact absurd c2 (by simp only [List.length_cons, List.length_nil]; omega)
        · exact absurd c2 (by simp only [List.length_cons, List.length_nil]; omega)
        · exact absurd c2 (by simp only [List.length_cons, List.length_nil]; omega)
        · exact .inr (.inr (.inr (.inl ⟨a, b, c, d, t, rfl, c1, c3, c4, c5, cv, cw, hN.trans e⟩)))
      · exact .inr (.inr (.inr (.inr ⟨a, t, rfl, by omega, hN.trans e⟩)))

/-- The head's bytes are its letter's. -/
theorem head_enc (l : List UInt8) (hne : l ≠ []) : l = enc (letter1 l) ++ l.drop (decodeL l).2 := by
  rcases shape l hne with ⟨a, t, rfl, ha, e⟩ | ⟨a, b, t, rfl, c1, c3, cv, e⟩ | ⟨a, b, c, t, rfl, c1, c3, c4, cv, cs, e⟩ | ⟨a, b, c, d, t, rfl, c1, c3, c4, c5, cv, cw, e⟩ | ⟨a, t, rfl, ha, e⟩
  · have hb : ¬ Bad (a :: t) := by unfold Bad; rw [e]; simp; omega
    unfold letter1 enc
    rw [if_neg hb, e]
    dsimp only
    rw [if_pos ha, byte_eq rfl]
    rfl
  · have hb : ¬ Bad (a :: b :: t) := by unfold Bad; rw [e]; simp
    have h1 := a.toNat_lt
    have h2 := b.toNat_lt
    unfold letter1 enc
    rw [if_neg hb, e]
    dsimp only
    rw [if_neg (by omega), if_pos (by omega), byte_eq (a := a) (by omega), byte_eq (a := b) (by omega)]
    rfl
  · have hb : ¬ Bad (a :: b :: c :: t) := by unfold Bad; rw [e]; simp
    have h1 := a.toNat_lt
    have h2 := b.toNat_lt
    have h3 := c.toNat_lt
    unfold letter1 enc
    rw [if_neg hb, e]
    dsimp only
    rw [if_neg (by omega), if_neg (by omega), if_pos (by omega), byte_eq (a := a) (by omega), byte_eq (a := b) (by omega), byte_eq (a := c) (by omega)]
    rfl
  · have hb : ¬ Bad (a :: b :: c :: d :: t) := by unfold Bad; rw [e]; simp
    have h1 := a.toNat_lt
    have h2 := b.toNat_lt
    have h3 := c.toNat_lt
    have h4 := d.toNat_lt
    unfold letter1 enc
    rw [if_neg hb, e]
    dsimp only
    rw [if_neg (by omega), if_neg (by omega), if_neg (by omega), if_pos (by omega), byte_eq (a := a) (by omega), byte_eq (a := b) (by omega), byte_eq (a := c) (by omega), byte_eq (a := d) (by omega)]
    rfl
  · have hb : Bad (a :: t) := by unfold Bad; rw [e]; simp
    have h1 : letter1 (a :: t) = 1114112 + a.toNat := by unfold letter1; rw [if_pos hb]; rfl
    rw [h1, e]
    unfold enc
    rw [if_neg (by omega), if_neg (by omega), if_neg (by omega), if_neg (by omega), byte_eq (a := a) (by omega)]
    rfl

/-- A text is its letters' bytes. -/
theorem enc_letters : ∀ l : List UInt8, (letters l).flatMap enc = l := by
  refine by_letters rfl ?_
  intro l hne ih
  rw [letters_step l hne, List.flatMap_cons, ih]
  exact (head_enc l hne).symm
theorem letters_inj {a b : List UInt8} (h : letters a = letters b) : a = b := by
  rw [← enc_letters a, ← enc_letters b, h]

/-- A letter's bytes are read as it, whatever follows. -/
theorem decode_enc (n : Nat) (hn : IsLetter n) (t : List UInt8) : decodeL (enc n ++ t) = (n, (enc n).length) ∧ ¬ Bad (enc n ++ t) := by
  have key : decodeL (enc n ++ t) = (n, (enc n).length) := by
    unfold IsLetter at hn
    rw [decodeL_N]
    unfold enc
    by_cases h1 : n < 128
    · simp only [if_pos h1]
      simp [decodeN, Nat.mod_eq_of_lt (show n < 256 by omega)]
      omega
    · by_cases h2 : n < 2048
      · simp only [if_neg h1, if_pos h2]
        have e1 : (192 + n / 64) % 256 = 192 + n / 64 := by omega
        have e2 : (128 + n % 64) % 256 = 128 + n % 64 := by omega
        simp [decodeN, e1, e2]
        rw [if_neg (by omega), if_pos (by omega), if_pos (by omega)]
        congr 1
        omega
      · by_cases h3 : n < 65536
        · simp only [if_neg h1, if_neg h2, if_pos h3]
          have e1 : (224 + n / 4096) % 256 = 224 + n / 4096 := by omega
          have e2 : (128 + n / 64 % 64) % 256 = 128 + n / 64 % 64 := by omega
          have e3 : (128 + n % 64) % 256 = 128 + n % 64 := by omega
          simp [decodeN, e1, e2, e3]
          rw [if_neg (by omega), if_neg (by omega), if_pos (by omega), if_pos (by omega)]
          congr 1
          omega
        · have h4 : n < 1114112 := by omega
          simp only [if_neg h1, if_neg h2, if_neg h3, if_pos h4]
          have e1 : (240 + n / 262144) % 256 = 240 + n / 262144 := by omega
          have e2 : (128 + n / 4096 % 64) % 256 = 128 + n / 4096 % 64 := by omega
          have e3 : (128 + n / 64 % 64) % 256 = 128 + n / 64 % 64 := by omega
          have e4 : (128 + n % 64) % 256 = 128 + n % 64 := by omega
          simp [decodeN, e1, e2, e3, e4]
          rw [if_neg (by omega), if_neg (by omega), if_neg (by omega), if_pos (by omega), if_pos (by omega)]
          congr 1
          omega
  refine ⟨key, ?_⟩
  unfold Bad
  rw [key]
  rintro ⟨h1, h2⟩
  dsimp only at h1 h2
  subst h1
  simp [enc] at h2

theorem enc_ne (n : Nat) : enc n ≠ [] := by
  unfold enc
  repeat' split
  all_goals simp

/-- A letter that is read is one. -/
theorem letter1_is (l : List UInt8) (hne : l ≠ []) (hb : ¬ Bad l) : IsLetter (letter1 l) := by
  unfold letter1
  rw [if_neg hb]
  unfold IsLetter
  rcases shape l hne with ⟨a, t, rfl, ha, e⟩ | ⟨a, b, t, rfl, c1, c3, cv, e⟩ | ⟨a, b, c, t, rfl, c1, c3, c4, cv, cs, e⟩ | ⟨a, b, c, d, t, rfl, c1, c3, c4, c5, cv, cw, e⟩ | ⟨a, t, rfl, ha, e⟩
  · rw [e]; dsimp only; omega
  · rw [e]; dsimp only; omega
  · have h1 := a.toNat_lt
    rw [e]; dsimp only; omega
  · rw [e]; dsimp only; omega
  · exact absurd (by unfold Bad; rw [e]; simp) hb

/-- Is it a text? -/
def valid (l : List UInt8) : Bool := validD l
theorem valid_step (l : List UInt8) (hne : l ≠ []) : valid l = if Bad l then false else valid (l.drop (decodeL l).2) := validD_step l hne
theorem valid_iff : ∀ l : List UInt8, valid l = true ↔ ∀ n ∈ letters l, IsLetter n := by
  refine by_letters ⟨fun _ n h => by simp [letters_nil] at h, fun _ => rfl⟩ ?_
  intro l hne ih
  rw [valid_step l hne, letters_step l hne]
  by_cases hb : Bad l
  · rw [if_pos hb]
    refine ⟨fun h => (by cases h), fun h => ?_⟩
    have := h (letter1 l) List.mem_cons_self
    unfold letter1 IsLetter at this
    rw [if_pos hb] at this
    omega
  · rw [if_neg hb, ih]
    refine ⟨fun h n hn => ?_, fun h n hn => h n (List.mem_cons_of_mem _ hn)⟩
    rcases List.mem_cons.1 hn with rfl | hn
    · exact letter1_is l hne hb
    · exact h n hn

/-- Letters put together. -/
theorem letters_enc : ∀ (ns : List Nat) (t : List UInt8), (∀ n ∈ ns, IsLetter n) → letters (ns.flatMap enc ++ t) = ns ++ letters t
  | [], t, _ => rfl
  | n :: ns, t, h => by
    obtain ⟨h1, h2⟩ := decode_enc n (h n List.mem_cons_self) (ns.flatMap enc ++ t)
    rw [List.flatMap_cons, List.append_assoc, letters_step _ (by simp [enc_ne])]
    unfold letter1
    rw [if_neg h2, h1]
    dsimp only
    rw [List.drop_left, letters_enc ns t (fun m hm => h m (List.mem_cons_of_mem _ hm)), List.cons_append]
theorem letters_of_enc (ns : List Nat) (h : ∀ n ∈ ns, IsLetter n) : letters (ns.flatMap enc) = ns := by
  have := letters_enc ns [] h
  rwa [List.append_nil, letters_nil, List.append_nil] at this
theorem letters_append (s t : List UInt8) (hs : valid s = true) : letters (s ++ t) = letters s ++ letters t := by
  have := letters_enc (letters s) t ((valid_iff s).1 hs)
  rwa [enc_letters s] at this
theorem valid_append (s t : List UInt8) (hs : valid s = true) : valid (s ++ t) = valid t := by
  rw [Bool.eq_iff_iff, valid_iff, valid_iff, letters_append s t hs]
  exact ⟨fun h n hn => h n (List.mem_append_right _ hn), fun h n hn => (List.mem_append.1 hn).elim (fun h1 => (valid_iff s).1 hs n h1) (h n)⟩

/-- A letter, folded; a byte, folded. -/
def foldN (n : Nat) : Nat := if 65 ≤ n ∧ n ≤ 90 then n + 32 else n
def foldB (b : UInt8) : UInt8 := if 65 ≤ b.toNat ∧ b.toNat ≤ 90 then b + 32 else b
def fold (l : List UInt8) : List UInt8 := l.map foldB

theorem foldB_nat (b : UInt8) : (foldB b).toNat = foldN b.toNat := by
  have := b.toNat_lt
  unfold foldB foldN
  split
  · rw [UInt8.toNat_add]
    show (b.toNat + 32) % 256 = _
    omega
  · rfl
theorem foldB_high (b : UInt8) (h : 91 ≤ b.toNat) : foldB b = b := by unfold foldB; rw [if_neg (by omega)]
theorem foldN_high (n : Nat) (h : 91 ≤ n) : foldN n = n := by unfold foldN; rw [if_neg (by omega)]
theorem foldN_is {n : Nat} (h : IsLetter n) : IsLetter (foldN n) := by unfold IsLetter foldN at *; split <;> omega
theorem foldN_low (n : Nat) (h : n < 128) : foldN n < 128 := by unfold foldN; split <;> omega
theorem foldN_foldN (n : Nat) : foldN (foldN n) = foldN n := by
  unfold foldN
  by_cases h : 65 ≤ n ∧ n ≤ 90
  · rw [if_pos h, if_neg (by omega)]
  · rw [if_neg h, if_neg h]
theorem foldB_foldB (b : UInt8) : foldB (foldB b) = foldB b := by
  apply UInt8.toNat_inj.1
  rw [foldB_nat, foldB_nat, foldN_foldN]
theorem fold_fold (l : List UInt8) : fold (fold l) = fold l := by
  unfold fold
  rw [List.map_map]
  exact List.map_congr_left (fun b _ => foldB_foldB b)
theorem fold_length (l : List UInt8) : (fold l).length = l.length := by simp [fold]
theorem fold_append (s t : List UInt8) : fold (s ++ t) = fold s ++ fold t := by simp [fold]

/-- Folding turns no bytes of letters but those of A to Z. -/
theorem enc_fold (n : Nat) : enc (foldN n) = fold (enc n) ∨ 1114112 ≤ n := by
  by_cases h : 1114112 ≤ n
  · exact .inr h
  · left
    by_cases h1 : n < 128
    · have h2 := foldN_low n h1
      unfold enc
      rw [if_pos h1, if_pos h2]
      simp only [fold, List.map_cons, List.map_nil]
      congr 1
      apply UInt8.toNat_inj.1
      rw [foldB_nat]
      simp
      rw [Nat.mod_eq_of_lt (by omega), Nat.mod_eq_of_lt (by omega)]
    · rw [foldN_high n (by omega)]
      unfold enc
      repeat' split
      all_goals simp only [fold, List.map_cons, List.map_nil]
      all_goals (repeat (rw [foldB_high]))
      all_goals (try (simp only [UInt8.toNat_ofNat']; omega))

theorem decodeN_low (n b0 b1 b2 b3 c1 c2 c3 : Nat) (h1 : b1 / 64 = 2 ∨ c1 / 64 = 2 → b1 = c1) (h2 : b2 / 64 = 2 ∨ c2 / 64 = 2 → b2 = c2) (h3 : b3 / 64 = 2 ∨ c3 / 64 = 2 → b3 = c3) (h0 : 128 ≤ b0) :
    decodeN n b0 b1 b2 b3 = decodeN n b0 c1 c2 c3 := by
  by_cases k1 : b1 / 64 = 2 ∨ c1 / 64 = 2
  · obtain rfl := h1 k1
    by_cases k2 : b2 / 64 = 2 ∨ c2 / 64 = 2
    · obtain rfl := h2 k2
      by_cases k3 : b3 / 64 = 2 ∨ c3 / 64 = 2
      · obtain rfl := h3 k3
        rfl
      · simp [decodeN, show ¬ b3 / 64 = 2 from fun h => k3 (.inl h), show ¬ c3 / 64 = 2 from fun h => k3 (.inr h)]
    · simp [decodeN, show ¬ b2 / 64 = 2 from fun h => k2 (.inl h), show ¬ c2 / 64 = 2 from fun h => k2 (.inr h)]
  · simp [decodeN, show ¬ b1 / 64 = 2 from fun h => k1 (.inl h), show ¬ c1 / 64 = 2 from fun h => k1 (.inr h)]

theorem fold_getD (l : List UInt8) (i : Nat) : (fold l).getD i 0 = foldB (l.getD i 0) := by
  unfold fold
  by_cases h : i < l.length
  · simp [List.getD, h]
  · simp [List.getD, List.getElem?_eq_none (Nat.not_lt.1 h), foldB]
theorem foldN_cont (n : Nat) : n / 64 = 2 ∨ foldN n / 64 = 2 → n = foldN n := by unfold foldN; split <;> omega

/-- A folded text is read at the same places: its letter there is the folded one. -/
theorem decode_fold (l : List UInt8) (hne : l ≠ []) : decodeL (fold l) = (foldN (decodeL l).1, (decodeL l).2) ∧ (Bad (fold l) ↔ Bad l) := by
  have key : decodeL (fold l) = (foldN (decodeL l).1, (decodeL l).2) := by
    cases l with
    | nil => exact absurd rfl hne
    | cons a t =>
      by_cases ha : a.toNat < 128
      · rw [decodeL_ascii a t ha]
        show decodeL (foldB a :: fold t) = _
        rw [decodeL_ascii (foldB a) _ (by rw [foldB_nat]; exact foldN_low _ ha), foldB_nat]
      · have e : decodeL (fold (a :: t)) = decodeL (a :: t) := by
          rw [decodeL_N, decodeL_N, fold_length, fold_getD, fold_getD, fold_getD, fold_getD, foldB_nat, foldB_nat, foldB_nat, foldB_nat]
          rw [show foldN ((a :: t).getD 0 0).toNat = ((a :: t).getD 0 0).toNat from foldN_high _ (by show 91 ≤ a.toNat; omega)]
          exact (decodeN_low _ _ _ _ _ _ _ _ (foldN_cont _) (foldN_cont _) (foldN_cont _) (by show 128 ≤ a.toNat; omega)).symm
        rw [e]
        rcases shape (a :: t) hne with ⟨a', t', h, ha', e⟩ | ⟨a', b, t', h, c1, c3, cv, e⟩ | ⟨a', b, c, t', h, c1, c3, c4, cv, cs, e⟩ | ⟨a', b, c, d, t', h, c1, c3, c4, c5, cv, cw, e⟩ | ⟨a', t', h, ha', e⟩
        · injection h with h _; subst h; omega
        all_goals (rw [e]; dsimp only; rw [foldN_high _ (by omega)])
  refine ⟨key, ?_⟩
  unfold Bad
  rw [key]
  dsimp only
  unfold foldN
  split
  · constructor <;> rintro ⟨h1, _⟩ <;> omega
  · exact Iff.rfl
theorem letter1_fold (l : List UInt8) (hne : l ≠ []) : letter1 (fold l) = foldN (letter1 l) := by
  obtain ⟨h1, h2⟩ := decode_fold l hne
  unfold letter1
  by_cases hb : Bad l
  · rw [if_pos (h2.2 hb), if_pos hb, foldN_high _ (by omega)]
    rcases shape l hne with ⟨a, t, rfl, ha, e⟩ | ⟨a, b, t, rfl, c1, c3, cv, e⟩ | ⟨a, b, c, t, rfl, c1, c3, c4, cv, cs, e⟩ | ⟨a, b, c, d, t, rfl, c1, c3, c4, c5, cv, cw, e⟩ | ⟨a, t, rfl, ha, e⟩
    · unfold Bad at hb; rw [e] at hb; simp at hb; omega
    · unfold Bad at hb; rw [e] at hb; simp at hb
    · unfold Bad at hb; rw [e] at hb; simp at hb
    · unfold Bad at hb; rw [e] at hb; simp at hb
    · simp only [fold, List.map_cons, List.headD_cons]
      rw [foldB_high a (by omega)]
  · rw [if_neg (fun h => hb (h2.1 h)), if_neg hb, h1]
theorem letters_fold : ∀ l : List UInt8, letters (fold l) = (letters l).map foldN := by
  refine by_letters rfl ?_
  intro l hne ih
  have hf : fold l ≠ [] := by unfold fold; simpa using hne
  obtain ⟨h1, _⟩ := decode_fold l hne
  rw [letters_step l hne, letters_step _ hf, letter1_fold l hne, h1, List.map_cons]
  dsimp only
  rw [← ih]
  congr 2
  unfold fold
  rw [List.map_drop]
theorem valid_fold (l : List UInt8) : valid (fold l) = valid l := by
  rw [Bool.eq_iff_iff, valid_iff, valid_iff, letters_fold]
  constructor
  · intro h n hn
    have := h (foldN n) (List.mem_map.2 ⟨n, hn, rfl⟩)
    unfold IsLetter foldN at *
    split at this <;> omega
  · intro h n hn
    obtain ⟨m, hm, rfl⟩ := List.mem_map.1 hn
    exact foldN_is (h m hm)
end Go.Proofs.YtanncmaojnmldaaDoor.U
