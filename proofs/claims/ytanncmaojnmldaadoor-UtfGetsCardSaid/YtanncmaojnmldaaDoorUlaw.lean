/- The plain law of utf: bytes and texts come back of each other, joins, the order, what is folded. -/
import Derived.Test.YtanncmaojnmldaaDoorLbase
set_option linter.unusedVariables false
set_option linter.unusedSimpArgs false
namespace Go.Proofs.YtanncmaojnmldaaDoor.U
open Go.RowKit Go.Proofs Go.Lib

theorem getRun_nil : getRun none [] = some [] := rfl
theorem getRun_nil_some (h : Nat) : getRun (some h) [] = none := rfl
theorem getRun_none (u : Nat) (us : List Nat) : getRun none (u :: us) = if 56320 ≤ u ∧ u < 57344 then none else if 55296 ≤ u ∧ u < 56320 then getRun (some u) us else (getRun none us).map fun l => u :: l := by
  rw [getRun]
theorem getRun_some (h u : Nat) (us : List Nat) : getRun (some h) (u :: us) = if 56320 ≤ u ∧ u < 57344 then (getRun none us).map (fun l => (65536 + (h - 55296) * 1024 + (u - 56320)) :: l) else none := by
  rw [getRun]
theorem ubytes_cons (u : Nat) (us : List Nat) : ubytes (u :: us) = ((u % 256 : Nat) : Int) :: ((u / 256 : Nat) : Int) :: ubytes us := by simp [ubytes]
theorem pairs_ubytes (us : List Nat) : pairs (ubytes us) = us := by
  induction us with
  | nil => rfl
  | cons u us ih =>
    rw [ubytes_cons, pairs, ih]
    congr 1
    omega
theorem unit_lo {n : Nat} (h : n < 65536) : unit n = [n] := by unfold unit; rw [if_pos h]
theorem unit_hi {n : Nat} (h : ¬ n < 65536) : unit n = [55296 + (n - 65536) / 1024, 56320 + (n - 65536) % 1024] := by unfold unit; rw [if_neg h]
theorem getRun_units (ns : List Nat) (h : ∀ n ∈ ns, IsLetter n) : getRun none (ns.flatMap unit) = some ns := by
  induction ns with
  | nil => rfl
  | cons n ns ih =>
    have hn := h n (List.mem_cons_self)
    have ih := ih fun m hm => h m (List.mem_cons_of_mem _ hm)
    rw [List.flatMap_cons]
    unfold IsLetter at hn
    by_cases hl : n < 65536
    · rw [unit_lo hl, List.singleton_append, getRun_none, if_neg (by omega), if_neg (by omega), ih]
      rfl
    · rw [unit_hi hl, List.cons_append, List.singleton_append, getRun_none, if_neg (by omega), if_pos (by omega), getRun_some, if_pos (by omega), ih]
      simp only [Option.map_some]
      rw [show 65536 + (55296 + (n - 65536) / 1024 - 55296) * 1024 + (56320 + (n - 65536) % 1024 - 56320) = n by omega]
theorem get_put (l : List UInt8) (h : valid l = true) : getLetters (putBytes l) = some (letters l) := by
  unfold getLetters putBytes
  rw [if_pos h, ubytes_len, if_pos (by omega), pairs_ubytes]
  exact getRun_units _ ((valid_iff l).1 h)
theorem getText_put (l : List UInt8) (h : valid l = true) : getText (putBytes l) = l := by
  unfold getText
  rw [get_put l h]
  exact enc_letters l
theorem getErr_put (l : List UInt8) (h : valid l = true) : getErr (putBytes l) = 0 := by
  unfold getErr
  rw [get_put l h]
theorem getRun_back : ∀ (us : List Nat), (∀ u ∈ us, u < 65536) →
    (∀ ns, getRun none us = some ns → (∀ n ∈ ns, IsLetter n) ∧ ns.flatMap unit = us) ∧
    (∀ h ns, 55296 ≤ h → h < 56320 → getRun (some h) us = some ns → (∀ n ∈ ns, IsLetter n) ∧ ns.flatMap unit = h :: us) := by
  intro us
  induction us with
  | nil =>
    intro _
    refine ⟨fun ns h => ?_, fun h ns _ _ e => ?_⟩
    · rw [getRun_nil] at h
      injection h with h
      subst h
      simp
    · rw [getRun_nil_some] at e
      cases e
  | cons u us ih =>
    intro hb
    have hu := hb u List.mem_cons_self
    obtain ⟨i1, i2⟩ := ih fun v hv => hb v (List.mem_cons_of_mem _ hv)
    refine ⟨fun ns h => ?_, fun h ns h0 h1 e => ?_⟩
    · rw [getRun_none] at h
      split at h
      · cases h
      · split at h
        · rename_i hh
          exact i2 u ns hh.1 hh.2 h
        · obtain ⟨l, hl, rfl⟩ := Option.map_eq_some_iff.1 h
          obtain ⟨j1, j2⟩ := i1 l hl
          refine ⟨fun n hn => ?_, ?_⟩
          · rcases List.mem_cons.1 hn with rfl | hn
            · unfold IsLetter
              omega
            · exact j1 n hn
          · rw [List.flatMap_cons, j2, unit_lo hu, List.singleton_append]
    · rw [getRun_some] at e
      split at e
      · rename_i hh
        obtain ⟨l, hl, rfl⟩ := Option.map_eq_some_iff.1 e
        obtain ⟨j1, j2⟩ := i1 l hl
        refine ⟨fun n hn => ?_, ?_⟩
        · rcases List.mem_cons.1 hn with hn | hn
          · unfold IsLetter
            omega
          · exact j1 n hn
        · rw [List.flatMap_cons, j2, unit_hi (by omega), show 55296 + (65536 + (h - 55296) * 1024 + (u - 56320) - 65536) / 1024 = h by omega, show 56320 + (65536 + (h - 55296) * 1024 + (u - 56320) - 65536) % 1024 = u by omega, List.cons_append, List.singleton_append]
      · cases e
theorem pairs_back : ∀ (n : Nat) (b : List Int), b.length ≤ n → b.length % 2 = 0 → (∀ x ∈ b, 0 ≤ x ∧ x ≤ 255) → ubytes (pairs b) = b ∧ ∀ u ∈ pairs b, u < 65536 := by
  intro n
  induction n with
  | zero =>
    intro b hb _ _
    obtain rfl : b = [] := List.eq_nil_of_length_eq_zero (by omega)
    exact ⟨rfl, by simp [pairs]⟩
  | succ n ih =>
    intro b hb he hx
    match b, hb, he, hx with
    | [], _, _, _ => exact ⟨rfl, by simp [pairs]⟩
    | [x], _, he, _ => simp at he
    | x :: y :: t, hb, he, hx =>
      simp only [List.length_cons] at hb he
      obtain ⟨i1, i2⟩ := ih t (by omega) (by omega) fun z hz => hx z (by simp [hz])
      have h1 := hx x (by simp)
      have h2 := hx y (by simp)
      refine ⟨?_, fun u hu => ?_⟩
      · rw [pairs, ubytes_cons, i1]
        congr 1
        · omega
        · congr 1
          omega
      · rw [pairs] at hu
        rcases List.mem_cons.1 hu with rfl | hu
        · omega
        · exact i2 u hu
theorem getErr_ne {b : List Int} (h : getErr b ≠ 0) : getText b = [] := by
  unfold getErr at h
  unfold getText
  cases hg : getLetters b with
  | none => rfl
  | some ns => rw [hg] at h; exact absurd rfl h
theorem pairs_len : ∀ (n : Nat) (b : List Int), b.length ≤ n → (pairs b).length ≤ b.length := by
  intro n
  induction n with
  | zero =>
    intro b hb
    obtain rfl : b = [] := List.eq_nil_of_length_eq_zero (by omega)
    simp [pairs]
  | succ n ih =>
    intro b hb
    match b, hb with
    | [], _ => simp [pairs]
    | [x], _ => simp [pairs]
    | x :: y :: t, hb =>
      simp only [List.length_cons] at hb
      have := ih t (by omega)
      simp only [pairs, List.length_cons]
      omega
theorem getText_len (b : List Int) (h : b.length ≤ 1048576) : (getText b).length ≤ 4194304 := by
  unfold getText
  cases hg : getLetters b with
  | none => simp
  | some ns =>
    simp only
    unfold getLetters at hg
    split at hg
    · have h1 := getRun_none_len _ _ _ hg
      have h2 := pairs_len _ b (Nat.le_refl _)
      have h3 := flat_enc_len ns
      omega
    · cases hg
theorem put_get {b : List Int} (hb : ∀ x ∈ b, 0 ≤ x ∧ x ≤ 255) (h : getErr b = 0) : valid (getText b) = true ∧ putBytes (getText b) = b := by
  unfold getErr at h
  unfold getText
  cases hg : getLetters b with
  | none => rw [hg] at h; cases h
  | some ns =>
    simp only
    unfold getLetters at hg
    split at hg
    · rename_i he
      obtain ⟨p1, p2⟩ := pairs_back b.length b (Nat.le_refl _) he hb
      obtain ⟨r1, r2⟩ := (getRun_back _ p2).1 ns hg
      have hv : valid (ns.flatMap enc) = true := by
        rw [valid_iff, letters_of_enc ns r1]
        exact r1
      refine ⟨hv, ?_⟩
      unfold putBytes units
      rw [if_pos hv, letters_of_enc ns r1, r2, p1]
    · cases hg
theorem putBytes_append {s t : List UInt8} (hs : valid s = true) (ht : valid t = true) : putBytes (s ++ t) = putBytes s ++ putBytes t := by
  unfold putBytes units
  rw [if_pos hs, if_pos ht, if_pos (by rw [valid_append s t hs, ht]), letters_append s t hs, List.flatMap_append, ubytes_append]

theorem ordN_nil (ys : List Nat) : ordN [] ys = -(ys.length : Int) := by rw [ordN_end _ _ (.inl rfl)]; simp
theorem ordN_nil' (xs : List Nat) : ordN xs [] = (xs.length : Int) := by rw [ordN_end _ _ (.inr rfl)]; simp
theorem ordN_cons (x y : Nat) (xs ys : List Nat) : ordN (x :: xs) (y :: ys) = if x = y then ordN xs ys else (x : Int) - (y : Int) := by rw [ordN]
theorem ordN_eq : ∀ xs ys : List Nat, ordN xs ys = 0 ↔ xs = ys := by
  intro xs
  induction xs with
  | nil =>
    intro ys
    rw [ordN_nil]
    cases ys with
    | nil => simp
    | cons y ys => simp; omega
  | cons x xs ih =>
    intro ys
    cases ys with
    | nil => rw [ordN_nil']; simp; omega
    | cons y ys =>
      rw [ordN_cons]
      split
      · rename_i h
        subst h
        simp [ih]
      · rename_i h
        simp [h]
        omega
theorem ordN_neg : ∀ xs ys : List Nat, ordN ys xs = - ordN xs ys := by
  intro xs
  induction xs with
  | nil => intro ys; rw [ordN_nil, ordN_nil']; omega
  | cons x xs ih =>
    intro ys
    cases ys with
    | nil => rw [ordN_nil, ordN_nil']
    | cons y ys =>
      rw [ordN_cons, ordN_cons]
      by_cases h : x = y
      · subst h
        rw [if_pos rfl, if_pos rfl, ih]
      · rw [if_neg h, if_neg (Ne.symm h)]
        omega
theorem ordN_trans : ∀ xs ys zs : List Nat, ordN xs ys < 0 → ordN ys zs < 0 → ordN xs zs < 0 := by
  intro xs
  induction xs with
  | nil =>
    intro ys zs h1 h2
    cases zs with
    | nil =>
      rw [ordN_nil'] at h2
      omega
    | cons z zs => rw [ordN_nil, List.length_cons]; omega
  | cons x xs ih =>
    intro ys zs h1 h2
    cases ys with
    | nil => rw [ordN_nil'] at h1; omega
    | cons y ys =>
      cases zs with
      | nil => rw [ordN_nil'] at h2; omega
      | cons z zs =>
        rw [ordN_cons] at h1 h2 ⊢
        by_cases e1 : x = y
        · subst e1
          rw [if_pos rfl] at h1
          by_cases e2 : x = z
          · subst e2
            rw [if_pos rfl] at h2 ⊢
            exact ih _ _ h1 h2
          · rw [if_neg e2] at h2 ⊢
            exact h2
        · rw [if_neg e1] at h1
          by_cases e2 : y = z
          · subst e2
            rw [if_neg e1]
            exact h1
          · rw [if_neg e2] at h2
            by_cases e3 : x = z
            · omega
            · rw [if_neg e3]
              omega
theorem flet_fold (l : List UInt8) : flet l = letters (fold l) := by unfold flet; rw [letters_fold]
theorem flet_iff (a b : List UInt8) : flet a = flet b ↔ fold a = fold b := by
  rw [flet_fold, flet_fold]
  exact ⟨letters_inj, fun h => by rw [h]⟩
theorem alike_eq (a b : List UInt8) : alikeB a b = decide (fold a = fold b) := by
  unfold alikeB
  exact decide_eq_decide.2 ((ordN_eq _ _).trans (flet_iff a b))
theorem alike_fold (a : List UInt8) : alikeB a (fold a) = true := by rw [alike_eq, fold_fold, decide_eq_true rfl]
theorem ahead_flet {a a' b b' : List UInt8} (h : fold a = fold a') (h' : fold b = fold b') : aheadB a b = aheadB a' b' := by
  unfold aheadB
  rw [(flet_iff a a').2 h, (flet_iff b b').2 h']
/-- Just one of three. -/
theorem order_one (a b : List UInt8) : (aheadB a b = true ∧ aheadB b a = false ∧ alikeB a b = false) ∨ (aheadB a b = false ∧ aheadB b a = true ∧ alikeB a b = false) ∨ (aheadB a b = false ∧ aheadB b a = false ∧ alikeB a b = true) := by
  unfold aheadB alikeB
  rw [ordN_neg (flet a) (flet b)]
  generalize ordN (flet a) (flet b) = z
  simp only [decide_eq_true_eq, decide_eq_false_iff_not]
  omega
theorem ahead_trans {a b c : List UInt8} (h1 : aheadB a b = true) (h2 : aheadB b c = true) : aheadB a c = true := by
  unfold aheadB at *
  exact decide_eq_true (ordN_trans _ _ _ (of_decide_eq_true h1) (of_decide_eq_true h2))
theorem alike_ahead {a b c : List UInt8} (h : alikeB a b = true) : aheadB a c = aheadB b c := by
  rw [alike_eq] at h
  exact ahead_flet (of_decide_eq_true h) rfl
end Go.Proofs.YtanncmaojnmldaaDoor.U
