/- refectoryref05.Fits: the document's answer is what the plain words say. -/
import Derived.Test.YtfglhnnbfmpfeaaDoorPRx20
import Derived.Test.YtfglhnnbfmpfeaaDoorPRx19
import Derived.Test.YtfglhnnbfmpfeaaDoorRfirst
import Derived.Test.YtfglhnnbfmpfeaaDoorGwalk
set_option linter.unusedVariables false
set_option linter.unusedSimpArgs false
namespace Go.Proofs.YtfglhnnbfmpfeaaDoor.U
open Go.RowKit Go.Proofs Go.Lib Go.Proofs.YtfglhnnbfmpfeaaDoorW.PrintWords Go.Proofs.YtfglhnnbfmpfeaaDoor.PR

/-- A row of the reference: at k: do the first k letters of the pattern fit? -/
def RowIs (P t : List Int) (x : List Bool) : Prop := x.length = P.length + 1 ∧ ∀ j, j ≤ P.length → x.getD j false = mt (P.take j) t
theorem take_snoc {P : List Int} {j : Nat} (h : j < P.length) : P.take (j + 1) = P.take j ++ [P.getD j 0] := by
  rw [List.take_add_one, List.getElem?_eq_getElem h, List.getD_eq_getElem?_getD, List.getElem?_eq_getElem h]
  rfl
theorem getD_set (x : List Bool) (a j : Nat) (b : Bool) (h : a < x.length) : (x.set a b).getD j false = if j = a then b else x.getD j false := by
  rw [List.getD_eq_getElem?_getD, List.getD_eq_getElem?_getD, List.getElem?_set]
  by_cases e : a = j
  · subst e
    rw [if_pos rfl, if_pos h, if_pos rfl]
    rfl
  · rw [if_neg e, if_neg (Ne.symm e)]
theorem w64n {n : Nat} (h : n ≤ 9000000000000000000) : wrap64 ((n : Int) + 1) = ((n + 1 : Nat) : Int) := by rw [w64 (by omega) (by omega)]; omega

theorem fits_l0 (P T : List Int) (hP : P.length ≤ 100) : ∀ (d k j : Nat) (x : List Bool), P.length - j ≤ d → j ≤ P.length → x.length = P.length + 1 → (∀ i, i ≤ P.length → x.getD i false = decide (i ≤ j)) → (∀ i, i < j → P.getD i 0 = 42) → d + 3 ≤ k →
    ∃ k' y, k ≤ k' + d + 2 ∧ RowIs P [] y ∧ refectoryref05_fits.l0 k P T x j = refectoryref05_fits.l1 k' P T y 0 := by
  have fin : ∀ (j : Nat) (x : List Bool), j ≤ P.length → x.length = P.length + 1 → (∀ i, i ≤ P.length → x.getD i false = decide (i ≤ j)) → (∀ i, i < j → P.getD i 0 = 42) → (j < P.length → P.getD j 0 ≠ 42) → RowIs P [] x := by
    intro j x hj hl hx hs hne
    have stars : ∀ i, i ≤ j → mt (P.take i) [] = true := by
      intro i
      induction i with
      | zero => intro _; rfl
      | succ i ih =>
        intro hi
        rw [take_snoc (by omega), hs i (by omega), mt_snoc_star_nil]
        exact ih (by omega)
    refine ⟨hl, fun i hi => ?_⟩
    rw [hx i hi]
    by_cases hij : i ≤ j
    · rw [decide_eq_true hij, stars i hij]
    · rw [decide_eq_false hij]
      have none_ : ∀ m, j + 1 + m ≤ P.length → mt (P.take (j + 1 + m)) [] = false := by
        intro m
        induction m with
        | zero =>
          intro h
          rw [Nat.add_zero, take_snoc (by omega), mt_snoc_one_nil (hne (by omega))]
        | succ m ih =>
          intro h
          rw [show j + 1 + (m + 1) = j + 1 + m + 1 by omega, take_snoc (by omega)]
          by_cases hc : P.getD (j + 1 + m) 0 = 42
          · rw [hc, mt_snoc_star_nil]
            exact ih (by omega)
          · exact mt_snoc_one_nil hc _
      have := none_ (i - (j + 1)) (by omega)
      rw [show j + 1 + (i - (j + 1)) = i by omega] at this
      rw [this]
  intro d
  induction d with
  | zero =>
    intro k j x hd hj hl hx hs hk
    obtain ⟨k, rfl⟩ : ∃ m, k = m + 2 := ⟨k - 2, by omega⟩
    refine ⟨k, x, by omega, fin j x hj hl hx hs (fun h => by omega), ?_⟩
    rw [refectoryref05_fits.l0, if_neg (by omega), refectoryref05_fits.j1]
  | succ d ih =>
    intro k j x hd hj hl hx hs hk
    obtain ⟨k, rfl⟩ : ∃ m, k = m + 2 := ⟨k - 2, by omega⟩
    by_cases hjl : j < P.length
    · rw [refectoryref05_fits.l0, if_pos (by omega), if_pos (by omega)]
      have hr : rd P (j : Int) = P.getD j 0 := by unfold rd; rw [Int.toNat_natCast]
      rw [hr]
      by_cases h42 : P.getD j 0 = 42
      · rw [if_pos h42, w64n (by omega), if_pos (by omega), if_pos (by omega), Int.toNat_natCast]
        obtain ⟨k', y, h1, h2, h3⟩ := ih (k + 1) (j + 1) (x.set (j + 1) true) (by omega) (by omega) (by simp [hl]) (fun i hi => by
          rw [getD_set _ _ _ _ (by omega)]
          split
          · rename_i e
            rw [decide_eq_true (by omega)]
          · rw [hx i hi]
            exact decide_eq_decide.2 (by omega)) (fun i hi => by
          by_cases e : i = j
          · subst e; exact h42
          · exact hs i (by omega)) (by omega)
        exact ⟨k', y, by omega, h2, h3⟩
      · rw [if_neg h42, refectoryref05_fits.j1]
        exact ⟨k, x, by omega, fin j x hj hl hx hs (fun _ => h42), rfl⟩
    · rw [refectoryref05_fits.l0, if_neg (by omega), refectoryref05_fits.j1]
      exact ⟨k, x, by omega, fin j x hj hl hx hs (fun h => absurd h hjl), rfl⟩

/-- A row from the one ahead of it. -/
def NextIs (P t : List Int) (c : Int) (j : Nat) (y : List Bool) : Prop := y.length = P.length + 1 ∧ ∀ i, i ≤ P.length → y.getD i false = if i ≤ j then mt (P.take i) (t ++ [c]) else false
theorem NextIs.set {P t : List Int} {c : Int} {j : Nat} {y : List Bool} (h : NextIs P t c j y) (hj : j < P.length) (b : Bool) (hb : b = mt (P.take (j + 1)) (t ++ [c])) : NextIs P t c (j + 1) (y.set (j + 1) b) := by
  refine ⟨by rw [List.length_set]; exact h.1, fun i hi => ?_⟩
  rw [getD_set _ _ _ _ (by rw [h.1]; omega)]
  by_cases e : i = j + 1
  · rw [if_pos e, if_pos (by omega), e, hb]
  · rw [if_neg e, h.2 i hi]
    by_cases e2 : i ≤ j
    · rw [if_pos e2, if_pos (by omega)]
    · rw [if_neg e2, if_neg (by omega)]
theorem NextIs.keep {P t : List Int} {c : Int} {j : Nat} {y : List Bool} (h : NextIs P t c j y) (hj : j < P.length) (hb : mt (P.take (j + 1)) (t ++ [c]) = false) : NextIs P t c (j + 1) y := by
  refine ⟨h.1, fun i hi => ?_⟩
  rw [h.2 i hi]
  by_cases e : i = j + 1
  · rw [if_neg (by omega), if_pos (by omega), e, hb]
  · by_cases e2 : i ≤ j
    · rw [if_pos e2, if_pos (by omega)]
    · rw [if_neg e2, if_neg (by omega)]

theorem fits_l2 (P T : List Int) (hP : P.length ≤ 100) (hT : T.length ≤ 1000) (i : Nat) (hi : i < T.length) (x : List Bool) (hx : RowIs P (T.take i) x) : ∀ (d k j : Nat) (y : List Bool), P.length - j ≤ d → j ≤ P.length → NextIs P (T.take i) (T.getD i 0) j y → d + 1 ≤ k →
    ∃ k' z, k ≤ k' + d + 1 ∧ RowIs P (T.take (i + 1)) z ∧ refectoryref05_fits.l2 k P T x i y j = refectoryref05_fits.l1 k' P T z ((i + 1 : Nat) : Int) := by
  have fin : ∀ y, NextIs P (T.take i) (T.getD i 0) P.length y → RowIs P (T.take (i + 1)) y := fun y h => ⟨h.1, fun j hj => by rw [h.2 j hj, if_pos hj, take_snoc hi]⟩
  intro d
  induction d with
  | zero =>
    intro k j y hd hj hy hk
    obtain ⟨k, rfl⟩ : ∃ m, k = m + 1 := ⟨k - 1, by omega⟩
    obtain rfl : j = P.length := by omega
    refine ⟨k, y, by omega, fin y hy, ?_⟩
    rw [refectoryref05_fits.l2, if_neg (by omega), w64n (by omega)]
  | succ d ih =>
    intro k j y hd hj hy hk
    obtain ⟨k, rfl⟩ : ∃ m, k = m + 1 := ⟨k - 1, by omega⟩
    by_cases hjl : j < P.length
    · have hr : rd P (j : Int) = P.getD j 0 := by unfold rd; rw [Int.toNat_natCast]
      have hrT : rd T (i : Int) = T.getD i 0 := by unfold rd; rw [Int.toNat_natCast]
      have x0 : rdOf false x (j : Int) = mt (P.take j) (T.take i) := by unfold rdOf; rw [Int.toNat_natCast]; exact hx.2 j (by omega)
      have x1 : rdOf false x ((j + 1 : Nat) : Int) = mt (P.take (j + 1)) (T.take i) := by unfold rdOf; rw [Int.toNat_natCast]; exact hx.2 (j + 1) (by omega)
      have y0 : rdOf false y (j : Int) = mt (P.take j) (T.take i ++ [T.getD i 0]) := by unfold rdOf; rw [Int.toNat_natCast, hy.2 j (by omega), if_pos (Nat.le_refl _)]
      have lx := hx.1
      have ly := hy.1
      have next : ∀ (b : Bool), b = mt (P.take (j + 1)) (T.take i ++ [T.getD i 0]) → ∃ k' z, k + 1 ≤ k' + (d + 1) + 1 ∧ RowIs P (T.take (i + 1)) z ∧ refectoryref05_fits.l2 k P T x i (y.set (j + 1) b) ((j + 1 : Nat) : Int) = refectoryref05_fits.l1 k' P T z ((i + 1 : Nat) : Int) := by
        intro b hb
        obtain ⟨k', z, h1, h2, h3⟩ := ih k (j + 1) _ (by omega) (by omega) (hy.set hjl b hb) (by omega)
        exact ⟨k', z, by omega, h2, h3⟩
      rw [refectoryref05_fits.l2, if_pos (by omega), if_pos (by omega), hr, hrT, w64n (by omega), Int.toNat_natCast, x0, x1, y0]
      have t1 : P.take (j + 1) = P.take j ++ [P.getD j 0] := take_snoc hjl
      by_cases h42 : P.getD j 0 = 42
      · rw [h42] at t1
        have e := mt_snoc_star_snoc (P.take j) (T.take i) (T.getD i 0)
        rw [← t1] at e
        rw [if_pos h42, if_pos (by omega), if_pos (by omega)]
        by_cases c1 : mt (P.take (j + 1)) (T.take i) = true
        · rw [if_pos c1, if_pos (by omega)]
          exact next true (by rw [e, c1]; rfl)
        · have c0 : ¬ mt (P.take j) (T.take i) = true := by
            intro h
            apply c1
            rw [t1, mt_snoc_star]
            exact ⟨T.take i, [], by simp, h⟩
          rw [if_neg c1, if_pos (by omega), if_neg c0, if_pos (by omega), if_pos (by omega)]
          rw [Bool.not_eq_true] at c1
          exact next _ (by rw [e, c1, Bool.false_or])
      · have e := mt_snoc_one h42 (P.take j) (T.take i) (T.getD i 0)
        rw [← t1] at e
        unfold okc at e
        rw [if_neg h42]
        by_cases h63 : P.getD j 0 = 63
        · rw [if_pos h63, if_pos (by omega), if_pos (by omega), if_pos (by omega)]
          exact next _ (by rw [e, decide_eq_true h63, Bool.true_or, Bool.true_and])
        · rw [if_neg h63, if_pos (by omega), if_pos (by omega)]
          by_cases hc : P.getD j 0 = T.getD i 0
          · rw [if_pos hc, if_pos (by omega), if_pos (by omega), if_pos (by omega)]
            exact next _ (by rw [e, decide_eq_true hc, Bool.or_true, Bool.true_and])
          · rw [if_neg hc]
            obtain ⟨k', z, h1, h2, h3⟩ := ih k (j + 1) y (by omega) (by omega) (hy.keep hjl (by rw [e, decide_eq_false h63, decide_eq_false hc]; rfl)) (by omega)
            exact ⟨k', z, by omega, h2, h3⟩
    · obtain rfl : j = P.length := by omega
      refine ⟨k, y, by omega, fin y hy, ?_⟩
      rw [refectoryref05_fits.l2, if_neg (by omega), w64n (by omega)]
theorem fits_l1 (P T : List Int) (hP : P.length ≤ 100) (hT : T.length ≤ 1000) : ∀ (d k i : Nat) (x : List Bool), T.length - i ≤ d → i ≤ T.length → RowIs P (T.take i) x → d * (P.length + 3) + 1 ≤ k →
    refectoryref05_fits.l1 k P T x i = some (mt P T) := by
  intro d
  induction d with
  | zero =>
    intro k i x hd hi hx hk
    obtain ⟨k, rfl⟩ : ∃ m, k = m + 1 := ⟨k - 1, by omega⟩
    have hl := hx.1
    rw [refectoryref05_fits.l1, if_neg (by omega), if_pos (by omega), if_pos (by omega)]
    unfold rdOf
    rw [Int.toNat_natCast, hx.2 _ (Nat.le_refl _), List.take_length, List.take_of_length_le (by omega)]
  | succ d ih =>
    intro k i x hd hi hx hk
    rw [Nat.add_mul, Nat.one_mul] at hk
    obtain ⟨k, rfl⟩ : ∃ m, k = m + 1 := ⟨k - 1, by omega⟩
    have hl := hx.1
    by_cases h : i < T.length
    · rw [refectoryref05_fits.l1, if_pos (by omega), w64n (by omega), if_pos (by omega), if_pos (by omega), Int.toNat_natCast]
      have h0 : NextIs P (T.take i) (T.getD i 0) 0 (List.replicate (P.length + 1) false) := by
        refine ⟨by simp, fun j hj => ?_⟩
        have e : (List.replicate (P.length + 1) false).getD j false = false := by
          rw [List.getD_eq_getElem?_getD, List.getElem?_replicate]
          split <;> rfl
        rw [e]
        split
        · obtain rfl : j = 0 := by omega
          rw [List.take_zero, mt_nil]
          cases T.take i <;> rfl
        · rfl
      obtain ⟨k', z, h1, h2, h3⟩ := fits_l2 P T hP hT i h x hx P.length k 0 _ (by omega) (by omega) h0 (by omega)
      rw [show ((0 : Nat) : Int) = 0 from rfl] at h3
      rw [h3]
      exact ih k' (i + 1) z (by omega) (by omega) h2 (by omega)
    · rw [refectoryref05_fits.l1, if_neg (by omega), if_pos (by omega), if_pos (by omega)]
      unfold rdOf
      rw [Int.toNat_natCast, hx.2 _ (Nat.le_refl _), List.take_length, List.take_of_length_le (by omega)]
theorem fits_eq (P T : List Int) (hP : P.length ≤ 64) (hT : T.length ≤ 256) (k : Nat) (hk : 20000 ≤ k) : refectoryref05_fits.f k P T = some (mt P T) := by
  unfold refectoryref05_fits.f
  rw [w64n (by omega), if_pos (by omega), if_pos (by omega), Option.bind_some, Int.toNat_natCast, List.length_replicate, if_pos (by omega)]
  obtain ⟨k', y, h1, h2, h3⟩ := fits_l0 P T (by omega) P.length k 0 ((List.replicate (P.length + 1) false).set 0 true) (by omega) (by omega) (by simp) (fun i hi => by
    rw [getD_set _ _ _ _ (by simp)]
    split
    · rename_i e
      rw [decide_eq_true (by omega)]
    · rw [decide_eq_false (by omega), List.getD_eq_getElem?_getD, List.getElem?_replicate]
      split <;> rfl) (fun i hi => by omega) (by omega)
  rw [show ((0 : Nat) : Int) = 0 from rfl] at h3
  rw [show (0 : Int).toNat = 0 from rfl, h3]
  have := fits_l1 P T (by omega) (by omega) T.length k' 0 y (by omega) (by omega) (by rw [List.take_zero]; exact h2) (by
    have : T.length * (P.length + 3) ≤ 256 * 67 := Nat.mul_le_mul hT (by omega)
    omega)
  exact this

/-! ### The letters, folded -/
theorem fold_l0 (s : ByteArray) (hs : s.size ≤ 17592186044415) : ∀ (d k i : Nat) (acc : List Int), s.size - i ≤ d → i ≤ s.size → acc.length ≤ i → d + 1 ≤ k →
    refectoryref02_Fold.l0 k s acc i = some (strOfNums (acc ++ (fold (s.data.toList.drop i)).map fun b => (b.toNat : Int))) := by
  intro d
  induction d with
  | zero =>
    intro k i acc hd hi ha hk
    obtain ⟨k, rfl⟩ : ∃ m, k = m + 1 := ⟨k - 1, by omega⟩
    rw [refectoryref02_Fold.l0, if_neg (by omega), List.drop_eq_nil_of_le (by rw [← size_eq]; omega)]
    simp [fold]
  | succ d ih =>
    intro k i acc hd hi ha hk
    obtain ⟨k, rfl⟩ : ∃ m, k = m + 1 := ⟨k - 1, by omega⟩
    by_cases h : i < s.size
    · have hb := bt_drop s i 0 (by omega)
      rw [Nat.add_zero] at hb
      have hlt : i < s.data.toList.length := by rw [← size_eq]; exact h
      have hd' : s.data.toList.drop i = s.data.toList[i] :: s.data.toList.drop (i + 1) := List.drop_eq_getElem_cons hlt
      rw [hd'] at hb
      simp only [List.getD_cons_zero] at hb
      have h256 := (s.data.toList[i]).toNat_lt
      have hz := foldB_nat s.data.toList[i]
      unfold foldN at hz
      rw [refectoryref02_Fold.l0, if_pos (by omega), if_pos (by omega), hb, hd', w64n (by omega)]
      have fin : ∀ z : Int, z = ((foldB s.data.toList[i]).toNat : Int) → (if acc.length < 140737488355328 then refectoryref02_Fold.l0 k s (acc ++ [z]) ((i + 1 : Nat) : Int) else none) = some (strOfNums (acc ++ (fold (s.data.toList[i] :: s.data.toList.drop (i + 1))).map fun b => (b.toNat : Int))) := by
        intro z hz
        rw [if_pos (by omega), ih k (i + 1) _ (by omega) (by omega) (by simp; omega) (by omega), hz]
        simp [fold]
      generalize s.data.toList[i] = c at *
      by_cases h1 : 65 ≤ c.toNat
      · rw [if_pos (by omega)]
        by_cases h2 : c.toNat ≤ 90
        · rw [if_pos (by omega)]
          rw [if_pos ⟨h1, h2⟩] at hz
          exact fin _ (by omega)
        · rw [if_neg (by omega)]
          rw [if_neg (by omega)] at hz
          exact fin _ (by omega)
      · rw [if_neg (by omega)]
        rw [if_neg (by omega)] at hz
        exact fin _ (by omega)
    · rw [refectoryref02_Fold.l0, if_neg (by omega), List.drop_eq_nil_of_le (by rw [← size_eq]; omega)]
      simp [fold]
theorem RFold_eq (s : ByteArray) (hs : s.size ≤ 17592186044415) (k : Nat) (hk : s.size + 1 ≤ k) : refectoryref02_Fold.f k s = some ⟨(fold s.data.toList).toArray⟩ := by
  unfold refectoryref02_Fold.f
  have := fold_l0 s hs s.size k 0 [] (by omega) (by omega) (by simp) hk
  rw [show ((0 : Nat) : Int) = 0 from rfl] at this
  rw [this]
  simp only [strOfNums, List.map_map, List.nil_append, List.drop_zero]
  congr 3
  rw [List.map_congr_left (g := fun b => b) (fun b _ => by simp), List.map_id']
theorem Rletters_eq (s : ByteArray) (hs : s.size ≤ 17592186044415) (k : Nat) (hk : s.size + 9 ≤ k) : refectoryref05_letters.f k s = some (fnums s.data.toList, valid s.data.toList) := by
  unfold refectoryref05_letters.f
  have hz : (⟨(fold s.data.toList).toArray⟩ : ByteArray).size = s.size := by rw [size_eq, List.toList_toArray, fold_length, ← size_eq]
  rw [RFold_eq s hs k (by omega), Option.bind_some, Letters_eq _ (by omega) k (by omega), Option.bind_some]
  show some (lnums (fold s.data.toList), valid (fold s.data.toList)) = _
  unfold lnums fnums flet
  rw [letters_fold, valid_fold]
theorem Rasked_eq (a b : ByteArray) (ha : a.size ≤ 17592186044415) (hb : b.size ≤ 17592186044415) (k : Nat) (hk : a.size + b.size + 10 ≤ k) :
    refectoryref05_asked.f k a b = some (if askE a.data.toList b.data.toList = 0 then (fnums a.data.toList, fnums b.data.toList, 0) else ([], [], askE a.data.toList b.data.toList)) := by
  obtain ⟨k, rfl⟩ : ∃ m, k = m + 1 := ⟨k - 1, by omega⟩
  unfold refectoryref05_asked.f
  rw [Rletters_eq a ha _ (by omega), Option.bind_some, Rletters_eq b hb _ (by omega), Option.bind_some]
  unfold askE
  generalize fnums a.data.toList = P
  generalize fnums b.data.toList = T
  cases valid a.data.toList <;> cases valid b.data.toList
  · simp [refectoryref05_asked.j0]
  · simp [refectoryref05_asked.j0]
  · simp [refectoryref05_asked.j0]
  · simp only [refectoryref05_asked.j0, Bool.not_true, if_true, and_self, Bool.false_eq_true, if_false]
    by_cases h1 : 64 < P.length
    · have e : (if 64 < P.length ∨ 256 < T.length then (3 : Int) else 0) = 3 := if_pos (.inl h1)
      rw [if_pos (by omega), e]
      rfl
    · rw [if_neg (by omega)]
      by_cases h2 : 256 < T.length
      · have e : (if 64 < P.length ∨ 256 < T.length then (3 : Int) else 0) = 3 := if_pos (.inr h2)
        rw [if_pos (by omega), e]
        rfl
      · have e : (if 64 < P.length ∨ 256 < T.length then (3 : Int) else 0) = 0 := if_neg (by omega)
        rw [if_neg (by omega), e]
        rfl
theorem ask_len {a b : List UInt8} (h : askE a b = 0) : (fnums a).length ≤ 64 ∧ (fnums b).length ≤ 256 := by
  unfold askE at h
  split at h
  · split at h
    · cases h
    · omega
  · cases h
theorem RFits_eq (a b : ByteArray) (ha : a.size ≤ 17592186044415) (hb : b.size ≤ 17592186044415) (k : Nat) (hk : a.size + b.size + 20010 ≤ k) :
    refectoryref05_Fits.f k a b = some (fitB a.data.toList b.data.toList, askE a.data.toList b.data.toList) := by
  unfold refectoryref05_Fits.f
  rw [Rasked_eq a b ha hb k (by omega), Option.bind_some]
  unfold fitB
  by_cases h : askE a.data.toList b.data.toList = 0
  · obtain ⟨h1, h2⟩ := ask_len h
    rw [if_pos h, if_pos h]
    dsimp only
    rw [if_pos rfl, fits_eq _ _ h1 h2 k (by omega), Option.bind_some, h]
  · rw [if_neg h, if_neg h]
    dsimp only
    rw [if_neg h]
end Go.Proofs.YtfglhnnbfmpfeaaDoor.U
