/- The reference's bytes and numbers of units, and whether bytes are the same, as the print tells them. -/
import Derived.Test.YtanncmaojnmldaaDoorPRx11
import Derived.Test.YtanncmaojnmldaaDoorPRx12
import Derived.Test.YtanncmaojnmldaaDoorRfirst
import Derived.Test.YtanncmaojnmldaaDoorUput
set_option linter.unusedVariables false
set_option linter.unusedSimpArgs false
namespace Go.Proofs.YtanncmaojnmldaaDoor.U
open Go.RowKit Go.Proofs.YtanncmaojnmldaaDoorW.PrintWords Go.Proofs.YtanncmaojnmldaaDoor.PR Go.Lib

theorem units_eq (n : Nat) (h : n ≤ 1114111) : refectoryref02_units.f (n : Int) = some ((unit n).map fun u : Nat => (u : Int)) := by
  unfold refectoryref02_units.f unit
  by_cases a : n < 65536
  · rw [if_pos (by omega), if_pos a]
    rfl
  · rw [if_neg (by omega), if_neg a, w64 (x := (n : Int) - 65536) (by omega) (by omega), Int.tdiv_eq_ediv_of_nonneg (by omega), Int.tmod_eq_emod_of_nonneg (by omega), w64 (x := ((n : Int) - 65536) / 1024) (by omega) (by omega), w64 (by omega) (by omega), w64 (by omega) (by omega)]
    simp only [List.map_cons, List.map_nil]
    congr 2
    · omega
    · congr 1
      omega
theorem lay_eq (u : Nat) (h : u < 65536) : ([(Int.tmod (u : Int) 256) % 256, (wrap64 (Int.tdiv (u : Int) 256)) % 256] : List Int) = [((u % 256 : Nat) : Int), ((u / 256 : Nat) : Int)] := by
  rw [Int.tdiv_eq_ediv_of_nonneg (by omega), Int.tmod_eq_emod_of_nonneg (by omega), w64 (by omega) (by omega)]
  congr 1
  · omega
  · congr 1
    omega
theorem l1_step (k : Nat) (ls acc us : List Int) (i : Int) (j u : Nat) (hj : j < us.length) (hu : us.getD j 0 = (u : Int)) (hul : u < 65536) (hl : acc.length + 2 < 140737488355328) (hus : us.length ≤ 10) :
    refectoryref02_Put.l1 (k + 1) ls acc i us j = refectoryref02_Put.l1 k ls (acc ++ [((u % 256 : Nat) : Int), ((u / 256 : Nat) : Int)]) i us ((j + 1 : Nat) : Int) := by
  rw [refectoryref02_Put.l1, if_pos (by omega), if_pos (by omega)]
  have hr : rd us (j : Int) = (u : Int) := by unfold rd; rw [Int.toNat_natCast]; exact hu
  rw [hr, lay_eq u hul, w64 (by omega) (by omega)]
  rw [Option.bind_some, if_pos (by simpa using hl)]
  rfl
theorem l1_end (k : Nat) (ls acc us : List Int) (i j : Nat) (hj : ¬ j < us.length) (hi : i ≤ 17592186044416) :
    refectoryref02_Put.l1 (k + 1) ls acc i us j = refectoryref02_Put.l0 k ls acc ((i + 1 : Nat) : Int) := by
  rw [refectoryref02_Put.l1, if_neg (by omega), w64 (by omega) (by omega)]
  rfl
theorem put_l0 (ns : List Nat) (hb : ∀ n ∈ ns, n ≤ 1114111) (hn : ns.length ≤ 17592186044415) : ∀ (d k i : Nat) (acc : List Int), ns.length - i ≤ d → i ≤ ns.length → acc.length ≤ 4 * i → 5 * d + 5 ≤ k →
    refectoryref02_Put.l0 k (ns.map fun n : Nat => (n : Int)) acc i = some (acc ++ ubytes ((ns.drop i).flatMap unit), 0) := by
  intro d
  induction d with
  | zero =>
    intro k i acc hd hi ha hk
    obtain ⟨k, rfl⟩ : ∃ m, k = m + 1 := ⟨k - 1, by omega⟩
    rw [refectoryref02_Put.l0, if_neg (by rw [List.length_map]; omega), List.drop_eq_nil_of_le (by omega)]
    simp [ubytes]
  | succ d ih =>
    intro k i acc hd hi ha hk
    by_cases hlt : i < ns.length
    · obtain ⟨k, rfl⟩ : ∃ m, k = m + 4 := ⟨k - 4, by omega⟩
      obtain ⟨n, hnn⟩ : ∃ n, ns[i] = n := ⟨_, rfl⟩
      have hnb : n ≤ 1114111 := by rw [← hnn]; exact hb _ (List.getElem_mem _)
      have hdr : ns.drop i = n :: ns.drop (i + 1) := by rw [List.drop_eq_getElem_cons hlt, hnn]
      have hr : rd (ns.map fun n : Nat => (n : Int)) (i : Int) = (n : Int) := by
        unfold rd
        rw [Int.toNat_natCast, List.getD_eq_getElem?_getD, List.getElem?_map, List.getElem?_eq_getElem hlt, hnn]
        rfl
      rw [hdr, List.flatMap_cons, ubytes_append]
      show refectoryref02_Put.l0 ((k + 3) + 1) _ _ _ = _
      rw [refectoryref02_Put.l0, if_pos (by rw [List.length_map]; omega), if_pos (by omega), hr, units_eq n hnb, Option.bind_some]
      by_cases a : n < 65536
      · have hu : unit n = [n] := by unfold unit; rw [if_pos a]
        rw [hu]
        show refectoryref02_Put.l1 ((k + 2) + 1) _ _ _ [(n : Int)] ((0 : Nat) : Int) = _
        rw [l1_step _ _ _ _ _ 0 n (by simp) rfl a (by omega) (by simp)]
        show refectoryref02_Put.l1 ((k + 1) + 1) _ _ _ _ _ = _
        rw [l1_end _ _ _ _ i 1 (by simp) (by omega), ih (k + 1) (i + 1) _ (by omega) (by omega) (by simp; omega) (by omega)]
        simp [ubytes]
      · obtain ⟨p, hp⟩ : ∃ p, 55296 + (n - 65536) / 1024 = p := ⟨_, rfl⟩
        obtain ⟨q, hq⟩ : ∃ q, 56320 + (n - 65536) % 1024 = q := ⟨_, rfl⟩
        have hu : unit n = [p, q] := by unfold unit; rw [if_neg a, hp, hq]
        rw [hu]
        show refectoryref02_Put.l1 ((k + 2) + 1) _ _ _ [(p : Int), (q : Int)] ((0 : Nat) : Int) = _
        rw [l1_step _ _ _ _ _ 0 p (by simp) rfl (by omega) (by omega) (by simp)]
        show refectoryref02_Put.l1 ((k + 1) + 1) _ _ _ _ _ = _
        rw [l1_step _ _ _ _ _ 1 q (by simp) rfl (by omega) (by simp; omega) (by simp)]
        show refectoryref02_Put.l1 (k + 1) _ _ _ _ _ = _
        rw [l1_end _ _ _ _ i 2 (by simp) (by omega), ih k (i + 1) _ (by omega) (by omega) (by simp; omega) (by omega)]
        simp [ubytes]
    · obtain ⟨k, rfl⟩ : ∃ m, k = m + 1 := ⟨k - 1, by omega⟩
      rw [refectoryref02_Put.l0, if_neg (by rw [List.length_map]; omega), List.drop_eq_nil_of_le (by omega)]
      simp [ubytes]

theorem letters_small (l : List UInt8) (hv : valid l = true) : ∀ n ∈ letters l, n ≤ 1114111 := by
  intro n hn
  have := (valid_iff l).1 hv n hn
  unfold IsLetter at this
  omega
theorem RPut_eq (s : ByteArray) (hs : s.size ≤ 17592186044415) (k : Nat) (hk : 5 * s.size + 20 ≤ k) : refectoryref02_Put.f k s = some (putBytes s.data.toList, errOf s.data.toList) := by
  unfold refectoryref02_Put.f
  rw [Letters_eq s hs k (by omega), Option.bind_some]
  unfold putBytes errOf
  cases hv : valid s.data.toList with
  | true =>
    have hl := letters_len s.data.toList
    rw [← size_eq] at hl
    simp only [if_true]
    have := put_l0 (letters s.data.toList) (letters_small _ hv) (by omega) s.size k 0 [] (by omega) (by omega) (by simp) (by omega)
    simpa [lnums, units] using this
  | false =>
    simp
theorem RUnits_eq (s : ByteArray) (hs : s.size ≤ 17592186044415) (k : Nat) (hk : 5 * s.size + 20 ≤ k) : refectoryref02_Units.f k s = some (countOf s.data.toList, errOf s.data.toList) := by
  unfold refectoryref02_Units.f
  rw [RPut_eq s hs k hk, Option.bind_some]
  unfold putBytes countOf
  have h1 := ubytes_len (units s.data.toList)
  have h2 := units_len s.data.toList
  rw [← size_eq] at h2
  cases hv : valid s.data.toList with
  | true =>
    simp only [if_true]
    rw [h1, w64 (by omega) (by omega)]
    congr 2
    omega
  | false =>
    simp only [Bool.false_eq_true, if_false]
    rw [show (([] : List Int).length : Int) / 2 = 0 from rfl, w64 (by omega) (by omega)]

/-- The same bytes? -/
theorem same_l0 (xs ys : List Int) (hl : xs.length = ys.length) (hn : xs.length ≤ 140737488355328) : ∀ (d k i : Nat), xs.length - i ≤ d → i ≤ xs.length → d + 1 ≤ k → refectoryref00_Same.l0 k xs ys i = some (decide (xs.drop i = ys.drop i)) := by
  intro d
  induction d with
  | zero =>
    intro k i hd hi hk
    obtain ⟨k, rfl⟩ : ∃ m, k = m + 1 := ⟨k - 1, by omega⟩
    rw [refectoryref00_Same.l0, if_neg (by omega), List.drop_eq_nil_of_le (by omega), List.drop_eq_nil_of_le (by omega)]
    simp
  | succ d ih =>
    intro k i hd hi hk
    obtain ⟨k, rfl⟩ : ∃ m, k = m + 1 := ⟨k - 1, by omega⟩
    by_cases hlt : i < xs.length
    · have hx : rd xs (i : Int) = xs[i] := by unfold rd; rw [Int.toNat_natCast, List.getD_eq_getElem?_getD, List.getElem?_eq_getElem hlt]; rfl
      have hy : rd ys (i : Int) = ys[i] := by unfold rd; rw [Int.toNat_natCast, List.getD_eq_getElem?_getD, List.getElem?_eq_getElem (by omega)]; rfl
      rw [refectoryref00_Same.l0, if_pos (by omega), if_pos (by omega), if_pos (by omega), hx, hy, List.drop_eq_getElem_cons hlt, List.drop_eq_getElem_cons (l := ys) (by omega)]
      by_cases e : xs[i] = ys[i]
      · rw [if_pos e, w64 (by omega) (by omega), show ((i : Int) + 1) = ((i + 1 : Nat) : Int) from rfl, ih k (i + 1) (by omega) (by omega) (by omega)]
        congr 1
        exact decide_eq_decide.2 ⟨fun h => by rw [e, h], fun h => by injection h⟩
      · rw [if_neg e]
        congr 1
        exact (decide_eq_false (fun h => e (by injection h))).symm
    · rw [refectoryref00_Same.l0, if_neg (by omega), List.drop_eq_nil_of_le (by omega), List.drop_eq_nil_of_le (by omega)]
      simp
theorem Same_eq (xs ys : List Int) (hn : xs.length ≤ 140737488355328) (k : Nat) (hk : xs.length + 1 ≤ k) : refectoryref00_Same.f k xs ys = some (decide (xs = ys)) := by
  unfold refectoryref00_Same.f
  by_cases hl : xs.length = ys.length
  · rw [if_pos (by omega)]
    have := same_l0 xs ys hl hn xs.length k 0 (by omega) (by omega) hk
    simpa using this
  · rw [if_neg (by omega)]
    congr 1
    exact (decide_eq_false (fun h => hl (by rw [h]))).symm
end Go.Proofs.YtanncmaojnmldaaDoor.U
