/- The reference's text of bytes, as the print tells it. -/
import Derived.Test.YtanncmaojnmldaaDoorPRx34
import Derived.Test.YtanncmaojnmldaaDoorRfirst
import Derived.Test.YtanncmaojnmldaaDoorUget
set_option linter.unusedVariables false
set_option linter.unusedSimpArgs false
namespace Go.Proofs.YtanncmaojnmldaaDoor.U
open Go.RowKit Go.Proofs.YtanncmaojnmldaaDoorW.PrintWords Go.Proofs.YtanncmaojnmldaaDoor.PR Go.Lib

def encZ (n : Nat) : List Int := (enc n).map fun b => (b.toNat : Int)
theorem encZ_len (n : Nat) : (encZ n).length ≤ 4 := by unfold encZ; rw [List.length_map]; exact (enc_len n).2
theorem bytes_eq (n : Nat) (h : n ≤ 1114111) : refectoryref02_bytes.f (n : Int) = some (encZ n) := by
  unfold refectoryref02_bytes.f encZ enc
  by_cases a1 : n < 128
  · rw [if_pos (by omega), if_pos a1]
    simp
  · rw [if_neg (by omega), if_neg a1]
    by_cases a2 : n < 2048
    · rw [if_pos (by omega), if_pos a2, Int.tdiv_eq_ediv_of_nonneg (by omega), Int.tmod_eq_emod_of_nonneg (by omega), w64 (x := (n : Int) / 64) (by omega) (by omega), w64 (by omega) (by omega), w64 (by omega) (by omega)]
      simp
    · rw [if_neg (by omega), if_neg a2]
      by_cases a3 : n < 65536
      · rw [if_pos (by omega), if_pos a3, Int.tdiv_eq_ediv_of_nonneg (by omega), Int.tmod_eq_emod_of_nonneg (a := (n : Int)) (by omega), w64 (x := (n : Int) / 4096) (by omega) (by omega), Int.tdiv_eq_ediv_of_nonneg (by omega), w64 (x := (n : Int) / 64) (by omega) (by omega), Int.tmod_eq_emod_of_nonneg (by omega), w64 (by omega) (by omega), w64 (by omega) (by omega), w64 (by omega) (by omega)]
        simp
      · rw [if_neg (by omega), if_neg a3, if_pos (by omega), Int.tdiv_eq_ediv_of_nonneg (by omega), Int.tdiv_eq_ediv_of_nonneg (by omega), Int.tdiv_eq_ediv_of_nonneg (by omega), Int.tmod_eq_emod_of_nonneg (a := (n : Int)) (by omega), w64 (x := (n : Int) / 262144) (by omega) (by omega), w64 (x := (n : Int) / 4096) (by omega) (by omega), w64 (x := (n : Int) / 64) (by omega) (by omega), Int.tmod_eq_emod_of_nonneg (by omega), Int.tmod_eq_emod_of_nonneg (by omega), w64 (by omega) (by omega), w64 (by omega) (by omega), w64 (by omega) (by omega), w64 (by omega) (by omega)]
        simp

/-- What the reference answers. -/
def gotZ (acc : List Int) : Option (List Nat) → Option (ByteArray × Int)
  | some ns => some (strOfNums (acc ++ ns.flatMap encZ), 0)
  | none => some (⟨#[]⟩, 5)
theorem gotZ_map (acc : List Int) (n : Nat) (r : Option (List Nat)) : gotZ (acc ++ encZ n) r = gotZ acc (r.map fun l => n :: l) := by
  cases r with
  | none => rfl
  | some ns => simp [gotZ]
theorem get_l0 (xs : List Int) (hb : ∀ x ∈ xs, 0 ≤ x ∧ x ≤ 255) (he : xs.length % 2 = 0) (hn : xs.length ≤ 17592186044415) : ∀ (d k i : Nat) (acc : List Int), xs.length - 2 * i ≤ d → 2 * i ≤ xs.length → acc.length ≤ 4 * i → 2 * d + 4 ≤ k →
    refectoryref02_Get.l0 k xs acc ((2 * i : Nat) : Int) = gotZ acc (getRun none (pairs (xs.drop (2 * i)))) := by
  intro d
  induction d using Nat.strongRecOn with
  | _ d ih =>
    intro k i acc hd hi ha hk
    by_cases hlt : 2 * i < xs.length
    · obtain ⟨k, rfl⟩ : ∃ m, k = m + 2 := ⟨k - 2, by omega⟩
      obtain ⟨x, hx⟩ : ∃ x, xs.getD (2 * i) 0 = x := ⟨_, rfl⟩
      obtain ⟨y, hy⟩ : ∃ y, xs.getD (2 * i + 1) 0 = y := ⟨_, rfl⟩
      have hxb := hb (xs.getD (2 * i) 0) (by rw [List.getD_eq_getElem?_getD, List.getElem?_eq_getElem (by omega)]; exact List.getElem_mem _)
      have hyb := hb (xs.getD (2 * i + 1) 0) (by rw [List.getD_eq_getElem?_getD, List.getElem?_eq_getElem (by omega)]; exact List.getElem_mem _)
      have hp := pairs_drop xs i (by omega)
      rw [hx] at hxb hp
      rw [hy] at hyb hp
      obtain ⟨u, hu⟩ : ∃ u, (x + 256 * y).toNat = u := ⟨_, rfl⟩
      rw [hu] at hp
      have r0 : rd xs ((2 * i : Nat) : Int) = x := by unfold rd; rw [Int.toNat_natCast]; exact hx
      have r1 : rd xs (((2 * i : Nat) : Int) + 1) = y := by unfold rd; rw [show (((2 * i : Nat) : Int) + 1) = ((2 * i + 1 : Nat) : Int) from by omega, Int.toNat_natCast]; exact hy
      have hun : wrap64 ((wrap64 x) + (wrap64 (256 * (wrap64 y)))) = (u : Int) := by
        rw [w64 (x := x) (by omega) (by omega), w64 (x := y) (by omega) (by omega), w64 (x := 256 * y) (by omega) (by omega), w64 (by omega) (by omega)]
        omega
      have hul : u < 65536 := by omega
      rw [hp]
      show refectoryref02_Get.l0 ((k + 1) + 1) _ _ _ = _
      rw [refectoryref02_Get.l0, w64 (x := ((2 * i : Nat) : Int) + 1) (by omega) (by omega), if_pos (by omega), if_pos (by omega), if_pos (by omega), if_pos (by omega), r0, r1, hun]
      by_cases c1 : 55296 ≤ u ∧ u < 56320
      · rw [if_pos (by omega), decide_eq_true (by omega), refectoryref02_Get.j1, if_pos rfl, w64 (x := ((2 * i : Nat) : Int) + 3) (by omega) (by omega)]
        have hg : getRun none (u :: pairs (xs.drop (2 * (i + 1)))) = getRun (some u) (pairs (xs.drop (2 * (i + 1)))) := by
          simp only [getRun]
          rw [if_neg (by omega), if_pos c1]
        rw [hg]
        by_cases c2 : 2 * i + 3 < xs.length
        · obtain ⟨x', hx'⟩ : ∃ x', xs.getD (2 * (i + 1)) 0 = x' := ⟨_, rfl⟩
          obtain ⟨y', hy'⟩ : ∃ y', xs.getD (2 * (i + 1) + 1) 0 = y' := ⟨_, rfl⟩
          have hxb' := hb (xs.getD (2 * (i + 1)) 0) (by rw [List.getD_eq_getElem?_getD, List.getElem?_eq_getElem (by omega)]; exact List.getElem_mem _)
          have hyb' := hb (xs.getD (2 * (i + 1) + 1) 0) (by rw [List.getD_eq_getElem?_getD, List.getElem?_eq_getElem (by omega)]; exact List.getElem_mem _)
          have hp' := pairs_drop xs (i + 1) (by omega)
          rw [hx'] at hxb' hp'
          rw [hy'] at hyb' hp'
          obtain ⟨v, hv⟩ : ∃ v, (x' + 256 * y').toNat = v := ⟨_, rfl⟩
          rw [hv] at hp'
          have r2 : rd xs (((2 * i : Nat) : Int) + 2) = x' := by unfold rd; rw [show (((2 * i : Nat) : Int) + 2) = ((2 * (i + 1) : Nat) : Int) from by omega, Int.toNat_natCast]; exact hx'
          have r3 : rd xs (((2 * i : Nat) : Int) + 3) = y' := by unfold rd; rw [show (((2 * i : Nat) : Int) + 3) = ((2 * (i + 1) + 1 : Nat) : Int) from by omega, Int.toNat_natCast]; exact hy'
          have hvn : wrap64 ((wrap64 x') + (wrap64 (256 * (wrap64 y')))) = (v : Int) := by
            rw [w64 (x := x') (by omega) (by omega), w64 (x := y') (by omega) (by omega), w64 (x := 256 * y') (by omega) (by omega), w64 (by omega) (by omega)]
            omega
          rw [hp', if_neg (by omega), if_pos (by omega), if_pos (by omega), r3]
          by_cases c3 : 56320 ≤ v ∧ v < 57344
          · have hg2 : getRun (some u) (v :: pairs (xs.drop (2 * (i + 1 + 1)))) = (getRun none (pairs (xs.drop (2 * (i + 1 + 1))))).map fun l => (65536 + (u - 55296) * 1024 + (v - 56320)) :: l := by
              simp only [getRun]
              rw [if_pos c3]
            have hb3 : wrap64 ((wrap64 ((wrap64 (65536 + (wrap64 (1024 * (wrap64 ((u : Int) - 55296)))))) + (v : Int))) - 56320) = ((65536 + (u - 55296) * 1024 + (v - 56320) : Nat) : Int) := by
              rw [w64 (x := (u : Int) - 55296) (by omega) (by omega), w64 (x := 1024 * ((u : Int) - 55296)) (by omega) (by omega), w64 (x := 65536 + 1024 * ((u : Int) - 55296)) (by omega) (by omega), w64 (x := 65536 + 1024 * ((u : Int) - 55296) + v) (by omega) (by omega), w64 (by omega) (by omega)]
              omega
            have hlen := encZ_len (65536 + (u - 55296) * 1024 + (v - 56320))
            rw [if_neg (by omega), if_neg (by omega), w64 (x := ((2 * i : Nat) : Int) + 2) (by omega) (by omega), if_pos (by omega), if_pos (by omega), r2, hvn, hb3, bytes_eq _ (by omega), Option.bind_some, if_pos (by omega), w64 (by omega) (by omega), hg2, ← gotZ_map,
              show (((2 * i : Nat) : Int) + 2 + 2) = ((2 * (i + 1 + 1) : Nat) : Int) from by omega]
            exact ih (d - 4) (by omega) k (i + 1 + 1) _ (by omega) (by omega) (by rw [List.length_append]; omega) (by omega)
          · have hg2 : getRun (some u) (v :: pairs (xs.drop (2 * (i + 1 + 1)))) = none := by
              simp only [getRun]
              rw [if_neg c3]
            rw [hg2]
            by_cases c4 : y' < 220
            · rw [if_pos c4]; rfl
            · rw [if_neg c4, if_pos (by omega)]; rfl
        · rw [if_pos (by omega), pairs_end xs (i + 1) (by omega)]
          rfl
      · have hd2 : decide ((u : Int) < 56320) = true → ¬ 55296 ≤ u := by
          intro h
          have := of_decide_eq_true h
          omega
        have hj : (if (u : Int) ≥ 55296 then refectoryref02_Get.j1 (k + 1) xs acc ((2 * i : Nat) : Int) (u : Int) (decide ((u : Int) < 56320)) else refectoryref02_Get.j1 (k + 1) xs acc ((2 * i : Nat) : Int) (u : Int) false) = refectoryref02_Get.j1 (k + 1) xs acc ((2 * i : Nat) : Int) (u : Int) false := by
          by_cases c : (u : Int) ≥ 55296
          · rw [if_pos c, decide_eq_false (by omega)]
          · rw [if_neg c]
        rw [hj, refectoryref02_Get.j1, if_neg (by decide), letter_eq, Option.bind_some]
        by_cases c2 : 56320 ≤ u ∧ u < 57344
        · have hg : getRun none (u :: pairs (xs.drop (2 * (i + 1)))) = none := by
            simp only [getRun]
            rw [if_pos c2]
          rw [hg, if_neg (by simp; omega)]
          rfl
        · have hg : getRun none (u :: pairs (xs.drop (2 * (i + 1)))) = (getRun none (pairs (xs.drop (2 * (i + 1))))).map fun l => u :: l := by
            simp only [getRun]
            rw [if_neg c2, if_neg c1]
          have hlen := encZ_len u
          rw [hg, if_pos (by simp; omega), bytes_eq u (by omega), Option.bind_some, if_pos (by omega), w64 (by omega) (by omega), ← gotZ_map, show (((2 * i : Nat) : Int) + 2) = ((2 * (i + 1) : Nat) : Int) from by omega]
          exact ih (d - 2) (by omega) (k) (i + 1) _ (by omega) (by omega) (by rw [List.length_append]; omega) (by omega)
    · obtain ⟨k, rfl⟩ : ∃ m, k = m + 1 := ⟨k - 1, by omega⟩
      rw [refectoryref02_Get.l0, if_neg (by omega), pairs_end xs i (by omega)]
      simp [gotZ, getRun]
theorem RGet_eq (xs : List Int) (hb : ∀ x ∈ xs, 0 ≤ x ∧ x ≤ 255) (hn : xs.length ≤ 17592186044415) (k : Nat) (hk : 2 * xs.length + 4 ≤ k) : refectoryref02_Get.f k xs = some (⟨(getText xs).toArray⟩, getErr xs) := by
  unfold refectoryref02_Get.f getText getErr
  by_cases he : xs.length % 2 = 0
  · rw [if_pos (by omega), letters_even he]
    have := get_l0 xs hb he hn xs.length k 0 [] (by omega) (by omega) (by simp) hk
    rw [Nat.mul_zero, List.drop_zero] at this
    rw [show (0 : Int) = ((0 : Nat) : Int) from rfl, this]
    cases getRun none (pairs xs) with
    | none => rfl
    | some ns =>
      simp only [gotZ, List.nil_append]
      congr 2
      unfold strOfNums encZ
      rw [← List.map_flatMap, List.map_map]
      congr 2
      rw [List.map_congr_left (g := fun b => b) (fun b _ => by simp), List.map_id']
  · rw [if_neg (by omega), letters_odd he]
end Go.Proofs.YtanncmaojnmldaaDoor.U
