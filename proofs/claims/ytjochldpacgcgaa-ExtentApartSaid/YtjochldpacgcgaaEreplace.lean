/- slices.Replace of a part by one piece. -/
import Derived.Test.YtjochldpacgcgaaEreplace0
set_option linter.unusedVariables false
set_option linter.unusedSimpArgs false
namespace Go.Proofs.Ytjochldpacgcgaa.U
open Go.RowKit Go.Proofs Go.Lib Go.Proofs.YtjochldpacgcgaaW.PrintWords

set_option maxHeartbeats 4000000 in
set_option maxRecDepth 1000000 in
theorem Replace_tail (L n c i : Nat) (xs sp : List Value) (V : Nat) (a b : Value) (w : World) (hL : w.heap[L]? = some (.cells (xs ++ sp).toArray 41 (0, 0))) (hxl : xs.length = n * 2) (hnc : n ≤ c) (hc : c * 2 ≤ xs.length + sp.length) (hV : w.heap[V]? = some (.cells #[a, b] 41 (0, 0))) (ha : a.oneCell' = true) (hb' : b.oneCell' = true) (hn : n ≤ 1000000) (hi : i < n) :
    Calls Try.prog 32 #[.slice (some ⟨L, 0, none⟩) n c, .int .i64 i, .int .i64 n, .slice (some ⟨V, 0, none⟩) 1 1] w fun e w' => e = .returned (.slice (some ⟨L, 0, none⟩) (i + 1) c) ∧ RowAt w' (.slice (some ⟨L, 0, none⟩) (i + 1) c) (i + 1) (xs.take (i * 2) ++ [a, b]) ∧ w.grownBy w' (some L) := by
  obtain ⟨i0, hi0, hz0, hz1, hz2⟩ := info_parts infoE
  have hcell : ∀ j u, [a, b][j]? = some u → w.cell? ((⟨V, 0, none⟩ : Addr).add j) = some u := by
    intro j u hj
    rw [Addr.add_lit, Lib.cell_of_heap hV, Nat.zero_add]
    simpa using hj
  have hone : ∀ u ∈ [a, b], u.oneCell' = true := by
    intro u hu
    simp only [List.mem_cons, List.not_mem_nil, or_false] at hu
    rcases hu with rfl | rfl
    · exact ha
    · exact hb'
  have hr := run_append_room (P := Try.prog) w 38 38 41 i0 Try.underlying38 hi0 L i c _ hL ⟨V, 0, none⟩ 1 1 [a, b] (by rw [hz1]; rfl) hcell hone (by omega) (by rw [hz1]; simp; omega)
  rw [hz1, List.toList_toArray, List.take_append_of_le_length (by omega)] at hr
  have htl : (xs.take (i * 2)).length = i * 2 := by rw [List.length_take]; omega
  obtain ⟨r1, hr1⟩ : ∃ r1, (xs ++ sp).drop (i * 2 + [a, b].length) = r1 := ⟨_, rfl⟩
  have hrl : r1.length = xs.length + sp.length - (i * 2 + 2) := by rw [← hr1, List.length_drop, List.length_append]; rfl
  rw [hr1] at hr
  have hh1 := setRow_heap w L _ (xs.take (i * 2) ++ [a, b] ++ r1).toArray _ _ hL
  have hg1 := setRow_frame w L (xs.take (i * 2) ++ [a, b] ++ r1).toArray
  obtain ⟨w1, hw1⟩ : ∃ w1, w.setRow L (xs.take (i * 2) ++ [a, b] ++ r1).toArray = w1 := ⟨_, rfl⟩
  rw [hw1] at hr hh1 hg1
  have hyl : (xs.take (i * 2) ++ [a, b]).length = (i + 1) * 2 := by rw [List.length_append, htl]; show i * 2 + 2 = _; omega
  obtain ⟨zs, hzl, hcl⟩ := run_clearE w1 0 L ((i + 1) * 2) (n - (i + 1)) (c - (i + 1)) _ hh1 (by rw [List.size_toArray, List.length_append, hyl]; omega)
  rw [List.toList_toArray, ← hyl, List.take_left', List.append_assoc (xs.take (i * 2) ++ [a, b]), hyl] at hcl
  · obtain ⟨r2, hr2⟩ : ∃ r2, zs ++ (xs.take (i * 2) ++ [a, b] ++ r1).drop ((i + 1) * 2 + zs.length) = r2 := ⟨_, rfl⟩
    have hr2l : r2.length = r1.length := by
      rw [← hr2, List.length_append, List.length_drop, List.length_append, hyl, hzl]
      omega
    rw [hr2] at hcl
    have hh2 := setRow_heap w1 L _ (xs.take (i * 2) ++ [a, b] ++ r2).toArray _ _ hh1
    have hg2 := setRow_frame w1 L (xs.take (i * 2) ++ [a, b] ++ r2).toArray
    obtain ⟨w2, hw2⟩ : ∃ w2, w1.setRow L (xs.take (i * 2) ++ [a, b] ++ r2).toArray = w2 := ⟨_, rfl⟩
    rw [hw2] at hcl hh2 hg2
    have R1 : Hid (RowAt w1 (.slice (some ⟨L, 0, none⟩) (i + 1) c) (i + 1) (xs.take (i * 2) ++ [a, b]) ∧ w.grownBy w1 (some L)) := Lib.hid ⟨⟨hyl, .inr ⟨L, c, r1, rfl, hh1, by omega, by rw [hyl, hrl]; omega⟩⟩, hg1⟩
    have R2 : Hid (RowAt w2 (.slice (some ⟨L, 0, none⟩) (i + 1) c) (i + 1) (xs.take (i * 2) ++ [a, b]) ∧ w.grownBy w2 (some L)) := Lib.hid ⟨⟨hyl, .inr ⟨L, c, r2, rfl, hh2, by omega, by rw [hyl, hr2l, hrl]; omega⟩⟩,
      ⟨hg2.os.trans hg1.os, hg2.tape.trans hg1.tape, hg2.output.trans hg1.output, Nat.le_trans hg1.size hg2.size, fun k hk hne => (hg2.block k (Nat.lt_of_lt_of_le hk hg1.size) hne).trans (hg1.block k hk hne)⟩⟩
    have HR := Lib.hid hr
    have HCL := Lib.hid hcl
    have j0 : (i : Int) ≤ (n : Int) := by omega
    have j1 : (n : Int) ≤ (c : Int) := by omega
    have j2 : (i : Int) ≤ (c : Int) := by omega
    have j3 : ¬ (c = i) := by omega
    have j5 : ((i : Int) == (n : Int)) = false := by simp; omega
    have j6 : ¬ (i = n) := by omega
    have j7 : (i : Int) + 1 ≤ (n : Int) := by omega
    have j8 : (i : Int) + 1 ≤ (c : Int) := by omega
    clear hL hV hh1 hh2 hg1 hg2 hr hcl hw1 hw2 hr1 hr2 hone hcell hz0 hz1 hz2 hi0 hrl hyl htl hzl hr2l hc
    by_cases hin : i + 1 < n
    · have j9 : ¬ (c = i + 1) := by omega
      have j10 : decide ((i : Int) + 1 < (n : Int)) = true := by simp; omega
      have e1 : ((i : Int) + 1).toNat = i + 1 := by omega
      go_enter Try.func32, Try.ntmps32
      go_wp2_with (at_builtin; refine Lib.wpList_append_run _ rfl _ _ _ _ rfl _ _ rfl rfl _ _ HR.out ?_)
      go_wp2_with (simp only [HCL.out])
      go_ret
      exact ⟨rfl, R2.out⟩
    · have j10 : decide ((i : Int) + 1 < (n : Int)) = false := by simp; omega
      go_enter Try.func32, Try.ntmps32
      go_wp2_with (at_builtin; refine Lib.wpList_append_run _ rfl _ _ _ _ rfl _ _ rfl rfl _ _ HR.out ?_)
      go_ret
      exact ⟨rfl, R1.out⟩
  · rfl
set_option maxHeartbeats 4000000 in
set_option maxRecDepth 1000000 in
theorem Replace_mid (L n c i j m : Nat) (xs sp : List Value) (V : Nat) (a b : Value) (w : World) (hL : w.heap[L]? = some (.cells (xs ++ sp).toArray 41 (0, 0))) (hxl : xs.length = n * 2) (hnc : n ≤ c) (hc : c * 2 ≤ xs.length + sp.length) (hV : w.heap[V]? = some (.cells #[a, b] 41 (0, 0))) (ha : a.oneCell' = true) (hb' : b.oneCell' = true) (hn : n ≤ 1000000) (hi : i < j) (hj : j < n) (hm : m = i + 1 + (n - j)) (hVL : V ≠ L) (h1 : ∀ u ∈ xs, u.oneCell' = true) :
    Calls Try.prog 32 #[.slice (some ⟨L, 0, none⟩) n c, .int .i64 i, .int .i64 j, .slice (some ⟨V, 0, none⟩) 1 1] w fun e w' => e = .returned (.slice (some ⟨L, 0, none⟩) m c) ∧ RowAt w' (.slice (some ⟨L, 0, none⟩) m c) m (xs.take (i * 2) ++ [a, b] ++ xs.drop (j * 2)) ∧ w.grownBy w' (some L) := by
  have hab : ∀ u ∈ [a, b], u.oneCell' = true := by
    intro u hu
    simp only [List.mem_cons, List.not_mem_nil, or_false] at hu
    rcases hu with rfl | rfl
    · exact ha
    · exact hb'
  have htl : (xs.take (i * 2)).length = i * 2 := by rw [List.length_take]; omega
  have hdl : (xs.drop (j * 2)).length = (n - j) * 2 := by rw [List.length_drop, hxl]; omega
  have hsplit : xs ++ sp = xs.take (i * 2) ++ (xs.drop (i * 2) ++ sp) := by rw [← List.append_assoc, List.take_append_drop]
  have hL' : w.drew.heap[L]? = some (.cells (xs ++ sp).toArray 41 (0, 0)) := hL
  have hVd : w.drew.heap[V]? = some (.cells #[a, b] 41 (0, 0)) := hV
  have hLd := hL'
  rw [hsplit] at hL'
  obtain ⟨r1, hr1⟩ : ∃ r1, (xs.drop (i * 2) ++ sp).drop [a, b].length = r1 := ⟨_, rfl⟩
  have hr1l : r1.length = xs.length + sp.length - (i * 2 + 2) := by
    rw [← hr1, List.length_drop, List.length_append, List.length_drop]
    simp only [List.length_cons, List.length_nil]
    omega
  have hcp1 := run_copyL w.drew 3 L (i * 2) (m - i) (c - i) V 0 1 1 _ _ _ (0, 0) [a, b] htl.symm hL' hVd (by rw [show Nat.min 1 (m - i) = min 1 (m - i) from rfl]; simp; omega) (fun j u hj => by rw [Nat.zero_add]; simpa using hj) (by rw [List.length_append, List.length_drop]; simp; omega) hab
  rw [hr1] at hcp1
  have hh1 := setRow_heap w.drew L _ (xs.take (i * 2) ++ [a, b] ++ r1).toArray _ _ hLd
  have hg1 := setRow_frame w.drew L (xs.take (i * 2) ++ [a, b] ++ r1).toArray
  obtain ⟨w1, hw1⟩ : ∃ w1, w.drew.setRow L (xs.take (i * 2) ++ [a, b] ++ r1).toArray = w1 := ⟨_, rfl⟩
  rw [hw1] at hcp1 hh1 hg1
  have hyl : (xs.take (i * 2) ++ [a, b]).length = (i + 1) * 2 := by rw [List.length_append, htl]; show i * 2 + 2 = _; omega
  have hsrc : ∀ k u, (xs.drop (j * 2))[k]? = some u → (xs.take (i * 2) ++ [a, b] ++ r1).toArray[j * 2 + k]? = some u := by
    intro k u hk
    rw [List.getElem?_toArray, List.getElem?_append_right (by rw [hyl]; omega), hyl, ← hr1, List.getElem?_drop]
    have hk' := (List.getElem?_eq_some_iff.1 hk).1
    rw [hdl] at hk'
    rw [List.getElem?_append_left (by rw [List.length_drop]; simp only [List.length_cons, List.length_nil]; omega), List.getElem?_drop]
    rw [List.getElem?_drop] at hk
    rw [← hk]
    congr 1
    simp only [List.length_cons, List.length_nil]
    omega
  have hh1' : w1.drew.heap[L]? = some (.cells (xs.take (i * 2) ++ [a, b] ++ r1).toArray 41 (0, 0)) := hh1
  have hcp2 := run_copyL w1.drew 3 L ((i + 1) * 2) (m - (i + 1)) (c - (i + 1)) L (j * 2) (n - j) (c - j) _ _ _ (0, 0) (xs.drop (j * 2)) hyl.symm hh1' hh1' (by rw [hdl, show Nat.min (n - j) (m - (i + 1)) = min (n - j) (m - (i + 1)) from rfl]; omega) hsrc (by rw [hdl, hr1l]; omega) (fun u hu => h1 u (List.mem_of_mem_drop hu))
  obtain ⟨r2, hr2⟩ : ∃ r2, r1.drop (xs.drop (j * 2)).length = r2 := ⟨_, rfl⟩
  have hr2l : r2.length = r1.length - (n - j) * 2 := by rw [← hr2, List.length_drop, hdl]
  rw [hr2] at hcp2
  have hh2 := setRow_heap w1.drew L _ (xs.take (i * 2) ++ [a, b] ++ xs.drop (j * 2) ++ r2).toArray _ _ hh1'
  have hg2 := setRow_frame w1.drew L (xs.take (i * 2) ++ [a, b] ++ xs.drop (j * 2) ++ r2).toArray
  obtain ⟨w2, hw2⟩ : ∃ w2, w1.drew.setRow L (xs.take (i * 2) ++ [a, b] ++ xs.drop (j * 2) ++ r2).toArray = w2 := ⟨_, rfl⟩
  rw [hw2] at hcp2 hh2 hg2
  have hzl0 : (xs.take (i * 2) ++ [a, b] ++ xs.drop (j * 2)).length = m * 2 := by rw [List.length_append, hyl, hdl]; omega
  have hg12 : w.grownBy w2 (some L) := ⟨hg2.os.trans hg1.os, hg2.tape.trans hg1.tape, hg2.output.trans hg1.output, Nat.le_trans hg1.size hg2.size, fun k hk hne => (hg2.block k (Nat.lt_of_lt_of_le hk hg1.size) hne).trans (hg1.block k hk hne)⟩
  have R2 : Hid (RowAt w2 (.slice (some ⟨L, 0, none⟩) m c) m (xs.take (i * 2) ++ [a, b] ++ xs.drop (j * 2)) ∧ w.grownBy w2 (some L)) := Lib.hid ⟨⟨hzl0, .inr ⟨L, c, r2, rfl, hh2, by omega, by rw [hzl0, hr2l, hr1l]; omega⟩⟩, hg12⟩
  obtain ⟨zs, hzl, hcl⟩ := run_clearE w2 0 L (m * 2) (n - m) (c - m) _ hh2 (by rw [List.size_toArray, List.length_append, hzl0, hr2l, hr1l]; omega)
  rw [List.toList_toArray, ← hzl0, List.take_left' rfl, List.append_assoc (xs.take (i * 2) ++ [a, b] ++ xs.drop (j * 2)), hzl0] at hcl
  obtain ⟨r3, hr3⟩ : ∃ r3, zs ++ (xs.take (i * 2) ++ [a, b] ++ xs.drop (j * 2) ++ r2).drop (m * 2 + zs.length) = r3 := ⟨_, rfl⟩
  have hr3l : r3.length = r2.length := by
    rw [← hr3, List.length_append, List.length_drop, List.length_append, hzl0, hzl, hr2l, hr1l]
    omega
  rw [hr3] at hcl
  have hh3 := setRow_heap w2 L _ (xs.take (i * 2) ++ [a, b] ++ xs.drop (j * 2) ++ r3).toArray _ _ hh2
  have hg3 := setRow_frame w2 L (xs.take (i * 2) ++ [a, b] ++ xs.drop (j * 2) ++ r3).toArray
  obtain ⟨w3, hw3⟩ : ∃ w3, w2.setRow L (xs.take (i * 2) ++ [a, b] ++ xs.drop (j * 2) ++ r3).toArray = w3 := ⟨_, rfl⟩
  rw [hw3] at hcl hh3 hg3
  have R3 : Hid (RowAt w3 (.slice (some ⟨L, 0, none⟩) m c) m (xs.take (i * 2) ++ [a, b] ++ xs.drop (j * 2)) ∧ w.grownBy w3 (some L)) := Lib.hid ⟨⟨hzl0, .inr ⟨L, c, r3, rfl, hh3, by omega, by rw [hzl0, hr3l, hr2l, hr1l]; omega⟩⟩,
    ⟨hg3.os.trans hg12.os, hg3.tape.trans hg12.tape, hg3.output.trans hg12.output, Nat.le_trans hg12.size hg3.size, fun k hk hne => (hg3.block k (Nat.lt_of_lt_of_le hk hg12.size) hne).trans (hg12.block k hk hne)⟩⟩
  have HCP1 := Lib.hid hcp1
  have HCP2 := Lib.hid hcp2
  have HCL := Lib.hid hcl
  have hme : (i : Int) + 1 + ((n : Int) - (j : Int)) = (m : Int) := by omega
  have j0 : (i : Int) ≤ (j : Int) := by omega
  have j1 : (j : Int) ≤ (n : Int) := by omega
  have j1' : (j : Int) ≤ (c : Int) := by omega
  have j2 : (i : Int) ≤ (c : Int) := by omega
  have j3 : ¬ (c = i) := by omega
  have j4 : ¬ (c = j) := by omega
  have j5 : ((i : Int) == (j : Int)) = false := by simp; omega
  have j6 : ¬ (i = j) := by omega
  have j5' : ((j : Int) == (n : Int)) = false := by simp; omega
  have j6' : ¬ (j = n) := by omega
  have j7 : (i : Int) + 1 ≤ (m : Int) := by omega
  have j8 : (m : Int) ≤ (c : Int) := by omega
  have j9 : ¬ (c = i + 1) := by omega
  have j10 : (m : Int) ≤ (n : Int) := by omega
  have j11 : decide ((c : Int) < (m : Int)) = false := by simp; omega
  have j12 : (i : Int) + 1 ≤ (j : Int) := by omega
  have j13 : (0 : Int) ≤ (i : Int) + 1 := by omega
  have j14 : (i : Int) ≤ (m : Int) := by omega
  have w2e : IntKind.i64.wrap (m : Int) = (m : Int) := wrap_small _ (by omega) (by omega)
  have hnj : ((n - j : Nat) : Int) = (n : Int) - (j : Int) := by omega
  have e1 : ((i : Int) + 1).toNat = i + 1 := by omega
  have mixed : Try.prog.follows .mixedOrders = true := by kernel_rfl
  have w1e : IntKind.i64.wrap ((i : Int) + 1) = (i : Int) + 1 := wrap_small _ (by omega) (by omega)
  clear hL hL' hLd hV hVd hh1 hh1' hh2 hh3 hg1 hg2 hg3 hg12 hcp1 hcp2 hcl hw1 hw2 hw3 hr1 hr2 hr3 hab htl hdl hsplit hr1l hr2l hr3l hyl hzl0 hzl hsrc h1 hc hm
  go_enter Try.func32, Try.ntmps32
  go_wp2_with fail
  go_region_held3 (fun _ => True) (exact trivial) (fail)
  go_wp2_with (simp only [HCP1.out])
  go_region_law_o (refine step_copy_runI rfl _ _ 38 38 rfl _ _ (by simp [Act.eval, Act.put]) (by simp [Act.eval, Act.put]) HCP2.out ?_)
  by_cases hcm : c = m
  · have hcl0 : (Builtin.clear_ #[38] 0 #[.slice (some ⟨L, 0, none⟩) (n - m) 0]).run Try.prog w2 = .ok (.tuple #[]) w2 := by
      rw [show n - m = 0 by omega]
      simp [Builtin.clear_, run_underlying Try.underlying38]
    go_wp2_with (simp only [hcl0])
    go_ret
    exact ⟨rfl, R2.out⟩
  · go_wp2_with (simp only [HCL.out])
    go_ret
    exact ⟨rfl, R3.out⟩
theorem Replace_calls (v : Value) (n i j : Nat) (xs : List Value) (V : Nat) (a b : Value) (w : World) (h : RowAt w v n xs) (hV : w.heap[V]? = some (.cells #[a, b] 41 (0, 0))) (hVL : v.ownBlock ≠ some V) (ha : a.oneCell' = true) (hb' : b.oneCell' = true) (hn : n ≤ 1000000) (hij : i ≤ j) (hj : j ≤ n) (h1 : ∀ u ∈ xs, u.oneCell' = true) :
    Calls Try.prog 32 #[v, .int .i64 i, .int .i64 j, .slice (some ⟨V, 0, none⟩) 1 1] w fun e w' => ∃ v', e = .returned v' ∧ RowAt w' v' (i + 1 + (n - j)) (xs.take (i * 2) ++ [a, b] ++ xs.drop (j * 2)) ∧ w.grownBy w' v.ownBlock ∧ SameOrNew w v v' := by
  rcases Nat.eq_or_lt_of_le hij with rfl | hlt
  · rw [show i + 1 + (n - i) = n + 1 by omega]
    exact Replace_none v n i xs V a b w h hV hVL ha hb' hn hj h1
  · rcases h.2 with ⟨_, h0⟩ | ⟨L, c, sp, rfl, hL, hnc, hc⟩
    · omega
    · have hVL2 : V ≠ L := fun e => hVL (by rw [e]; rfl)
      rcases Nat.eq_or_lt_of_le hj with rfl | hjn
      · refine (Replace_tail L j c i xs sp V a b w hL h.1 hnc hc hV ha hb' hn hlt).mono ?_
        rintro e w' ⟨rfl, r1, r2⟩
        rw [List.drop_eq_nil_of_le (by rw [h.1]; exact Nat.le_refl _), List.append_nil, Nat.sub_self, Nat.add_zero]
        exact ⟨_, rfl, r1, r2, fun k hk => .inl hk⟩
      · refine (Replace_mid L n c i j _ xs sp V a b w hL h.1 hnc hc hV ha hb' hn hlt hjn rfl hVL2 h1).mono ?_
        rintro e w' ⟨rfl, r1, r2⟩
        exact ⟨_, rfl, r1, r2, fun k hk => .inl hk⟩
end Go.Proofs.Ytjochldpacgcgaa.U
