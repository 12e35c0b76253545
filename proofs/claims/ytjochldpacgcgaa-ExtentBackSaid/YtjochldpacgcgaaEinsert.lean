/- slices.Insert of one piece, wherever. -/
import Derived.Test.YtjochldpacgcgaaErows
set_option linter.unusedVariables false
set_option linter.unusedSimpArgs false
namespace Go.Proofs.Ytjochldpacgcgaa.U
open Go.RowKit Go.Proofs Go.Lib Go.Proofs.YtjochldpacgcgaaW.PrintWords

set_option maxHeartbeats 4000000 in
set_option maxRecDepth 1000000 in
theorem Insert_last (v : Value) (n : Nat) (xs : List Value) (V : Nat) (a b : Value) (w : World) (h : RowAt w v n xs) (hV : w.heap[V]? = some (.cells #[a, b] 41 (0, 0))) (ha : a.oneCell' = true) (hb' : b.oneCell' = true) (hn : n ≤ 1000000) (h1 : ∀ u ∈ xs, u.oneCell' = true) :
    Calls Try.prog 37 #[v, .int .i64 n, .slice (some ⟨V, 0, none⟩) 1 1] w fun e w' => ∃ v', e = .returned v' ∧ RowAt w' v' (n + 1) (xs ++ [a, b]) ∧ w.grownBy w' v.ownBlock ∧ SameOrNew w v v' := by
  obtain ⟨v', w', hr, r1, r2, r3⟩ := run_appendE w 38 v n xs V 1 a b (0, 0) h hV ha hb' hn h1
  have hsl : ∃ A c, v = .slice A n c ∧ (A = none → c = 0) ∧ n ≤ c := by
    rcases h.2 with ⟨rfl, h0⟩ | ⟨g, cap, sp, rfl, _, hc, _⟩
    · exact ⟨none, 0, by rw [h0], fun _ => rfl, by omega⟩
    · exact ⟨_, cap, rfl, fun h => (by cases h), hc⟩
  obtain ⟨A, c, rfl, hAc, hnc⟩ := hsl
  have d1 : (n : Int) ≤ (c : Int) := by omega
  have HRES := Lib.hid (And.intro r1 (And.intro r2 r3))
  have HR := Lib.hid hr
  clear h hV r1 r2 r3 hr
  go_enter Try.func37, Try.ntmps37
  go_wp2_with (at_builtin; refine Lib.wpList_append_run _ rfl _ _ _ _ rfl _ _ rfl rfl _ _ HR.out ?_)
  all_goals
    go_ret
    cases A <;> exact ⟨_, rfl, HRES.out⟩
/-- A row's cells behind a copy into it. -/
theorem splice (xs sp seg : List Value) (o : Nat) (h : o + seg.length ≤ xs.length + sp.length) :
    ((xs ++ sp).toArray.toList.take o ++ seg ++ (xs ++ sp).toArray.toList.drop (o + seg.length)).length = xs.length + sp.length := by
  simp only [List.length_append, List.length_take, List.length_drop, List.toList_toArray]
  omega
theorem insert_eq (xs sp : List Value) (a b : Value) (i n : Nat) (hxl : xs.length = n * 2) (hi : i < n) (hsp : 2 ≤ sp.length) :
    ((xs ++ sp).toArray.toList.take ((i + 1) * 2) ++ xs.drop (i * 2) ++ (xs ++ sp).toArray.toList.drop ((i + 1) * 2 + (xs.drop (i * 2)).length)).toArray.toList.take (i * 2) ++ [a, b] ++
      ((xs ++ sp).toArray.toList.take ((i + 1) * 2) ++ xs.drop (i * 2) ++ (xs ++ sp).toArray.toList.drop ((i + 1) * 2 + (xs.drop (i * 2)).length)).toArray.toList.drop (i * 2 + [a, b].length) =
    xs.take (i * 2) ++ [a, b] ++ xs.drop (i * 2) ++ sp.drop 2 := by
  have t1 : ((xs ++ sp).take ((i + 1) * 2)).length = (i + 1) * 2 := by rw [List.length_take, List.length_append]; omega
  have hdl : (xs.drop (i * 2)).length = (n - i) * 2 := by rw [List.length_drop, hxl]; omega
  have e1 : ((xs ++ sp).take ((i + 1) * 2) ++ xs.drop (i * 2) ++ (xs ++ sp).drop ((i + 1) * 2 + (xs.drop (i * 2)).length)).take (i * 2) = xs.take (i * 2) := by
    rw [List.append_assoc, List.take_append_of_le_length (by rw [t1]; omega), List.take_take, Nat.min_eq_left (by omega), List.take_append_of_le_length (by omega)]
  have e2 : ((xs ++ sp).take ((i + 1) * 2) ++ xs.drop (i * 2) ++ (xs ++ sp).drop ((i + 1) * 2 + (xs.drop (i * 2)).length)).drop (i * 2 + 2) = xs.drop (i * 2) ++ sp.drop 2 := by
    rw [List.append_assoc, List.drop_append, t1, show i * 2 + 2 - (i + 1) * 2 = 0 by omega, List.drop_zero, List.drop_eq_nil_of_le (by rw [t1]; omega), List.nil_append, hdl, List.drop_append, hxl, show (i + 1) * 2 + (n - i) * 2 - n * 2 = 2 by omega, show xs.drop ((i + 1) * 2 + (n - i) * 2) = [] from List.drop_eq_nil_of_le (by omega), List.nil_append]
  simp only [List.toList_toArray, List.length_cons, List.length_nil]
  rw [e1, show i * 2 + (0 + 1 + 1) = i * 2 + 2 from rfl, e2, ← List.append_assoc]
set_option maxHeartbeats 4000000 in
set_option maxRecDepth 1000000 in
theorem Insert_room (L n c i : Nat) (xs sp : List Value) (V : Nat) (a b : Value) (w : World) (hL : w.heap[L]? = some (.cells (xs ++ sp).toArray 41 (0, 0))) (hxl : xs.length = n * 2) (hnc : n + 1 ≤ c) (hc : c * 2 ≤ xs.length + sp.length) (hV : w.heap[V]? = some (.cells #[a, b] 41 (0, 0))) (hVL : V ≠ L) (ha : a.oneCell' = true) (hb' : b.oneCell' = true) (hn : n ≤ 1000000) (hi : i < n) (h1 : ∀ u ∈ xs, u.oneCell' = true) :
    Calls Try.prog 37 #[.slice (some ⟨L, 0, none⟩) n c, .int .i64 i, .slice (some ⟨V, 0, none⟩) 1 1] w fun e w' => e = .returned (.slice (some ⟨L, 0, none⟩) (n + 1) c) ∧ RowAt w' (.slice (some ⟨L, 0, none⟩) (n + 1) c) (n + 1) (xs.take (i * 2) ++ [a, b] ++ xs.drop (i * 2)) ∧ w.grownBy w' (some L) := by
  have hsz : ∀ w, (Go.sizeOf 41).run Try.prog w = .ok 2 w := by
    obtain ⟨i0, hi, hz0, hz1, hz2⟩ := info_parts infoE
    intro w
    simp [sizeOf, typeInfo, hi, hz1]
  have hk0 : (xs ++ sp).toArray.size ≠ 0 := by
    rw [List.size_toArray, List.length_append]
    omega
  have hov : ∀ lb cb, (callFunc 38 #[.slice (some ⟨V, 0, none⟩) 1 1, .slice (some ⟨L, (i + 1) * 2, none⟩) lb cb]).run Try.prog w = .ok (.value (.bool false)) w := fun lb cb => by
    rw [run_callFunc_extern Try.func38 (by kernel_rfl) (by kernel_rfl) (by kernel_rfl) (e := Extern.SlicesOverlaps.overlaps #[38, 38] #[4]) (by kernel_rfl),
      Lib.run_overlaps_apart w 38 4 41 Try.underlying38 2 hsz ⟨V, 0, none⟩ ⟨L, (i + 1) * 2, none⟩ 1 1 lb cb hVL 41 41 2 (xs ++ sp).toArray.size (by simp [World.shape?, hV]) (by simp [World.shape?, hL]) hk0 (Lib.frozen_of_heap hV 0) (Lib.frozen_of_heap hV 2)]
    rfl
  have hdl : (xs.drop (i * 2)).length = (n - i) * 2 := by rw [List.length_drop, hxl]; omega
  have hcp1 := run_copyE w.drew 3 L ((i + 1) * 2) (n + 1 - (i + 1)) (c - (i + 1)) L (i * 2) (n + 1 - i) (c - i) _ _ (0, 0) (xs.drop (i * 2)) hL hL (by rw [hdl, show Nat.min (n + 1 - i) (n + 1 - (i + 1)) = min (n + 1 - i) (n + 1 - (i + 1)) from rfl]; omega)
    (fun j u hj => by
      rw [List.getElem?_drop] at hj
      rw [List.getElem?_toArray, List.getElem?_append_left (List.getElem?_eq_some_iff.1 hj).1]
      exact hj) (by rw [hdl, List.size_toArray, List.length_append]; omega) (fun u hu => h1 u (List.mem_of_mem_drop hu))
  have hl1 := splice xs sp (xs.drop (i * 2)) ((i + 1) * 2) (by rw [hdl]; omega)
  obtain ⟨arr1, harr1⟩ : ∃ arr1, (xs ++ sp).toArray.toList.take ((i + 1) * 2) ++ xs.drop (i * 2) ++ (xs ++ sp).toArray.toList.drop ((i + 1) * 2 + (xs.drop (i * 2)).length) = arr1 := ⟨_, rfl⟩
  rw [harr1] at hcp1 hl1
  have hh1 := setRow_heap w.drew L _ arr1.toArray _ _ hL
  have hg1 := setRow_frame w.drew L arr1.toArray
  obtain ⟨w1, hw1⟩ : ∃ w1, w.drew.setRow L arr1.toArray = w1 := ⟨_, rfl⟩
  rw [hw1] at hcp1 hh1 hg1
  have hV1 : w1.heap[V]? = some (.cells #[a, b] 41 (0, 0)) := (hg1.block V (Array.getElem?_eq_some_iff.1 hV).1 (by simpa using hVL)).trans hV
  have hab : ∀ u ∈ [a, b], u.oneCell' = true := by
    intro u hu
    simp only [List.mem_cons, List.not_mem_nil, or_false] at hu
    rcases hu with rfl | rfl
    · exact ha
    · exact hb'
  have hcp2 := run_copyE w1 3 L (i * 2) (n + 1 - i) (c - i) V 0 1 1 _ _ (0, 0) [a, b] hh1 hV1 (by rw [show Nat.min 1 (n + 1 - i) = min 1 (n + 1 - i) from rfl]; simp; omega) (fun j u hj => by rw [Nat.zero_add]; simpa using hj) (by rw [List.size_toArray, hl1]; simp; omega) hab
  have hh2 := setRow_heap w1 L _ (arr1.toArray.toList.take (i * 2) ++ [a, b] ++ arr1.toArray.toList.drop (i * 2 + [a, b].length)).toArray _ _ hh1
  have hg2 := setRow_frame w1 L (arr1.toArray.toList.take (i * 2) ++ [a, b] ++ arr1.toArray.toList.drop (i * 2 + [a, b].length)).toArray
  have hfin : arr1.toArray.toList.take (i * 2) ++ [a, b] ++ arr1.toArray.toList.drop (i * 2 + [a, b].length) = (xs.take (i * 2) ++ [a, b] ++ xs.drop (i * 2)) ++ sp.drop 2 := by
    rw [← harr1]
    exact insert_eq xs sp a b i n hxl hi (by omega)
  rw [hfin] at hcp2 hh2 hg2
  obtain ⟨w2, hw2⟩ : ∃ w2, w1.setRow L (xs.take (i * 2) ++ [a, b] ++ xs.drop (i * 2) ++ sp.drop 2).toArray = w2 := ⟨_, rfl⟩
  rw [hw2] at hcp2 hh2 hg2
  have HRES : Hid (RowAt w2 (.slice (some ⟨L, 0, none⟩) (n + 1) c) (n + 1) (xs.take (i * 2) ++ [a, b] ++ xs.drop (i * 2)) ∧ w.grownBy w2 (some L)) := by
    refine Lib.hid ⟨⟨?_, .inr ⟨L, c, sp.drop 2, rfl, hh2, hnc, ?_⟩⟩, ?_⟩
    · simp only [List.length_append, List.length_take, hdl, List.length_cons, List.length_nil]
      omega
    · simp only [List.length_append, List.length_take, hdl, List.length_cons, List.length_nil, List.length_drop]
      omega
    · exact ⟨hg2.os.trans hg1.os, hg2.tape.trans hg1.tape, hg2.output.trans hg1.output, Nat.le_trans hg1.size hg2.size, fun k hk hne => (hg2.block k (Nat.lt_of_lt_of_le hk hg1.size) hne).trans (hg1.block k hk hne)⟩
  have HOV := Lib.hid hov
  have HCP1 := Lib.hid hcp1
  have HCP2 := Lib.hid hcp2
  have i0 : (i : Int) ≤ (n : Int) := by omega
  have i1 : (n : Int) ≤ (c : Int) := by omega
  have i2 : (n : Int) + 1 ≤ (c : Int) := by omega
  have i3 : ¬ (c = i) := by omega
  have i4 : ¬ (c = i + 1) := by omega
  have i5 : ((i : Int) == (n : Int)) = false := by simp; omega
  have i6 : ¬ (i = n) := by omega
  have i7 : (i : Int) + 1 ≤ (n : Int) + 1 := by omega
  have i8 : (i : Int) ≤ (n : Int) + 1 := by omega
  have i9 : (0 : Int) ≤ (i : Int) + 1 := by omega
  have mixed : Try.prog.follows .mixedOrders = true := by kernel_rfl
  have w1e : IntKind.i64.wrap ((i : Int) + 1) = (i : Int) + 1 := wrap_small _ (by omega) (by omega)
  have e1 : ((i : Int) + 1).toNat = i + 1 := by omega
  have e2 : ((n : Int) + 1).toNat = n + 1 := by omega
  clear hL hV hh1 hh2 hg1 hg2 hV1 hcp1 hcp2 hfin harr1 hl1 hw1 hw2 h1 hab hdl hk0 hsz hov hc
  go_enter Try.func37, Try.ntmps37
  go_wp2_with (simp only [HOV.out])
  go_region_law_o (refine step_copy_runI rfl _ _ 38 38 rfl _ _ (by simp [Act.eval, Act.put]) (by simp [Act.eval, Act.put]) HCP1.out ?_)
  go_wp2_with (simp only [HCP2.out])
  go_ret
  exact ⟨rfl, HRES.out⟩
set_option maxHeartbeats 4000000 in
set_option maxRecDepth 1000000 in
theorem Insert_grow (L n c i : Nat) (xs sp : List Value) (V : Nat) (a b : Value) (w : World) (hL : w.heap[L]? = some (.cells (xs ++ sp).toArray 41 (0, 0))) (hxl : xs.length = n * 2) (hnc : n ≤ c) (hcn : c < n + 1) (hV : w.heap[V]? = some (.cells #[a, b] 41 (0, 0))) (ha : a.oneCell' = true) (hb' : b.oneCell' = true) (hn : n ≤ 1000000) (hi : i < n) (h1 : ∀ u ∈ xs, u.oneCell' = true) :
    Calls Try.prog 37 #[.slice (some ⟨L, 0, none⟩) n c, .int .i64 i, .slice (some ⟨V, 0, none⟩) 1 1] w fun e w' => ∃ c', e = .returned (.slice (some ⟨w.heap.size, 0, none⟩) (n + 1) c') ∧ RowAt w' (.slice (some ⟨w.heap.size, 0, none⟩) (n + 1) c') (n + 1) (xs.take (i * 2) ++ [a, b] ++ xs.drop (i * 2)) ∧ w.grownBy w' none := by
  obtain ⟨i0, hi0, hz0, hz1, hz2⟩ := info_parts infoE
  have hlt := (Array.getElem?_eq_some_iff.1 hL).1
  have hVlt := (Array.getElem?_eq_some_iff.1 hV).1
  have hold : (Builtin.firstCells i0.size i (.slice (some ⟨L, 0, none⟩) i c)).run Try.prog w.drew = .ok (xs.take (i * 2)).toArray w.drew := by
    rw [hz1]
    refine run_firstCells_some w.drew 2 i _ i c _ (by rw [List.length_take]; omega) fun j u hj => ?_
    rw [Addr.add_lit, Nat.zero_add]
    have e : w.drew.heap[L]? = some (.cells (xs ++ sp).toArray 41 (0, 0)) := hL
    rw [Lib.cell_of_heap e]
    rw [List.getElem?_take] at hj
    split at hj
    · rw [List.getElem?_toArray, List.getElem?_append_left (by omega)]
      exact hj
    · cases hj
  have hk : (n : Int) + 1 - (i : Int) = ((n + 1 - i : Nat) : Int) := by omega
  have hr := run_append_grow_zeros w 38 3 38 41 i0 _ .i64 .i64 Try.underlying38 Try.underlying3 hi0 hz0 (some ⟨L, 0, none⟩) i c _ hold (n + 1 - i) (by omega) (by omega) (by omega) (by omega) (by rw [hz2]; omega) (by rw [hz2]; exact growslice_fits (by omega) (by omega))
  rw [← hk, show i + (n + 1 - i) = n + 1 by omega] at hr
  have hge := grownCap_ge w (n + 1) c 41
  generalize grownCap w (n + 1) c 41 = c' at hr hge
  obtain ⟨zs, hza, hzl⟩ : ∃ zs : List Value, zs.toArray = Builtin.zeroCells (Value.agg #[.int .i64 0, .slice none 0 0]).cells (n + 1 - i) ++ Builtin.zeroCells (Value.agg #[.int .i64 0, .slice none 0 0]).cells (c' - (n + 1)) ∧ zs.length = (n + 1 - i) * 2 + (c' - (n + 1)) * 2 :=
    ⟨_, Array.toArray_toList, by rw [Array.length_toList, Array.size_append, zeroCellsE, zeroCellsE]⟩
  rw [Array.append_assoc, ← hza, show (xs.take (i * 2)).toArray ++ zs.toArray = (xs.take (i * 2) ++ zs).toArray by apply Array.ext'; simp] at hr
  have hh1 := heap_alloc_new w.drew (.cells (xs.take (i * 2) ++ zs).toArray 41)
  have hL1 : (w.drew.alloc (.cells (xs.take (i * 2) ++ zs).toArray 41)).heap[L]? = some (.cells (xs ++ sp).toArray 41 (0, 0)) := (heap_alloc_old w.drew _ hlt).trans hL
  have hV1 : (w.drew.alloc (.cells (xs.take (i * 2) ++ zs).toArray 41)).heap[V]? = some (.cells #[a, b] 41 (0, 0)) := (heap_alloc_old w.drew _ hVlt).trans hV
  have hg1 : w.grownBy (w.drew.alloc (.cells (xs.take (i * 2) ++ zs).toArray 41)) none := ⟨rfl, rfl, rfl, by simp, fun k hk _ => heap_alloc_old w.drew _ hk⟩
  obtain ⟨w1, hw1⟩ : ∃ w1, w.drew.alloc (.cells (xs.take (i * 2) ++ zs).toArray 41) = w1 := ⟨_, rfl⟩
  rw [hw1] at hr hh1 hL1 hV1 hg1
  have hg0 : w.drew.heap.size = w.heap.size := rfl
  rw [hg0] at hh1
  have htl : (xs.take (i * 2)).length = i * 2 := by rw [List.length_take]; omega
  have hab : ∀ u ∈ [a, b], u.oneCell' = true := by
    intro u hu
    simp only [List.mem_cons, List.not_mem_nil, or_false] at hu
    rcases hu with rfl | rfl
    · exact ha
    · exact hb'
  have hcp1 := run_copyL w1 3 w.heap.size (i * 2) (n + 1 - i) (c' - i) V 0 1 1 _ zs _ (0, 0) [a, b] htl.symm hh1 hV1 (by rw [show Nat.min 1 (n + 1 - i) = min 1 (n + 1 - i) from rfl]; simp; omega) (fun j u hj => by rw [Nat.zero_add]; simpa using hj) (by rw [hzl]; simp; omega) hab
  have hh2 := setRow_heap w1 w.heap.size _ (xs.take (i * 2) ++ [a, b] ++ zs.drop [a, b].length).toArray _ _ hh1
  have hg2 := setRow_frame w1 w.heap.size (xs.take (i * 2) ++ [a, b] ++ zs.drop [a, b].length).toArray
  have hL2 : (w1.setRow w.heap.size (xs.take (i * 2) ++ [a, b] ++ zs.drop [a, b].length).toArray).heap[L]? = some (.cells (xs ++ sp).toArray 41 (0, 0)) := (hg2.block L (Nat.lt_of_lt_of_le hlt hg1.size) (by simp; omega)).trans hL1
  obtain ⟨w2, hw2⟩ : ∃ w2, w1.setRow w.heap.size (xs.take (i * 2) ++ [a, b] ++ zs.drop [a, b].length).toArray = w2 := ⟨_, rfl⟩
  rw [hw2] at hcp1 hh2 hg2 hL2
  have hdl : (xs.drop (i * 2)).length = (n - i) * 2 := by rw [List.length_drop, hxl]; omega
  have hh2' : w2.drew.heap[w.heap.size]? = some (.cells (xs.take (i * 2) ++ [a, b] ++ zs.drop [a, b].length).toArray 41 (0, 0)) := hh2
  have hcp2 := run_copyL w2.drew 3 w.heap.size ((i + 1) * 2) (n + 1 - (i + 1)) (c' - (i + 1)) L (i * 2) (n - i) (c - i) _ _ _ (0, 0) (xs.drop (i * 2)) (by rw [List.length_append, htl]; show _ = i * 2 + 2; omega) hh2' hL2 (by rw [hdl, show Nat.min (n - i) (n + 1 - (i + 1)) = min (n - i) (n + 1 - (i + 1)) from rfl]; omega)
    (fun j u hj => by
      rw [List.getElem?_drop] at hj
      rw [List.getElem?_toArray, List.getElem?_append_left (List.getElem?_eq_some_iff.1 hj).1]
      exact hj) (by rw [hdl, List.length_drop, hzl]; simp; omega) (fun u hu => h1 u (List.mem_of_mem_drop hu))
  have hh3 := setRow_heap w2.drew w.heap.size _ (xs.take (i * 2) ++ [a, b] ++ xs.drop (i * 2) ++ (zs.drop [a, b].length).drop (xs.drop (i * 2)).length).toArray _ _ hh2'
  have hg3 := setRow_frame w2.drew w.heap.size (xs.take (i * 2) ++ [a, b] ++ xs.drop (i * 2) ++ (zs.drop [a, b].length).drop (xs.drop (i * 2)).length).toArray
  obtain ⟨w3, hw3⟩ : ∃ w3, w2.drew.setRow w.heap.size (xs.take (i * 2) ++ [a, b] ++ xs.drop (i * 2) ++ (zs.drop [a, b].length).drop (xs.drop (i * 2)).length).toArray = w3 := ⟨_, rfl⟩
  rw [hw3] at hcp2 hh3 hg3
  have HRES : Hid (RowAt w3 (.slice (some ⟨w.heap.size, 0, none⟩) (n + 1) c') (n + 1) (xs.take (i * 2) ++ [a, b] ++ xs.drop (i * 2)) ∧ w.grownBy w3 none) := by
    refine Lib.hid ⟨⟨?_, .inr ⟨w.heap.size, c', _, rfl, hh3, hge, ?_⟩⟩, ?_⟩
    · simp only [List.length_append, htl, hdl, List.length_cons, List.length_nil]
      omega
    · simp only [List.length_append, htl, hdl, List.length_cons, List.length_nil, List.length_drop, hzl]
      omega
    · exact ⟨(hg3.os.trans hg2.os).trans hg1.os, (hg3.tape.trans hg2.tape).trans hg1.tape, (hg3.output.trans hg2.output).trans hg1.output, Nat.le_trans hg1.size (Nat.le_trans hg2.size hg3.size), fun k hk hne => by
        rw [hg3.block k (Nat.lt_of_lt_of_le hk (Nat.le_trans hg1.size hg2.size)) (by simp; omega)]
        exact (hg2.block k (Nat.lt_of_lt_of_le hk hg1.size) (by simp; omega)).trans (hg1.block k hk hne)⟩
  have HR := Lib.hid hr
  have HCP1 := Lib.hid hcp1
  have HCP2 := Lib.hid hcp2
  have i0 : (i : Int) ≤ (n : Int) := by omega
  have i1 : (n : Int) ≤ (c : Int) := by omega
  have i2 : ¬ (n : Int) + 1 ≤ (c : Int) := by omega
  have i2' : (i : Int) ≤ (c : Int) := by omega
  have i2'' : (n : Int) + 1 ≤ (c' : Int) := by omega
  have i3 : ¬ (c = i) := by omega
  have i3' : ¬ (c' = i) := by omega
  have i4 : ¬ (c' = i + 1) := by omega
  have i5 : ((i : Int) == (n : Int)) = false := by simp; omega
  have i6 : ¬ (i = n) := by omega
  have i7 : (i : Int) + 1 ≤ (n : Int) + 1 := by omega
  have i8 : (i : Int) ≤ (n : Int) + 1 := by omega
  have i9 : (0 : Int) ≤ (i : Int) + 1 := by omega
  have mixed : Try.prog.follows .mixedOrders = true := by kernel_rfl
  have w1e : IntKind.i64.wrap ((i : Int) + 1) = (i : Int) + 1 := wrap_small _ (by omega) (by omega)
  have e1 : ((i : Int) + 1).toNat = i + 1 := by omega
  have e2 : ((n : Int) + 1).toNat = n + 1 := by omega
  clear hL hV hh1 hh2 hh2' hh3 hg1 hg2 hg3 hL1 hL2 hV1 hcp1 hcp2 hr hw1 hw2 hw3 h1 hab hdl hold hza hzl hz0 hz1 hz2 hi0 hg0 htl hk hlt hVlt
  go_enter Try.func37, Try.ntmps37
  go_wp2_with (at_builtin; refine Lib.wpList_append_run _ rfl _ _ _ _ rfl _ _ rfl rfl _ _ HR.out ?_)
  go_wp2_with (simp only [HCP1.out])
  go_region_law_o (refine step_copy_runI rfl _ _ 38 38 rfl _ _ (by simp [Act.eval, Act.put]) (by simp [Act.eval, Act.put]) HCP2.out ?_)
  go_wp2
  go_ret
  exact ⟨_, rfl, HRES.out⟩
end Go.Proofs.Ytjochldpacgcgaa.U
