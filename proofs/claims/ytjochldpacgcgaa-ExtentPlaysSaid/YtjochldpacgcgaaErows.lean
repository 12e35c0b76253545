/- Rows of pieces (two cells each): copying, clearing, appending, as one run each. -/
import Derived.Test.YtjochldpacgcgaaEclone
import Derived.Deep.RegionWith
import Derived.Shelf.Spec.SlicesInsert
import Derived.Lib.AppendZerosOnto
import Derived.Lib.Overlaps
set_option linter.unusedVariables false
set_option linter.unusedSimpArgs false
namespace Go.Proofs.Ytjochldpacgcgaa.U
open Go.RowKit Go.Proofs Go.Lib Go.Proofs.YtjochldpacgcgaaW.PrintWords

variable {N : Nat → Prop}
theorem own_form {w : World} {base n : Nat} {v : Value} {xs : List Value} (h : w.ownsRow base 41 2 v (n + 1) xs) :
    ∃ L cap cur, v = .slice (some ⟨L, 0, none⟩) (n + 1) cap ∧ base ≤ L ∧ w.heap[L]? = some (.cells cur 41 (0, 0)) ∧ n + 1 ≤ cap ∧ cur.size = cap * 2 ∧ cur.toList.take ((n + 1) * 2) = xs := by
  rcases h.2 with ⟨_, h⟩ | ⟨L, cc, cur, hv, hL, hhL, hcc, _, hsz, htk⟩
  · omega
  · exact ⟨L, cc, cur, hv, hL, hhL, hcc, hsz, htk⟩
theorem set_cell {w : World} {g j : Nat} {cs : Array Value} {t : TypeId} {fz : Nat × Nat} (h : w.heap[g]? = some (.cells cs t fz)) (v : Value) : (w.setCell ⟨g, j, none⟩ v).heap[g]? = some (.cells (cs.setIfInBounds j v) t fz) := by
  simp only [World.setCell, Array.getElem?_modify, if_true, h, Option.map_some]
  rfl
theorem set_other {w : World} {g j k : Nat} (v : Value) (h : k ≠ g) : (w.setCell ⟨g, j, none⟩ v).heap[k]? = w.heap[k]? := by
  simp only [World.setCell, Array.getElem?_modify]
  rw [if_neg (fun e => h e.symm)]
/-- A row of n elements of two cells: the cells are xs. -/
def RowAt (w : World) (v : Value) (n : Nat) (xs : List Value) : Prop :=
  xs.length = n * 2 ∧ ((v = .slice none 0 0 ∧ n = 0) ∨ ∃ L c sp, v = .slice (some ⟨L, 0, none⟩) n c ∧ w.heap[L]? = some (.cells (xs ++ sp).toArray 41 (0, 0)) ∧ n ≤ c ∧ c * 2 ≤ xs.length + sp.length)
/-- The row's block is the one that it was, or new. -/
def SameOrNew (w : World) (v v' : Value) : Prop := ∀ k, v'.ownBlock = some k → v.ownBlock = some k ∨ w.heap.size ≤ k

theorem run_copyE (w : World) (ty : TypeId) (g o dLen dCap b so sLen sCap : Nat) (cur src : Array Value) (fz : Nat × Nat) (seg : List Value)
    (hg : w.heap[g]? = some (.cells cur 41 (0, 0))) (hb : w.heap[b]? = some (.cells src 41 fz))
    (hl : seg.length = Nat.min sLen dLen * 2) (hs : ∀ j u, seg[j]? = some u → src[so + j]? = some u) (hfit : o + seg.length ≤ cur.size) (h1 : ∀ u ∈ seg, u.oneCell' = true) :
    (Builtin.copy_ #[38, 38] ty #[.slice (some ⟨g, o, none⟩) dLen dCap, .slice (some ⟨b, so, none⟩) sLen sCap]).run Try.prog w =
      .ok (goInt (Nat.min sLen dLen)) (w.setRow g (cur.toList.take o ++ seg ++ cur.toList.drop (o + seg.length)).toArray) := by
  obtain ⟨i0, hi, hz0, hz1, hz2⟩ := info_parts infoE
  have hsrc : ∀ j u, seg[j]? = some u → w.cell? ((⟨b, so, none⟩ : Addr).add j) = some u := by
    intro j u hj
    rw [Addr.add_lit, Lib.cell_of_heap hb]
    exact hs j u hj
  have hld := run_loadCells_list (P := Try.prog) w ⟨b, so, none⟩ seg hsrc
  have hst := run_storeCells_at Try.prog g o 41 seg 0 cur w hg (by simpa using hfit) h1
  rw [hl] at hld
  simp [Builtin.copy_, run_underlying Try.underlying38, Builtin.lenOf, Builtin.firstCells, sizeOf, typeInfo, hi, hz1, hld, hst]
/-- .. behind a first part. -/
theorem run_copyL (w : World) (ty : TypeId) (g o dLen dCap b so sLen sCap : Nat) (l r : List Value) (src : Array Value) (fz : Nat × Nat) (seg : List Value) (ho : o = l.length)
    (hg : w.heap[g]? = some (.cells (l ++ r).toArray 41 (0, 0))) (hb : w.heap[b]? = some (.cells src 41 fz))
    (hl : seg.length = Nat.min sLen dLen * 2) (hs : ∀ j u, seg[j]? = some u → src[so + j]? = some u) (hfit : seg.length ≤ r.length) (h1 : ∀ u ∈ seg, u.oneCell' = true) :
    (Builtin.copy_ #[38, 38] ty #[.slice (some ⟨g, o, none⟩) dLen dCap, .slice (some ⟨b, so, none⟩) sLen sCap]).run Try.prog w =
      .ok (goInt (Nat.min sLen dLen)) (w.setRow g (l ++ seg ++ r.drop seg.length).toArray) := by
  subst ho
  rw [run_copyE w ty g l.length dLen dCap b so sLen sCap _ src fz seg hg hb hl hs (by rw [List.size_toArray, List.length_append]; omega) h1, List.toList_toArray, List.take_left', List.drop_append, List.drop_eq_nil_of_le (by omega), Nat.add_sub_cancel_left, List.nil_append]
  rfl
theorem setRow_frame (w : World) (g : Nat) (cs : Array Value) : w.grownBy (w.setRow g cs) (some g) :=
  ⟨rfl, rfl, rfl, by show w.heap.size ≤ (w.heap.modify g _).size; rw [Array.size_modify]; exact Nat.le_refl _, fun k _ hk => setRow_other w g k cs (fun e => hk (by rw [e]))⟩
theorem zeroCellsE (n : Nat) : (Builtin.zeroCells (Value.agg #[.int .i64 0, .slice none 0 0]).cells n).size = n * 2 := by
  rw [size_zeroCells]
  rfl
theorem zeroCellsE_one (n : Nat) : ∀ u ∈ (Builtin.zeroCells (Value.agg #[.int .i64 0, .slice none 0 0]).cells n).toList, u.oneCell' = true := by
  intro u hu
  obtain ⟨j, hj, e⟩ := List.mem_iff_getElem.1 hu
  rw [← e]
  simp only [Builtin.zeroCells, Array.getElem_toList, Array.getElem_map, Array.getElem_range]
  have h2 : (Value.agg #[.int .i64 0, .slice none 0 0]).cells = #[.int .i64 0, .slice none 0 0] := rfl
  rw [h2]
  have h3 : j % (#[Value.int .i64 0, .slice none 0 0] : Array Value).size = 0 ∨ j % (#[Value.int .i64 0, .slice none 0 0] : Array Value).size = 1 := by
    show j % 2 = 0 ∨ j % 2 = 1
    omega
  rcases h3 with h3 | h3 <;> rw [h3] <;> rfl
theorem run_clearE (w : World) (ty : TypeId) (g o n c : Nat) (cur : Array Value) (hg : w.heap[g]? = some (.cells cur 41 (0, 0))) (hfit : o + n * 2 ≤ cur.size) :
    ∃ zs : List Value, zs.length = n * 2 ∧ (Builtin.clear_ #[38] ty #[.slice (some ⟨g, o, none⟩) n c]).run Try.prog w =
      .ok (.tuple #[]) (w.setRow g (cur.toList.take o ++ zs ++ cur.toList.drop (o + zs.length)).toArray) := by
  obtain ⟨i0, hi, hz0, hz1, hz2⟩ := info_parts infoE
  refine ⟨(Builtin.zeroCells (Value.agg #[.int .i64 0, .slice none 0 0]).cells n).toList, by rw [Array.length_toList, zeroCellsE], ?_⟩
  have hst := run_storeCells_at Try.prog g o 41 (Builtin.zeroCells (Value.agg #[.int .i64 0, .slice none 0 0]).cells n).toList 0 cur w hg (by rw [Array.length_toList, zeroCellsE]; simpa using hfit) (zeroCellsE_one n)
  cases n with
  | zero =>
    have e : (Builtin.zeroCells (Value.agg #[.int .i64 0, .slice none 0 0]).cells 0).toList = [] := List.eq_nil_of_length_eq_zero (by rw [Array.length_toList, zeroCellsE])
    rw [e]
    simp only [List.append_nil, List.length_nil, Nat.add_zero, List.take_append_drop, Array.toArray_toList]
    rw [setRow_self w g cur _ _ hg]
    simp [Builtin.clear_, run_underlying Try.underlying38]
  | succ m => simp [Builtin.clear_, run_underlying Try.underlying38, zeroValue, typeInfo, hi, hz0, hst]
/-- append(s, x) at a row. -/
theorem run_appendE (w : World) (ty : TypeId) (v : Value) (n : Nat) (xs : List Value) (V cV : Nat) (a b : Value) (fz : Nat × Nat) (h : RowAt w v n xs) (hV : w.heap[V]? = some (.cells #[a, b] 41 fz)) (ha : a.oneCell' = true) (hb : b.oneCell' = true) (hn : n ≤ 1000000) (h1 : ∀ u ∈ xs, u.oneCell' = true) :
    ∃ v' w', (Builtin.append_ #[38, 38] ty #[v, .slice (some ⟨V, 0, none⟩) 1 cV]).run Try.prog w = .ok v' w' ∧ RowAt w' v' (n + 1) (xs ++ [a, b]) ∧ w.grownBy w' v.ownBlock ∧ SameOrNew w v v' := by
  obtain ⟨i0, hi, hz0, hz1, hz2⟩ := info_parts infoE
  obtain ⟨hxl, h2⟩ := h
  have hcell : ∀ j u, [a, b][j]? = some u → w.cell? ((⟨V, 0, none⟩ : Addr).add j) = some u := by
    intro j u hj
    rw [Addr.add_lit, Lib.cell_of_heap hV, Nat.zero_add]
    simpa using hj
  have hone : ∀ u ∈ [a, b], u.oneCell' = true := by
    intro u hu
    simp only [List.mem_cons, List.not_mem_nil, or_false] at hu
    rcases hu with rfl | rfl
    · exact ha
    · exact hb
  have hsrc : Src Try.prog i0.size 38 (.slice (some ⟨V, 0, none⟩) 1 cV) 1 [a, b] w := by
    rw [hz1]
    exact Src.ofSlice w Try.underlying38 ⟨V, 0, none⟩ 1 cV [a, b] rfl hcell hone
  have hgrow : ∀ (base : Option Addr) (c : Nat), c < n + 1 → (Builtin.firstCells i0.size n (.slice base n c)).run Try.prog w.drew = .ok xs.toArray w.drew → ∀ row : Option Nat,
      ∃ v' w', (Builtin.append_ #[38, 38] ty #[.slice base n c, .slice (some ⟨V, 0, none⟩) 1 cV]).run Try.prog w = .ok v' w' ∧ RowAt w' v' (n + 1) (xs ++ [a, b]) ∧ w.grownBy w' row ∧ ∀ k, v'.ownBlock = some k → w.heap.size ≤ k := by
    intro base c hc hold row
    have hr := run_append_grow_src w 38 38 ty 41 i0 _ Try.underlying38 hi hz0 base n c xs hold _ 1 [a, b] hsrc (by omega) (by omega) (by rw [hz2]; exact growslice_fits hc (by omega))
    obtain ⟨zs, hza, hzl⟩ : ∃ zs : List Value, zs.toArray = Builtin.zeroCells (Value.agg #[.int .i64 0, .slice none 0 0]).cells (grownCap w (n + 1) c 41 - (n + 1)) ∧ zs.length = (grownCap w (n + 1) c 41 - (n + 1)) * 2 :=
      ⟨_, Array.toArray_toList, by rw [Array.length_toList, zeroCellsE]⟩
    rw [← hza] at hr
    have hge := grownCap_ge w (n + 1) c 41
    have hnew := heap_alloc_new w.drew (.cells ((xs ++ [a, b]).toArray ++ zs.toArray) 41)
    rw [show (xs ++ [a, b]).toArray ++ zs.toArray = (xs ++ [a, b] ++ zs).toArray by apply Array.ext'; simp] at hnew hr
    have hlen : (xs ++ [a, b]).length = (n + 1) * 2 := by
      rw [List.length_append, hxl]
      show n * 2 + 2 = _
      omega
    have hrow : RowAt (w.drew.alloc (.cells (xs ++ [a, b] ++ zs).toArray 41)) (.slice (some ⟨w.heap.size, 0, none⟩) (n + 1) (grownCap w (n + 1) c 41)) (n + 1) (xs ++ [a, b]) :=
      ⟨hlen, .inr ⟨w.heap.size, grownCap w (n + 1) c 41, zs, rfl, hnew, hge, by rw [hlen, hzl]; omega⟩⟩
    refine ⟨_, _, hr, hrow, ⟨rfl, rfl, rfl, by simp, fun k hk _ => heap_alloc_old w.drew _ hk⟩, ?_⟩
    intro k hk
    simp only [Value.ownBlock, Option.some.injEq] at hk
    omega
  rcases h2 with ⟨rfl, rfl⟩ | ⟨L, c, sp, rfl, hL, hnc, hc⟩
  · obtain rfl : xs = [] := List.eq_nil_of_length_eq_zero (by omega)
    obtain ⟨v', w', q1, q2, q3, q4⟩ := hgrow none 0 (by omega) (run_firstCells_none w.drew i0.size 0 0 0) none
    exact ⟨v', w', q1, q2, q3, fun k hk => .inr (q4 k hk)⟩
  · by_cases hroom : n + 1 ≤ c
    · have hr := run_append_room (P := Try.prog) w 38 ty 41 i0 Try.underlying38 hi L n c _ hL ⟨V, 0, none⟩ 1 cV [a, b] (by rw [hz1]; rfl) hcell hone hroom (by rw [hz1]; simp; omega)
      refine ⟨_, _, hr, ⟨by simp [hxl]; omega, .inr ⟨L, c, sp.drop 2, rfl, ?_, hroom, ?_⟩⟩, setRow_frame _ _ _, fun k hk => .inl hk⟩
      · rw [setRow_heap w L _ _ _ _ hL, hz1]
        congr 3
        rw [List.toList_toArray, ← hxl, List.take_left', List.drop_append]
        · simp
        · rfl
      · simp only [List.length_append, List.length_cons, List.length_nil, List.length_drop]
        omega
    · have hlt := (Array.getElem?_eq_some_iff.1 hL).1
      obtain ⟨v', w', q1, q2, q3, q4⟩ := hgrow (some ⟨L, 0, none⟩) c (by omega) (by
        rw [hz1]
        refine run_firstCells_some w.drew 2 n _ n c xs hxl fun j u hj => ?_
        rw [Addr.add_lit, Nat.zero_add]
        have e : w.drew.heap[L]? = some (.cells (xs ++ sp).toArray 41 (0, 0)) := hL
        rw [Lib.cell_of_heap e]
        simp only [List.getElem?_toArray]
        rw [List.getElem?_append_left (List.getElem?_eq_some_iff.1 hj).1]
        exact hj) (some L)
      exact ⟨v', w', q1, q2, q3, fun k hk => .inr (q4 k hk)⟩
end Go.Proofs.Ytjochldpacgcgaa.U
