/- slices.Clone of bytes; slices.Insert, slices.Replace behind the last piece. -/
import Derived.Test.YtjochldpacgcgaaEread
import Derived.Laws.AppendOwn
import Derived.Lib.SliceRun
set_option linter.unusedVariables false
set_option linter.unusedSimpArgs false
namespace Go.Proofs.Ytjochldpacgcgaa.U
open Go.RowKit Go.Proofs Go.Lib Go.Proofs.YtjochldpacgcgaaW.PrintWords

/-- Bytes that are the call's own. -/
theorem BR.of_own {w : World} {base : Nat} {v : Value} {n : Nat} {bs : List Int} (h : w.ownsRow base 5 1 v n (nums .u8 bs)) (h0 : 0 < n) : ∃ O cap, v = .slice (some ⟨O, 0, none⟩) n cap ∧ base ≤ O ∧ BR w (some ⟨O, 0, none⟩) cap bs := by
  obtain ⟨h1, h2⟩ := h
  rw [nums_len, Nat.mul_one] at h1
  rcases h2 with ⟨_, h2⟩ | ⟨g, cap, cur, hv, hg, hh, hc, _, hsz, htk⟩
  · omega
  · refine ⟨g, cap, hv, hg, by omega, fun _ => ⟨g, 0, cur, (0, 0), rfl, hh, fun j b hj => ?_⟩⟩
    have hjl : j < n := by have := (List.getElem?_eq_some_iff.1 hj).1; omega
    have : (cur.toList.take (n * 1))[j]? = some (.int .u8 b) := by
      rw [htk]
      unfold nums
      rw [List.getElem?_map, hj]
      rfl
    rw [List.getElem?_take, if_pos (by omega), Array.getElem?_toList] at this
    rw [Nat.zero_add]
    exact this
theorem BR.cells {w : World} {A : Option Addr} {c : Nat} {bs : List Int} (h : BR w A c bs) (h0 : 0 < bs.length) : ∃ g o, A = some ⟨g, o, none⟩ ∧ g < w.heap.size ∧ ∀ j u, (nums .u8 bs)[j]? = some u → w.cell? ((⟨g, o, none⟩ : Addr).add j) = some u := by
  obtain ⟨g, o, cs, fz, e, hh, hc⟩ := h.2 h0
  refine ⟨g, o, e, (Array.getElem?_eq_some_iff.1 hh).1, fun j u hj => ?_⟩
  have e2 : (⟨g, o, none⟩ : Addr).add j = ⟨g, o + j, none⟩ := by
    unfold Addr.add
    split
    · rename_i h; subst h; rfl
    · rfl
  rw [e2, Lib.cell_of_heap hh]
  unfold nums at hj
  rw [List.getElem?_map] at hj
  obtain ⟨z, hz, rfl⟩ := Option.map_eq_some_iff.1 hj
  exact hc j z hz
/-- Bytes that are read, whatever their block is (an argument's). -/
def BA (w : World) (A : Option Addr) (c : Nat) (bs : List Int) : Prop :=
  bs.length ≤ c ∧ (0 < bs.length → ∃ g o, A = some ⟨g, o, none⟩ ∧ g < w.heap.size ∧ ∀ j u, (nums .u8 bs)[j]? = some u → w.cell? ((⟨g, o, none⟩ : Addr).add j) = some u)
theorem BR.ba {w : World} {A : Option Addr} {c : Nat} {bs : List Int} (h : BR w A c bs) : BA w A c bs := ⟨h.1, fun h0 => h.cells h0⟩
theorem BA.below {w w' : World} {B : Nat} {A : Option Addr} {c : Nat} {bs : List Int} (h : BA w A c bs) (hb : Below B w w') (hB : ∀ g o, A = some ⟨g, o, none⟩ → g < B) : BA w' A c bs := by
  refine ⟨h.1, fun h0 => ?_⟩
  obtain ⟨g, o, rfl, hg, hc⟩ := h.2 h0
  refine ⟨g, o, rfl, Nat.lt_of_lt_of_le hg hb.size, fun j u hj => ?_⟩
  rw [← hc j u hj, Addr.add_lit]
  exact hb.cell (p := ⟨g, o + j, none⟩) (hB g o rfl)
theorem BA.keep {w w' : World} {A : Option Addr} {c : Nat} {bs : List Int} (h : BA w A c bs) (hb : Below w.heap.size w w') : BA w' A c bs := by
  refine ⟨h.1, fun h0 => ?_⟩
  obtain ⟨g, o, rfl, hg, hc⟩ := h.2 h0
  refine ⟨g, o, rfl, Nat.lt_of_lt_of_le hg hb.size, fun j u hj => ?_⟩
  rw [← hc j u hj, Addr.add_lit]
  exact hb.cell (p := ⟨g, o + j, none⟩) hg
theorem nums_one (bs : List Int) : ∀ u ∈ nums .u8 bs, u.oneCell' = true := by
  intro u hu
  obtain ⟨z, _, rfl⟩ := List.mem_map.1 hu
  rfl
theorem below_grown {B : Nat} {w0 w w1 : World} {row : Option Nat} (h : Below B w0 w) (hw : w.grownBy w1 row) (hB : B ≤ w.heap.size) (hr : ∀ k, row = some k → B ≤ k) : Below B w0 w1 := h.grown hw hB hr
set_option maxHeartbeats 4000000 in
set_option maxRecDepth 1000000 in
theorem Clone_calls (A : Option Addr) (c : Nat) (bs : List Int) (w : World) (hR : BA w A c bs) (h0 : 0 < bs.length) (hl : bs.length ≤ 1000000000) :
    Calls Try.prog 30 #[.slice A bs.length c] w fun e w' => ∃ v, e = .returned v ∧ w'.ownsRow w.heap.size 5 1 v bs.length (nums .u8 bs) ∧ Below w.heap.size w w' := by
  obtain ⟨g, o, rfl, hg, hcell⟩ := hR.2 h0
  obtain ⟨i0, hi, hz0, hz1, hz2⟩ := info_parts infoU8
  generalize hn : bs.length = n at *
  have HN := Lib.hid hn
  have HCELL := Lib.hid hcell
  clear hR hn hcell
  have q := fun (w : World) (a : Option Addr) (n c n' c' : Nat) => Lib.run_eql_slice_nil (P := Try.prog) w 29 _ a n c n' c' Try.underlying29
  go_enter Try.func30, Try.ntmps30
  have hb1 : Below w.heap.size w (w.alloc (.cells #[] 5)) := (Below.refl _ _).alloc (Nat.le_refl _) _
  have hown : (w.alloc (.cells #[] 5)).ownsRow w.heap.size 5 1 (.slice (some ⟨w.heap.size, 0, none⟩) 0 0) 0 [] := ⟨rfl, .inr ⟨w.heap.size, 0, #[], rfl, Nat.le_refl _, heap_alloc_new w _, Nat.le_refl _, Nat.zero_le _, rfl, rfl⟩⟩
  go_wp2_with (at_builtin; refine wpList_append_own _ rfl _ _ 29 rfl w.heap.size 5 i0 (.int .u8 0) 1 1 Try.underlying29 hi hz0 hz1 hz2 rfl (by decide) _ 0 [] rfl hown ⟨g, o, none⟩ n c (nums .u8 bs) rfl (by rw [nums_len, HN.out, Nat.mul_one]) (fun j u hj => (hb1.cell (p := (⟨g, o, none⟩ : Addr).add j) (by unfold Addr.add; split <;> exact hg)).trans (HCELL.out j u hj)) (nums_one bs) (by unfold maxLen; omega) (by omega) hb1.size ?_)
  intro v' w2 ho hgr _
  have hbz : Below w.heap.size w w2 := hb1.grown hgr hb1.size (fun k hk => (hown.lt k hk).1)
  go_wp2
  go_ret
  exact ⟨_, rfl, ho, hbz⟩
/-! ### slices.Insert, slices.Replace: behind the last piece -/
theorem infoE : (Try.prog.info? 41).map (fun i => (i.zero, i.size, i.bytes)) = some (some (.agg #[.int .i64 0, .slice none 0 0]), 2, 32) := by kernel_rfl
set_option maxHeartbeats 4000000 in
set_option maxRecDepth 1000000 in
theorem Insert_end (base : Nat) (v : Value) (n : Nat) (xs : List Value) (V : Nat) (a b : Value) (w : World) (hown : w.ownsRow base 41 2 v n xs) (hV : w.heap[V]? = some (.cells #[a, b] 41 (0, 0))) (ha : a.oneCell' = true) (hb' : b.oneCell' = true) (hn : n ≤ 1000000) (hbase : base ≤ w.heap.size) :
    Calls Try.prog 37 #[v, .int .i64 n, .slice (some ⟨V, 0, none⟩) 1 1] w fun e w' => ∃ v', e = .returned v' ∧ w'.ownsRow base 41 2 v' (n + 1) (xs ++ [a, b]) ∧ w.grownBy w' v.ownBlock := by
  obtain ⟨i0, hi, hz0, hz1, hz2⟩ := info_parts infoE
  have hcell : ∀ j u, [a, b][j]? = some u → w.cell? ((⟨V, 0, none⟩ : Addr).add j) = some u := by
    intro j u hj
    have e2 : (⟨V, 0, none⟩ : Addr).add j = ⟨V, j, none⟩ := by
      unfold Addr.add
      split
      · rename_i h; subst h; rfl
      · show (⟨V, 0 + j, none⟩ : Addr) = _
        rw [Nat.zero_add]
    rw [e2, Lib.cell_of_heap hV]
    simpa using hj
  have h1 : ∀ u ∈ [a, b], u.oneCell' = true := by
    intro u hu
    simp only [List.mem_cons, List.not_mem_nil, or_false] at hu
    rcases hu with rfl | rfl
    · exact ha
    · exact hb'
  have hsl : ∃ A c, v = .slice A n c ∧ (A = none → c = 0) ∧ n ≤ c := by
    rcases hown.2 with ⟨rfl, h0⟩ | ⟨g, cap, cur, rfl, _, _, hc, _⟩
    · exact ⟨none, 0, by rw [h0], fun _ => rfl, by omega⟩
    · exact ⟨_, cap, rfl, fun h => (by cases h), hc⟩
  obtain ⟨A, c, rfl, hAc, hnc⟩ := hsl
  have d1 : (n : Int) ≤ (c : Int) := by omega
  have HCELL := Lib.hid hcell
  have HOWN := Lib.hid hown
  clear hcell hown hV
  go_enter Try.func37, Try.ntmps37
  go_wp2_with (at_builtin; refine wpList_append_own _ rfl _ _ 38 rfl base 41 i0 (.agg #[.int .i64 0, .slice none 0 0]) 2 32 Try.underlying38 hi hz0 hz1 hz2 rfl (by decide) _ n xs rfl HOWN.out ⟨V, 0, none⟩ 1 1 [a, b] rfl rfl HCELL.out h1 (by unfold maxLen; omega) (by omega) hbase ?_)
  all_goals
    intro v' w2 ho hg _
    go_wp2
    go_ret
    exact ⟨_, rfl, ho, by cases A <;> exact hg⟩
set_option maxHeartbeats 4000000 in
set_option maxRecDepth 1000000 in
theorem Replace_end (base : Nat) (v : Value) (n : Nat) (xs : List Value) (V : Nat) (a b : Value) (w : World) (hown : w.ownsRow base 41 2 v n xs) (hV : w.heap[V]? = some (.cells #[a, b] 41 (0, 0))) (ha : a.oneCell' = true) (hb' : b.oneCell' = true) (hn : n ≤ 1000000) (hbase : base ≤ w.heap.size) :
    Calls Try.prog 32 #[v, .int .i64 n, .int .i64 n, .slice (some ⟨V, 0, none⟩) 1 1] w fun e w' => ∃ v', e = .returned v' ∧ w'.ownsRow base 41 2 v' (n + 1) (xs ++ [a, b]) ∧ w.grownBy w' v.ownBlock := by
  have cI := Insert_end base v n xs V a b w hown hV ha hb' hn hbase
  have hsl : ∃ A c, v = .slice A n c ∧ (A = none → c = 0) ∧ n ≤ c := by
    rcases hown.2 with ⟨rfl, h0⟩ | ⟨g, cap, cur, rfl, _, _, hc, _⟩
    · exact ⟨none, 0, by rw [h0], fun _ => rfl, by omega⟩
    · exact ⟨_, cap, rfl, fun h => (by cases h), hc⟩
  obtain ⟨A, c, rfl, hAc, hnc⟩ := hsl
  by_cases hcn : c = n
  · subst hcn
    have d1 : (c : Int) ≤ (c : Int) := by omega
    have CI := Lib.hid cI
    clear cI hown hV
    go_enter Try.func32, Try.ntmps32
    go_wp2_with fail
    refine (CI.out).mono ?_
    rintro e w2 ⟨v', rfl, ho, hg⟩
    go_wp2
    go_ret
    exact ⟨_, rfl, ho, by cases A <;> exact hg⟩
  · have hcn2 : ¬ n = c := fun h => hcn h.symm
    have d1 : (n : Int) ≤ (c : Int) := by omega
    have CI := Lib.hid cI
    clear cI hown hV
    go_enter Try.func32, Try.ntmps32
    go_wp2_with fail
    refine (CI.out).mono ?_
    rintro e w2 ⟨v', rfl, ho, hg⟩
    go_wp2
    go_ret
    exact ⟨_, rfl, ho, by cases A <;> exact hg⟩
end Go.Proofs.Ytjochldpacgcgaa.U
