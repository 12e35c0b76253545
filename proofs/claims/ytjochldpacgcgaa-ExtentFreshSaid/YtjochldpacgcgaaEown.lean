/- extent: rows whose whole block is bytes; Extents once more, and what of its answer may be written over; Wide, Spoil, Copy. -/
import Derived.Test.YtjochldpacgcgaaEextents
set_option linter.unusedVariables false
set_option linter.unusedSimpArgs false
namespace Go.Proofs.Ytjochldpacgcgaa.U
open Go.RowKit Go.Proofs Go.Lib Go.Proofs.YtjochldpacgcgaaW.PrintWords
variable {N : Nat → Prop}

def AllU8 (w : World) (v : Value) : Prop := ∀ g, v.ownBlock = some g → ∃ cs : List Int, w.heap[g]? = some (.cells (nums .u8 cs).toArray 5 (0, 0))
theorem AllU8.nil (w : World) (n c : Nat) : AllU8 w (.slice none n c) := fun g h => by simp [Value.ownBlock] at h
theorem AllU8.move {w w' : World} {v : Value} (h : AllU8 w v) (hk : ∀ k, v.ownBlock = some k → w'.heap[k]? = w.heap[k]?) : AllU8 w' v := by
  intro g hg
  obtain ⟨cs, hc⟩ := h g hg
  exact ⟨cs, (hk g hg).trans hc⟩
theorem AllU8.below {w w' : World} {v : Value} (h : AllU8 w v) (hb : Below w.heap.size w w') : AllU8 w' v :=
  h.move fun k hk => by
    obtain ⟨cs, hc⟩ := h k hk
    exact hb.block k (Array.getElem?_eq_some_iff.1 hc).1
theorem zero_bytes (n : Nat) : Builtin.zeroCells (Value.int .u8 0).cells n = (nums .u8 (List.replicate n 0)).toArray := by
  apply Array.ext
  · simp [Builtin.zeroCells, nums, Value.cells]
  · intro i h1 h2
    simp [Builtin.zeroCells, nums, Value.cells, Nat.mod_one]
theorem nums_take (xs : List Int) (n : Nat) : (nums .u8 xs).take n = nums .u8 (xs.take n) := by simp [nums]
theorem nums_drop (xs : List Int) (n : Nat) : (nums .u8 xs).drop n = nums .u8 (xs.drop n) := by simp [nums]

section
variable {P : Program}
/-- append on such a list: it stays one. -/
theorem run_append_bytes (w : World) (base : Nat) (t ty : TypeId) (i : TypeInfo) (ht : P.underlying t = some (.slice 5)) (hi : P.info? 5 = some i) (hz : i.zero = some (.int .u8 0)) (hsize : i.size = 1) (hby : i.bytes = 1)
    (v : Value) (xs : List Int) (hown : w.ownsRow base 5 1 v xs.length (nums .u8 xs)) (hU : AllU8 w v)
    (a : Addr) (m c : Nat) (ys : List Int) (hl : ys.length = m) (hnews : ∀ j u, (nums .u8 ys)[j]? = some u → w.cell? (a.add j) = some u)
    (hbytes : xs.length + m ≤ 140737488355328) (hbase : base ≤ w.heap.size) :
    ∃ v' w', (Builtin.append_ #[t, t] ty #[v, .slice (some a) m c]).run P w = .ok v' w' ∧ w'.ownsRow base 5 1 v' (xs.length + m) (nums .u8 xs ++ nums .u8 ys) ∧ w.grownBy w' v.ownBlock ∧ AllU8 w' v' := by
  have h1 : ∀ u ∈ nums .u8 ys, u.oneCell' = true := by
    intro u hu
    obtain ⟨z, _, rfl⟩ := List.mem_map.1 hu
    rfl
  have hml : xs.length + m ≤ maxLen := by unfold maxLen; omega
  obtain ⟨v', w', hr, e1, e2, e3⟩ := run_append_own (P := P) w base t ty 5 i (.int .u8 0) 1 1 ht hi hz hsize hby rfl (by decide) v xs.length (nums .u8 xs) hown a m c (nums .u8 ys) (by rw [nums_length]; omega) hnews h1 hml (by omega) hbase
  refine ⟨v', w', hr, e1, e2, ?_⟩
  have hsm : ((xs.length + m : Nat) : Int) ≤ 9223372036854775807 := by omega
  rcases hown.2 with ⟨rfl, hn0⟩ | ⟨g, cap, cur, rfl, hbg, hg, hnc, hcm, hcs, htake⟩
  · by_cases hm : m = 0
    · have := e3.2 ⟨rfl, hm⟩
      subst this
      exact AllU8.nil _ _ _
    · have hx : xs = [] := List.eq_nil_of_length_eq_zero hn0
      subst hx
      have hr' := run_append_nil (P := P) w t ty 5 i (.int .u8 0) ht hi hz a m c (nums .u8 ys) (by rw [nums_length, hsize]; omega) hnews (by omega) (by omega) (by rw [hby]; simp at hbytes; omega)
      rw [hr] at hr'
      injection hr' with hv hw
      subst hv hw
      intro g hg
      simp [Value.ownBlock] at hg
      subst hg
      refine ⟨ys ++ List.replicate (grownCap w m 0 5 - m) 0, ?_⟩
      have := heap_alloc_new w.drew (.cells ((nums .u8 ys).toArray ++ Builtin.zeroCells (Value.int .u8 0).cells (grownCap w m 0 5 - m)) 5)
      rw [zero_bytes] at this ⊢
      rw [nums_append]
      simpa using this
  · obtain ⟨cs, hcell⟩ := hU g rfl
    rw [hg] at hcell
    injection hcell with hcell
    injection hcell with hcur _ _
    subst hcur
    by_cases hroom : xs.length + m ≤ cap
    · have hr' := run_append_room (P := P) w t ty 5 i ht hi g xs.length cap _ hg a m c (nums .u8 ys) (by rw [nums_length, hsize]; omega) hnews h1 hroom (by rw [nums_length, hsize, hcs]; omega)
      rw [hr] at hr'
      injection hr' with hv hw
      subst hv hw
      intro g' hg'
      simp [Value.ownBlock] at hg'
      subst hg'
      refine ⟨cs.take (xs.length * i.size) ++ ys ++ cs.drop (xs.length * i.size + (nums .u8 ys).length), ?_⟩
      rw [setRow_heap w g _ _ _ _ hg]
      simp only [List.toList_toArray, nums_append, nums_take, nums_drop]
    · have holds : ∀ j u, (nums .u8 xs)[j]? = some u → w.cell? ((⟨g, 0, none⟩ : Addr).add j) = some u := hown.cells (g := g) rfl
      have hr' := run_append_grow (P := P) w t ty 5 i (.int .u8 0) ht hi hz ⟨g, 0, none⟩ xs.length cap (nums .u8 xs) (by rw [nums_length, hsize]; omega) holds a m c (nums .u8 ys) (by rw [nums_length, hsize]; omega) hnews (by omega) (by omega) (by rw [hby]; exact growslice_fits (by omega) (by omega))
      rw [hr] at hr'
      injection hr' with hv hw
      subst hv hw
      intro g' hg'
      simp [Value.ownBlock] at hg'
      subst hg'
      refine ⟨xs ++ ys ++ List.replicate (grownCap w (xs.length + m) cap 5 - (xs.length + m)) 0, ?_⟩
      have := heap_alloc_new w.drew (.cells ((nums .u8 xs).toArray ++ (nums .u8 ys).toArray ++ Builtin.zeroCells (Value.int .u8 0).cells (grownCap w (xs.length + m) cap 5 - (xs.length + m))) 5)
      rw [zero_bytes] at this ⊢
      rw [nums_append, nums_append]
      simpa using this
theorem wpList_append_bytes {w : World} {ops : Array Oper} {rest : List Oper} {o : Oper} {act : Act} {Q : Exit → Act → World → Prop} (hgd : o.guard = none) (s x : Operand) (t : TypeId)
    (ho : o.op = .call { callee := .builtin .append, args := #[s, x], argTypes := #[t, t] }) (base : Nat) (i : TypeInfo) (ht : P.underlying t = some (.slice 5)) (hi : P.info? 5 = some i) (hz : i.zero = some (.int .u8 0)) (hsize : i.size = 1) (hby : i.bytes = 1)
    (v : Value) (xs : List Int) (hs : act.eval s = v) (hown : w.ownsRow base 5 1 v xs.length (nums .u8 xs)) (hU : AllU8 w v)
    (a : Addr) (m c : Nat) (ys : List Int) (hx : act.eval x = .slice (some a) m c) (hl : ys.length = m) (hnews : ∀ j u, (nums .u8 ys)[j]? = some u → w.cell? (a.add j) = some u)
    (hbytes : xs.length + m ≤ 140737488355328) (hbase : base ≤ w.heap.size)
    (h : ∀ v' w', w'.ownsRow base 5 1 v' (xs.length + m) (nums .u8 xs ++ nums .u8 ys) → w.grownBy w' v.ownBlock → AllU8 w' v' → wpList P ops Q rest (act.put o.dst v') w') : wpList P ops Q (o :: rest) act w := by
  refine wpList_plain hgd fun K hK => ?_
  obtain ⟨v', w', hr, h2, h3, h4⟩ := run_append_bytes (P := P) w base t o.type i ht hi hz hsize hby v xs hown hU a m c ys hl hnews hbytes hbase
  unfold Oper.wp execOp
  simp only [ho, resolve, invoke, builtin, Sem.run_bind, Sem.run_pure, Result.andThen_ok, List.map_toArray, List.map_cons, List.map_nil, hs, hx, hr]
  exact hK _ _ (h v' w' h2 h3 h4)
end
set_option maxHeartbeats 4000000 in
set_option maxRecDepth 1000000 in
theorem Clone2_calls (A : Option Addr) (c : Nat) (bs : List Int) (w : World) (hR : BA w A c bs) (h0 : 0 < bs.length) (hl : bs.length ≤ 1000000000) :
    Calls Try.prog 30 #[.slice A bs.length c] w fun e w' => ∃ v, e = .returned v ∧ w'.ownsRow w.heap.size 5 1 v bs.length (nums .u8 bs) ∧ AllU8 w' v ∧ Below w.heap.size w w' := by
  obtain ⟨g, o, rfl, hg, hcell⟩ := hR.2 h0
  obtain ⟨i0, hi, hz0, hz1, hz2⟩ := info_parts infoU8
  generalize hn : bs.length = n at *
  have HN := Lib.hid hn
  have HCELL := Lib.hid hcell
  clear hR hn hcell
  have hU0 : AllU8 (w.alloc (.cells #[] 5)) (.slice (some ⟨w.heap.size, 0, none⟩) 0 0) := fun g hg => by
    simp only [Value.ownBlock, Option.some.injEq] at hg
    subst hg
    exact ⟨[], heap_alloc_new w _⟩
  have q := fun (w : World) (a : Option Addr) (n c n' c' : Nat) => Lib.run_eql_slice_nil (P := Try.prog) w 29 _ a n c n' c' Try.underlying29
  go_enter Try.func30, Try.ntmps30
  have hb1 : Below w.heap.size w (w.alloc (.cells #[] 5)) := (Below.refl _ _).alloc (Nat.le_refl _) _
  have hown : (w.alloc (.cells #[] 5)).ownsRow w.heap.size 5 1 (.slice (some ⟨w.heap.size, 0, none⟩) 0 0) 0 [] := ⟨rfl, .inr ⟨w.heap.size, 0, #[], rfl, Nat.le_refl _, heap_alloc_new w _, Nat.le_refl _, Nat.zero_le _, rfl, rfl⟩⟩
  go_wp2_with (at_builtin; refine wpList_append_bytes rfl _ _ 29 rfl w.heap.size i0 Try.underlying29 hi hz0 hz1 hz2 _ [] rfl hown hU0 ⟨g, o, none⟩ n c bs rfl HN.out (fun j u hj => (hb1.cell (p := (⟨g, o, none⟩ : Addr).add j) (by unfold Addr.add; split <;> exact hg)).trans (HCELL.out j u hj)) (by simp; omega) hb1.size ?_)
  intro v' w2 ho hgr hU2
  have hbz : Below w.heap.size w w2 := hb1.grown hgr hb1.size (fun k hk => (hown.lt k hk).1)
  go_wp2
  go_ret
  exact ⟨_, rfl, ho, hU2, hbz⟩
theorem run_append_no (w : World) (ty : TypeId) (A : Option Addr) (c : Nat) : (Builtin.append_ #[29, 29] ty #[.slice none 0 0, .slice A 0 c]).run Try.prog w = .ok (.slice none 0 0) w := by
  obtain ⟨i0, hi, hz0, hz1, hz2⟩ := info_parts infoU8
  cases A <;> simp [Builtin.append_, run_underlying Try.underlying29, sizeOf, typeInfo, hi, Builtin.lenOf, Builtin.firstCells, storeCells, loadCells, loadCellsFrom]
theorem wpList_append_run {P : Program} {w w' : World} {ops : Array Oper} {rest : List Oper} {o : Oper} {act : Act} {Q : Exit → Act → World → Prop} (hgd : o.guard = none) (s x : Operand) (t : TypeId)
    (ho : o.op = .call { callee := .builtin .append, args := #[s, x], argTypes := #[t, t] }) (vs vx v' : Value) (hs : act.eval s = vs) (hx : act.eval x = vx) (hr : (Builtin.append_ #[t, t] o.type #[vs, vx]).run P w = .ok v' w')
    (h : wpList P ops Q rest (act.put o.dst v') w') : wpList P ops Q (o :: rest) act w := by
  refine wpList_plain hgd fun K hK => ?_
  unfold Oper.wp execOp
  simp only [ho, resolve, invoke, builtin, Sem.run_bind, Sem.run_pure, Result.andThen_ok, List.map_toArray, List.map_cons, List.map_nil, hs, hx, hr]
  exact hK _ _ h
set_option maxHeartbeats 4000000 in
set_option maxRecDepth 1000000 in
theorem Rcopy_calls (A : Option Addr) (c : Nat) (bs : List Int) (w : World) (hR : BA w A c bs) (hl : bs.length ≤ 1000000000) :
    Calls Try.prog 22 #[.slice A bs.length c] w fun e w' => ∃ v, e = .returned v ∧ w'.ownsRow w.heap.size 5 1 v bs.length (nums .u8 bs) ∧ Below w.heap.size w w' := by
  obtain ⟨i0, hi, hz0, hz1, hz2⟩ := info_parts infoU8
  rcases Nat.eq_zero_or_pos bs.length with h0 | h0
  · obtain rfl : bs = [] := List.eq_nil_of_length_eq_zero h0
    clear hR
    rw [List.length_nil]
    go_enter Try.func22, Try.ntmps22
    go_wp2_with (at_builtin; refine wpList_append_run rfl _ _ 29 rfl _ _ _ rfl rfl (run_append_no w _ A c) ?_)
    go_wp2
    go_ret
    exact ⟨_, rfl, ⟨rfl, .inl ⟨rfl, rfl⟩⟩, Below.refl _ _⟩
  · obtain ⟨g, o, rfl, hg, hcell⟩ := hR.2 h0
    generalize hn : bs.length = n at *
    have HN := Lib.hid hn
    have HCELL := Lib.hid hcell
    clear hR hn hcell
    go_enter Try.func22, Try.ntmps22
    have hown : w.ownsRow w.heap.size 5 1 (.slice none 0 0) 0 [] := ⟨rfl, .inl ⟨rfl, rfl⟩⟩
    go_wp2_with (at_builtin; refine wpList_append_own _ rfl _ _ 29 rfl w.heap.size 5 i0 (.int .u8 0) 1 1 Try.underlying29 hi hz0 hz1 hz2 rfl (by decide) _ 0 [] rfl hown ⟨g, o, none⟩ n c (nums .u8 bs) rfl (by rw [nums_len, HN.out, Nat.mul_one]) HCELL.out (nums_one bs) (by unfold maxLen; omega) (by omega) (Nat.le_refl _) ?_)
    intro v' w2 ho hgr _
    have hbz : Below w.heap.size w w2 := (Below.refl _ _).grown hgr (Nat.le_refl _) (fun k hk => (hown.lt k hk).1)
    go_wp2
    go_ret
    exact ⟨_, rfl, ho, hbz⟩
/-- The pieces' bytes: blocks of bytes all through. -/
def U8s (w : World) (base : Nat) (l : List Value) : Prop := ∀ A n c, Value.slice A n c ∈ l → ∃ g ds, A = some ⟨g, 0, none⟩ ∧ base ≤ g ∧ w.heap[g]? = some (.cells (nums .u8 ds).toArray 5 (0, 0)) ∧ ds.length = c ∧ n ≤ c ∧ c ≤ 9223372036854775807
theorem U8s.kept {w w' : World} {base : Nat} {l : List Value} (h : U8s w base l) (hk : ∀ (g : Nat) (cs : Array Value) (fz : Nat × Nat), w.heap[g]? = some (Obj.cells cs 5 fz) → w'.heap[g]? = some (Obj.cells cs 5 fz)) : U8s w' base l := by
  intro A n c hm
  obtain ⟨g, ds, h1, h2, h3, h4⟩ := h A n c hm
  exact ⟨g, ds, h1, h2, hk _ _ _ h3, h4⟩
/-- A row of pieces that is new: from block base on, the bytes too. -/
def NewU (w : World) (base : Nat) (v : Value) (xs : List Ext) : Prop := ∃ l, RowAt w v xs.length l ∧ EC w (fun k => k < base) l.toArray xs ∧ (∀ k, v.ownBlock = some k → base ≤ k) ∧ (∀ u ∈ l, u.oneCell' = true) ∧ U8s w base l
theorem NewU.nil (w : World) (base : Nat) : NewU w base (.slice none 0 0) [] := ⟨[], ⟨rfl, .inl ⟨rfl, rfl⟩⟩, fun j x hj => by simp at hj, fun k hk => (by cases hk), fun u hu => (by cases hu), fun A n c hu => (by cases hu)⟩
theorem NewU.below {w w' : World} {base : Nat} {v : Value} {xs : List Ext} (h : NewU w base v xs) (hb : Below w.heap.size w w') : NewU w' base v xs := by
  obtain ⟨l, h1, h2, h3, h4⟩ := h
  exact ⟨l, h1.below hb, h2.kept fun g cs fz hh => kept_below hb _ _ hh, h3, h4.1, h4.2.kept fun g cs fz hh => kept_below hb _ _ hh⟩
theorem NewU.length {w : World} {base : Nat} {v : Value} {xs : List Ext} (h : NewU w base v xs) : ∃ A c, v = .slice A xs.length c := by
  obtain ⟨l, h1, _⟩ := h
  exact h1.slice
theorem U8s.mono {w : World} {base b0 : Nat} {l : List Value} (h : U8s w base l) (hb : b0 ≤ base) : U8s w b0 l := by
  intro A n c hm
  obtain ⟨g, ds, h1, h2, h3, h4⟩ := h A n c hm
  exact ⟨g, ds, h1, Nat.le_trans hb h2, h3, h4⟩
theorem u8s_of {w : World} {base b0 O n cap : Nat} {l : List Value} (h : w.ownsRow base 5 1 (.slice (some ⟨O, 0, none⟩) n cap) n l) (hU : AllU8 w (.slice (some ⟨O, 0, none⟩) n cap)) (hO : b0 ≤ O) : U8s w b0 [.slice (some ⟨O, 0, none⟩) n cap] := by
  intro A n' c' hm
  rw [List.mem_singleton] at hm
  injection hm with e1 e2 e3
  subst e1 e2 e3
  obtain ⟨ds, hd⟩ := hU O rfl
  refine ⟨O, ds, rfl, hO, hd, ?_⟩
  rcases h.2 with ⟨e, _⟩ | ⟨g, cap', cur, e, _, hg, hnc, hmx, hcs, _⟩
  · cases e
  · injection e with e1 _ e3
    injection e1 with e1
    injection e1 with e1
    subst e1 e3
    rw [hd] at hg
    injection hg with hg
    injection hg with hg _ _
    rw [← hg] at hcs
    unfold maxLen at hmx
    exact ⟨by simpa [nums] using hcs, hnc, by omega⟩
theorem NewU.toX {w : World} {base : Nat} {v : Value} {xs : List Ext} (h : NewU w base v xs) : NewX w base v xs := by
  obtain ⟨l, h1, h2, h3, h4, _⟩ := h
  exact ⟨l, h1, h2, h3, h4⟩
/-- One piece more. -/
theorem NewU.snoc {w : World} {base V cV : Nat} {v : Value} {xs : List Ext} {x : Ext} {A : Option Addr} {c : Nat} {fz : Nat × Nat} (ty : TypeId) (h : NewU w base v xs) (hV : w.heap[V]? = some (.cells #[.int .i64 (x.1 : Int), .slice A x.2.length c] 41 fz)) (hB : BR w A c x.2) (hA : ∀ g o, A = some ⟨g, o, none⟩ → base ≤ g) (hU : U8s w base [.slice A x.2.length c]) (hn : xs.length ≤ 1000000) (hbase : base ≤ w.heap.size) :
    ∃ v' w', (Builtin.append_ #[38, 38] ty #[v, .slice (some ⟨V, 0, none⟩) 1 cV]).run Try.prog w = .ok v' w' ∧ NewU w' base v' (xs ++ [x]) ∧ w.grownBy w' v.ownBlock := by
  obtain ⟨l, h1, h2, h3, h4⟩ := h
  obtain ⟨v', w', r1, r2, r3, r4⟩ := run_appendE w ty v xs.length l V cV _ _ fz h1 hV rfl rfl hn h4.1
  refine ⟨v', w', r1, ⟨l ++ [.int .i64 (x.1 : Int), .slice A x.2.length c], ?_, ?_, fun k hk => ?_, fun u hu => ?_, fun A' n' c' hu => ?_⟩, r3⟩
  · rw [List.length_append]; exact r2
  · have hk := h1.u8_kept r3
    have := (h2.kept hk).replace h1.1 (i := xs.length) (j := xs.length) (Nat.le_refl _) (Nat.le_refl _) x A c (hB.kept hk) (fun g o e hg => by have := hA g o e; omega)
    rw [List.take_of_length_le (by rw [h1.1]; exact Nat.le_refl _), List.drop_eq_nil_of_le (by rw [h1.1]; exact Nat.le_refl _), List.append_nil, List.take_of_length_le (Nat.le_refl _), List.drop_eq_nil_of_le (Nat.le_refl _)] at this
    exact this
  · rcases r4 k hk with h5 | h5
    · exact h3 k h5
    · omega
  · rcases List.mem_append.1 hu with hu | hu
    · exact h4.1 u hu
    · simp only [List.mem_cons, List.not_mem_nil, or_false] at hu
      rcases hu with rfl | rfl <;> rfl
  · have hk := h1.u8_kept r3
    rcases List.mem_append.1 hu with hu | hu
    · exact h4.2.kept hk A' n' c' hu
    · refine hU.kept hk A' n' c' ?_
      simp only [List.mem_cons, List.not_mem_nil, or_false] at hu ⊢
      rcases hu with hu | hu
      · cases hu
      · exact hu
set_option maxHeartbeats 16000000 in
set_option maxRecDepth 1000000 in
theorem Extents2_calls (D size : Nat) (xs : List Ext) (lA : Option Addr) (cl : Nat) (w : World) (h : DataAt w N D size xs lA cl) (hok : Ok 0 xs) (hx : ∀ x ∈ xs, en x ≤ size) (hs : size ≤ 65536) :
    Calls Try.prog 18 #[.pointer (some ⟨D, 0, none⟩)] w fun e w' => ∃ v, e = .returned v ∧ NewU w' w.heap.size v xs ∧ Below w.heap.size w w' := by
  obtain ⟨q1, q2, q3, hD⟩ := h.cells
  have hlen := ok_len' hok hx
  have C1 := Lib.hid (off_on D w q1)
  have HD := Lib.hid h
  have HOK := Lib.hid hok
  have HX := Lib.hid hx
  generalize hnn : xs.length = nn at *
  have HL := Lib.hid hnn
  clear h hok hx hnn
  go_enter Try.func18, Try.ntmps18
  go_wp2_with fail
  refine (C1.out).mono ?_
  rintro e w1 ⟨rfl, rfl⟩
  go_wp2_with fail
  go_loopg [3, 13] nn (fun g v3 v13 wr => ∃ i : Nat, v13 = .int .i64 (i : Int) ∧ i + g = nn ∧ NewU wr w1.heap.size v3 (xs.take i) ∧ Below w1.heap.size w1 wr)
  case atStart => exact ⟨0, rfl, Nat.zero_add _, NewU.nil _ _, Below.refl _ _⟩
  case round =>
    obtain ⟨i, rfl, hig, hnx, hbw⟩ := hrel
    have HNX := Lib.hid hnx
    have HBW := Lib.hid hbw
    have HIG := Lib.hid hig
    have htl : (xs.take i).length = i := by rw [List.length_take]; have := HL.out; omega
    obtain ⟨A3, c3, hv3⟩ := hnx.length
    rw [htl] at hv3
    subst hv3
    have HTL := Lib.hid htl
    clear hnx hbw htl
    by_cases hin : i < nn
    · have d3 : decide ((i : Int) < (nn : Int)) = true := by simp; omega
      obtain ⟨x, hxi⟩ : ∃ x, xs[i]? = some x := ⟨_, List.getElem?_eq_getElem (by have := HL.out; omega)⟩
      have hDr := HD.out.below HBW.out
      obtain ⟨L, A, c', rfl, hL, q4, q5, hBR⟩ := hDr.piece hxi
      have hx0 := (HOK.out.mem x (List.mem_of_getElem? hxi)).2
      have hxe := HX.out x (List.mem_of_getElem? hxi)
      have ex : en x = x.1 + x.2.length := rfl
      have hxl : x.2.length ≤ 65536 := by omega
      have htk : xs.take (i + 1) = xs.take i ++ [x] := by
        obtain ⟨h1, h2⟩ := List.getElem?_eq_some_iff.1 hxi
        rw [List.take_succ_eq_append_getElem h1, h2]
      have HTK := Lib.hid htk
      have hba : Below wr.heap.size wr (wr.alloc (.cells #[.int .i64 (x.1 : Int), .slice A x.2.length c'] 41)) := (Below.refl _ _).alloc (Nat.le_refl _) _
      have hOa := heap_alloc_new wr (.cells #[.int .i64 (x.1 : Int), .slice A x.2.length c'] 41)
      obtain ⟨wa, hwa⟩ : ∃ wa, wr.alloc (.cells #[.int .i64 (x.1 : Int), .slice A x.2.length c'] 41) = wa := ⟨_, rfl⟩
      rw [hwa] at hba hOa
      have q11 : wa.cell? ⟨wr.heap.size, 0, none⟩ = some (.int .i64 (x.1 : Int)) := by rw [Lib.cell_of_heap hOa]; rfl
      have q12 : wa.cell? ⟨wr.heap.size, 1, none⟩ = some (.slice A x.2.length c') := by rw [Lib.cell_of_heap hOa]; rfl
      have hrw : wr.heap.size < wa.heap.size := (Array.getElem?_eq_some_iff.1 hOa).1
      have hKS : ∀ w', Below wa.heap.size wa w' → w'.cell? ⟨wr.heap.size, 0, none⟩ = some (.int .i64 (x.1 : Int)) ∧ w'.cell? ⟨wr.heap.size, 1, none⟩ = some (.slice A x.2.length c') := fun w' h =>
        ⟨(h.cell (p := ⟨wr.heap.size, 0, none⟩) hrw).trans q11, (h.cell (p := ⟨wr.heap.size, 1, none⟩) hrw).trans q12⟩
      have hBRa := hBR.kept fun g cs fz hh => kept_below hba _ _ hh
      have cC := fun W (hW : Below wa.heap.size wa W) => Clone2_calls A c' x.2 W (hBRa.kept fun g cs fz hh => kept_below hW _ _ hh).ba hx0 (by omega)
      have KS := Lib.hid hKS
      have CC := Lib.hid cC
      have HBA := Lib.hid hba
      clear hKS cC hba hOa hBR hBRa htk hxi hDr ex
      go_wp2_with fail
      clear hwa
      have hS0 := KS.out _ (below_drew1 (Below.refl wa.heap.size wa))
      refine AnyL.start (fun w' => w'.cell? ⟨wr.heap.size, 0, none⟩ = some (.int .i64 (x.1 : Int)) ∧ w'.cell? ⟨wr.heap.size, 1, none⟩ = some (.slice A x.2.length c')) 99 (by kernel_rfl) hS0 (fun hHeld => ?_)
      refine AnyL.take (i := 0) (v := ?vy0) rfl (by kernel_rfl) (by kernel_rfl) (by kernel_rfl) (by kernel_rfl) (fun _ _ _ h => h) (by assumption) (Or.inl ⟨by rfl, ?y0⟩) ?ry0
      case y0 => (intro w hSw; (try dsimp only at hSw); go_simp; try with_reducible rfl)
      try simp only [Act.put, List.setIfInBounds_toArray, List.set_cons_zero, List.set_cons_succ]
      refine AnyL.take (i := 1) (v := ?vy1) rfl (by kernel_rfl) (by kernel_rfl) (by kernel_rfl) (by kernel_rfl) (fun _ _ _ h => h) (by assumption) (Or.inl ⟨by rfl, ?y1⟩) ?ry1
      case y1 => (intro w hSw; (try dsimp only at hSw); go_simp; try with_reducible rfl)
      try simp only [Act.put, List.setIfInBounds_toArray, List.set_cons_zero, List.set_cons_succ]
      refine AnyL.take (i := 2) (v := ?vy2) rfl (by kernel_rfl) (by kernel_rfl) (by kernel_rfl) (by kernel_rfl) (fun _ _ _ h => h) (by assumption) (Or.inl ⟨by rfl, ?y2⟩) ?ry2
      case y2 => (intro w hSw; (try dsimp only at hSw); go_simp; try with_reducible rfl)
      try simp only [Act.put, List.setIfInBounds_toArray, List.set_cons_zero, List.set_cons_succ]
      refine AnyL.take (i := 3) (v := ?vy3) rfl (by kernel_rfl) (by kernel_rfl) (by kernel_rfl) (by kernel_rfl) (fun _ _ _ h => h) (by assumption) (Or.inl ⟨by rfl, ?y3⟩) ?ry3
      case y3 => (intro w hSw; (try dsimp only at hSw); go_simp; try with_reducible rfl)
      try simp only [Act.put, List.setIfInBounds_toArray, List.set_cons_zero, List.set_cons_succ]
      refine AnyL.take (i := 4) (v := ?vy4) rfl (by kernel_rfl) (by kernel_rfl) (by kernel_rfl) (by kernel_rfl) (fun _ _ _ h => h) (by assumption) (Or.inl ⟨by rfl, ?y4⟩) ?ry4
      case y4 => (intro w hSw; (try dsimp only at hSw); go_simp; try with_reducible rfl)
      try simp only [Act.put, List.setIfInBounds_toArray, List.set_cons_zero, List.set_cons_succ]
      refine AnyL.one (i := 5) (by kernel_rfl) rfl (fun K hK => ?_)
      go_simp
      refine (CC.out _ (below_drew1 (Below.refl _ _))).mono ?_
      rintro e w5 ⟨v5, rfl, ho5, hU5, hb5⟩
      obtain ⟨O, cap, rfl, hO, hBO⟩ := BR.of_own ho5 hx0
      have hu5 := u8s_of ho5 hU5 hO
      have hb6 := (below_drew1 (Below.refl wa.heap.size wa)).trans hb5
      refine hK.out _ _ (.inr (KS.out _ hb6)) ?_
      have hHeld := KS.out _ hb6
      clear hK K
      try simp only [Act.put, List.setIfInBounds_toArray, List.set_cons_zero, List.set_cons_succ]
      refine AnyL.take (i := 6) (v := ?vy6) rfl (by kernel_rfl) (by kernel_rfl) (by kernel_rfl) (by kernel_rfl) (fun _ _ _ h => h) (by assumption) (Or.inl ⟨by rfl, ?y6⟩) ?ry6
      case y6 => (intro w hSw; (try dsimp only at hSw); go_simp; try with_reducible rfl)
      try simp only [Act.put, List.setIfInBounds_toArray, List.set_cons_zero, List.set_cons_succ]
      have hbv : Below w5.heap.size w5 (w5.alloc (.cells #[.int .i64 (x.1 : Int), .slice (some ⟨O, 0, none⟩) x.2.length cap] 41)) := (Below.refl _ _).alloc (Nat.le_refl _) _
      have hV := heap_alloc_new w5 (.cells #[.int .i64 (x.1 : Int), .slice (some ⟨O, 0, none⟩) x.2.length cap] 41)
      refine AnyL.one (i := 7) (by kernel_rfl) rfl (fun K hK => ?_)
      go_simp
      obtain ⟨wv, hwv⟩ : ∃ wv, w5.alloc (.cells #[.int .i64 (x.1 : Int), .slice (some ⟨O, 0, none⟩) x.2.length cap] 41) = wv := ⟨_, rfl⟩
      rw [hwv] at hbv hV ⊢
      have hb7 := hb6.trans (hbv.mono hb6.size)
      refine hK.out _ _ (.inr (KS.out _ hb7)) ?_
      have hHeld := KS.out _ hb7
      clear hK K
      try simp only [Act.put, List.setIfInBounds_toArray, List.set_cons_zero, List.set_cons_succ]
      have hbr := HBA.out.trans (hb7.mono HBA.out.size)
      have hbw7 := HBW.out.trans (hbr.mono HBW.out.size)
      obtain ⟨v8, w8, r1, r2, r3⟩ := NewU.snoc (cV := 1) 38 (HNX.out.below hbr) hV (hBO.kept fun g cs fz hh => kept_below hbv _ _ hh) (fun g o e => by
        injection e with e
        injection e with e
        subst e
        have h1 : wa.heap.size ≤ O := hO
        have h2 := HBW.out.size
        omega) ((hu5.kept fun g cs fz hh => kept_below hbv _ _ hh).mono (Nat.le_trans HBW.out.size HBA.out.size)) (by rw [HTL.out]; omega) hbw7.size
      refine AnyL.one (i := 8) (by kernel_rfl) rfl (fun K hK => ?_)
      refine step_append_run _ (by rfl) _ _ 38 38 (by rfl) _ _ (by rfl) (by rfl) v8 w8 r1 ?_
      have hb8 : Below w1.heap.size w1 w8 := hbw7.grown r3 hbw7.size (fun k hk => by
        obtain ⟨_, _, _, h3, _⟩ := HNX.out
        exact h3 k hk)
      have hS8 : w8.cell? ⟨wr.heap.size, 0, none⟩ = some (.int .i64 (x.1 : Int)) ∧ w8.cell? ⟨wr.heap.size, 1, none⟩ = some (.slice A x.2.length c') := by
        have h1 : w8.heap[wr.heap.size]? = wv.heap[wr.heap.size]? := r3.block _ (Nat.lt_of_lt_of_le hrw hb7.size) (fun e => by
          obtain ⟨l, hl, _⟩ := HNX.out
          rcases hl.2 with ⟨h2, _⟩ | ⟨L', c2, sp, h2, hL', _⟩
          · rw [h2] at e; cases e
          · rw [h2] at e
            simp only [Value.ownBlock, Option.some.injEq] at e
            have := (Array.getElem?_eq_some_iff.1 hL').1
            omega)
        exact ⟨(World.cell?_of_block (a := ⟨wr.heap.size, 0, none⟩) h1).trans hHeld.1, (World.cell?_of_block (a := ⟨wr.heap.size, 1, none⟩) h1).trans hHeld.2⟩
      refine hK.out _ _ (.inr hS8) ?_
      clear hHeld
      have hHeld := hS8
      clear hK K
      try simp only [Act.put, List.setIfInBounds_toArray, List.set_cons_zero, List.set_cons_succ]
      refine AnyL.take (i := 9) (v := ?vy9) rfl (by kernel_rfl) (by kernel_rfl) (by kernel_rfl) (by kernel_rfl) (fun _ _ _ h => h) (by assumption) (Or.inl ⟨by rfl, ?y9⟩) ?ry9
      case y9 => (intro w hSw; (try dsimp only at hSw); go_simp; try with_reducible rfl)
      try simp only [Act.put, List.setIfInBounds_toArray, List.set_cons_zero, List.set_cons_succ]
      refine AnyL.done (by kernel_rfl) ?_ _
      have H2 := Lib.hid r2
      have H8 := Lib.hid hb8
      have hgm : gk - 1 < gk := by have := HIG.out; omega
      have hgi : i + 1 + (gk - 1) = nn := by have := HIG.out; omega
      have HGI := Lib.hid hgi
      clear hu5 hU5 hHeld hS8 r1 r2 r3 hb8 hb7 hb6 hb5 ho5 hBO hbr hbw7 hbv hV hwv hO hgi hig
      go_wp2_with fail
      go_roundg (gk - 1)
      case measure => exact hgm
      case rel => exact ⟨i + 1, by rw [Int.natCast_succ], HGI.out, by rw [HTK.out]; exact H2.out, H8.out⟩
    · obtain rfl : i = nn := by omega
      have d3 : decide ((i : Int) < (i : Int)) = false := by simp
      have htl : xs.take i = xs := List.take_of_length_le (by have := HL.out; omega)
      have hfin := HNX.out
      rw [htl] at hfin
      have HF := Lib.hid hfin
      clear hfin htl
      go_wp2_with fail
      go_ret
      exact ⟨_, rfl, HF.out, HBW.out⟩
/-- copy of bytes to the beginning of a block of the call's own. -/
theorem run_copy_bytes (w : World) (t ty : TypeId) (hu : Try.prog.underlying t = some (.slice 5)) (g : Nat) (A : Option Addr) (c : Nat) (xs zs : List Int) (hR : BA w A c xs) (hl : xs.length ≤ zs.length)
    (hg : w.heap[g]? = some (.cells (nums .u8 zs).toArray 5 (0, 0))) :
    ∃ w', (Builtin.copy_ #[t, t] ty #[.slice (some ⟨g, 0, none⟩) zs.length zs.length, .slice A xs.length c]).run Try.prog w = .ok (.int .i64 (xs.length : Int)) w' ∧ w'.heap[g]? = some (.cells (nums .u8 (xs ++ zs.drop xs.length)).toArray 5 (0, 0)) ∧
      ∀ (w0 : World) (B : Nat), Below B w0 w → B ≤ g → Below B w0 w' := by
  have hmin : Nat.min xs.length zs.length = xs.length := Nat.min_eq_left hl
  rcases Nat.eq_zero_or_pos xs.length with h0 | h0
  · have hx : xs = [] := List.eq_nil_of_length_eq_zero h0
    subst hx
    exact ⟨w, run_copy_none (P := Try.prog) w t t ty 5 _ A _ _ 0 c hu sizeU8 hmin, by simpa using hg, fun _ _ h _ => h⟩
  · obtain ⟨b, off, rfl, _, hsrc⟩ := hR.2 h0
    have hr := run_copy_row (P := Try.prog) w t t ty 5 g 0 zs.length zs.length ⟨b, off, none⟩ xs.length c (nums .u8 zs).toArray 5 (nums .u8 xs) hu sizeU8 hg (by rw [nums_len, hmin]) hsrc (by rw [nums_len]; simp [nums]; exact hl) (nums_one xs)
    rw [nums_len] at hr
    refine ⟨_, hr, ?_, fun w0 B hb hB => below_setRow hb hB _⟩
    rw [setRow_heap w g _ _ _ _ hg, nums_append, ← nums_drop]
    simp [nums_len]
/-- The row of Wide, k sevens in. -/
def sevens (xs : List Int) (k : Nat) : List Int := xs ++ (List.replicate k 7 ++ List.replicate (3 - k) 0)
theorem sevens_set (xs : List Int) (k : Nat) (h : k < 3) : (sevens xs k).set (xs.length + k) 7 = sevens xs (k + 1) := by
  unfold sevens
  match k, h with
  | 0, _ => simp
  | 1, _ => simp
  | 2, _ => simp
theorem sevens_len (xs : List Int) (k : Nat) (h : k ≤ 3) : (sevens xs k).length = xs.length + 3 := by
  unfold sevens
  simp
  omega
theorem nums_set (xs : List Int) (j : Nat) (x : Int) : (nums .u8 xs).set j (.int .u8 x) = nums .u8 (xs.set j x) := by simp [nums, List.map_set]
/-- A cell of a block of bytes. -/
theorem cell_bytes {w : World} {g : Nat} {cs : List Int} (h : w.heap[g]? = some (.cells (nums .u8 cs).toArray 5 (0, 0))) (j : Nat) (hj : j < cs.length) : w.cell? ⟨g, j, none⟩ = some (.int .u8 (cs.getD j 0)) := by
  rw [Lib.cell_of_heap h]
  simp [nums, hj]
theorem set_bytes {w : World} {g : Nat} {cs : List Int} (h : w.heap[g]? = some (.cells (nums .u8 cs).toArray 5 (0, 0))) (j : Nat) (x : Int) : (w.setCell ⟨g, j, none⟩ (.int .u8 x)).heap[g]? = some (.cells (nums .u8 (cs.set j x)).toArray 5 (0, 0)) := by
  simp only [World.setCell, Array.getElem?_modify, if_true, h, Option.map_some]
  rw [← nums_set]
  simp

set_option maxHeartbeats 4000000 in
set_option maxRecDepth 1000000 in
theorem Wide_calls (A : Option Addr) (c : Nat) (xs : List Int) (w : World) (hR : BA w A c xs) (hs : xs.length ≤ 140737488355328) :
    Calls Try.prog 20 #[.slice A xs.length c] w fun e w' => e = .returned (.slice (some ⟨w.heap.size, 0, none⟩) xs.length (xs.length + 3)) ∧ w'.heap[w.heap.size]? = some (.cells (nums .u8 (xs ++ [7, 7, 7])).toArray 5 (0, 0)) ∧ Below w.heap.size w w' := by
  have hmk := print_make_int (P := Try.prog) 29 5 (.int .u8 0) 1 Try.underlying29 infoU8 rfl (by decide) ((xs.length : Int) + 3) (by omega) (by omega)
  rw [show ((xs.length : Int) + 3).toNat = xs.length + 3 by omega, made_bytes] at hmk
  have hR' : BA (w.alloc (.cells (nums .u8 (List.replicate (xs.length + 3) 0)).toArray 5)) A c xs := hR.keep ((Below.refl _ _).alloc (Nat.le_refl _) _)
  have hg := heap_alloc_new w (.cells (nums .u8 (List.replicate (xs.length + 3) 0)).toArray 5)
  obtain ⟨n, hn⟩ : ∃ n, xs.length = n := ⟨_, rfl⟩
  rw [hn] at hs hmk hR' hg ⊢
  have HR := Lib.hid hR'
  have HG := Lib.hid hg
  have HN := Lib.hid hn
  clear hR' hg hn hR
  obtain ⟨w1, hcp, hg1, hb1⟩ := run_copy_bytes _ 29 3 Try.underlying29 w.heap.size A c xs (List.replicate (n + 3) 0) HR.out (by rw [List.length_replicate]; have := HN.out; omega) HG.out
  rw [List.length_replicate, HN.out] at hcp
  have hB1 := hb1 w w.heap.size ((Below.refl _ _).alloc (Nat.le_refl _) _) (Nat.le_refl _)
  have hs0 : xs ++ (List.replicate (n + 3) 0).drop xs.length = sevens xs 0 := by
    unfold sevens
    rw [HN.out, List.drop_replicate, show n + 3 - n = 3 by omega]
    rfl
  rw [hs0] at hg1
  have HG1 := Lib.hid hg1
  have HB1 := Lib.hid hB1
  clear hg1 hb1 hB1 hs0
  go_enter Try.func20, Try.ntmps20
  go_wp2
  go_loopw [5] (fun i wr => ∃ k : Nat, k ≤ 3 ∧ i = .int .i64 ((n + k : Nat) : Int) ∧ wr.heap[w.heap.size]? = some (.cells (nums .u8 (sevens xs k)).toArray 5 (0, 0)) ∧ Below w.heap.size w wr) (fun i _ => n + 3 - (RowKit.intOf i).toNat)
  case atStart => exact ⟨0, by omega, rfl, HG1.out, HB1.out⟩
  case round =>
    clear HG1 HB1
    obtain ⟨k, hk, rfl, hg, hB⟩ := hrel
    by_cases h3 : k < 3
    · have c0 := cell_bytes hg (n + k) (by rw [sevens_len _ _ hk, HN.out]; omega)
      have f0 : wr.frozen? ⟨w.heap.size, n + k, none⟩ = false := Lib.frozen_of_heap hg _
      have hst := set_bytes hg (n + k) 7
      have hss := sevens_set xs k h3
      rw [HN.out] at hss
      rw [hss] at hst
      have HS := Lib.hid hst
      have HB := Lib.hid (hB.setCell (p := ⟨w.heap.size, n + k, none⟩) (Nat.le_refl _) (.int .u8 7))
      have d0 : decide (((n + k : Nat) : Int) < ((n + 3 : Nat) : Int)) = true := by simp; omega
      clear hst hss hg hB
      go_wp2
      go_roundw
      case rel => exact ⟨k + 1, by omega, by go_num, HS.out, HB.out⟩
      case measure => simp [RowKit.intOf]; omega
    · obtain rfl : k = 3 := by omega
      have e : sevens xs 3 = xs ++ [7, 7, 7] := rfl
      rw [e] at hg
      have HG := Lib.hid hg
      clear hg
      go_wp2
      go_ret
      exact ⟨rfl, HG.out, hB⟩

set_option maxHeartbeats 4000000 in
set_option maxRecDepth 1000000 in
theorem Spoil_calls (g n cap : Nat) (by_ : Int) (cs : List Int) (w : World) (hc : w.heap[g]? = some (.cells (nums .u8 cs).toArray 5 (0, 0))) (hcl : cs.length = cap) (hn : n ≤ cap) (hm : cap ≤ 9223372036854775807) :
    Calls Try.prog 21 #[.slice (some ⟨g, 0, none⟩) n cap, .int .u8 by_] w fun e w' => e = .returned (.tuple #[]) ∧ w.grownBy w' (some g) ∧ ∃ ds : List Int, w'.heap[g]? = some (.cells (nums .u8 ds).toArray 5 (0, 0)) ∧ ds.length = cap := by
  have HC := Lib.hid hc
  clear hc
  go_enter Try.func21, Try.ntmps21
  go_wp2
  go_loopw [4] (fun i wr => ∃ (k : Nat) (ds : List Int), k ≤ cap ∧ ds.length = cap ∧ i = .int .i64 (k : Int) ∧ wr.heap[g]? = some (.cells (nums .u8 ds).toArray 5 (0, 0)) ∧ w.grownBy wr (some g)) (fun i _ => cap - (RowKit.intOf i).toNat)
  case atStart => exact ⟨0, cs, by omega, hcl, rfl, HC.out, World.grownBy.refl _ _⟩
  case round =>
    clear HC hcl
    obtain ⟨k, ds, hk, hdl, rfl, hg, hb⟩ := hrel
    by_cases h : k < cap
    · have c0 := cell_bytes hg k (by omega)
      have f0 : wr.frozen? ⟨g, k, none⟩ = false := Lib.frozen_of_heap hg _
      have hst := fun x => set_bytes hg k x
      have hbs := fun x => hb.trans (set_grown wr g k x)
      have HS := Lib.hid hst
      have HB := Lib.hid hbs
      have d0 : decide ((k : Int) < (cap : Int)) = true := by simp; omega
      clear hst hbs hg hb
      generalize ds.getD k 0 = z at *
      go_wp2
      refine ⟨⟨k + 1, _, by omega, by rw [List.length_set]; exact hdl, by go_num, HS.out _, HB.out _⟩, ?_⟩
      simp only [RowKit.intOf, Int.toNat_natCast]
      omega
    · have d0 : decide ((k : Int) < (cap : Int)) = false := by simp; omega
      have HB := Lib.hid hb
      have HG := Lib.hid hg
      clear hg hb
      go_wp2
      go_end0
      exact ⟨rfl, HB.out, ds, HG.out, hdl⟩
theorem below_of_grown {w w' : World} {g B : Nat} (h : w.grownBy w' (some g)) (hB : B ≤ g) (hs : B ≤ w.heap.size) : Below B w w' := (Below.refl B w).grown h hs (fun k hk => by injection hk with hk; omega)
theorem Spoil_none (by_ : Int) (w : World) :
    Calls Try.prog 21 #[.slice none 0 0, .int .u8 by_] w fun e w' => e = .returned (.tuple #[]) ∧ w.grownBy w' none := by
  go_enter Try.func21, Try.ntmps21
  go_wp2
  go_loopw [4] (fun i wr => i = .int .i64 0 ∧ w.grownBy wr none) (fun _ _ => 0)
  case atStart => exact ⟨rfl, World.grownBy.refl _ _⟩
  case round =>
    obtain ⟨rfl, hb⟩ := hrel
    go_wp2
    go_end0
    exact ⟨rfl, hb⟩
/-- What a file's answer may be written over: nothing, or a block of bytes. -/
def Ow (w : World) (base : Nat) (A : Option Addr) (n c : Nat) : Prop :=
  (A = none ∧ n = 0 ∧ c = 0) ∨ ∃ g ds, A = some ⟨g, 0, none⟩ ∧ base ≤ g ∧ w.heap[g]? = some (.cells (nums .u8 ds).toArray 5 (0, 0)) ∧ ds.length = c ∧ n ≤ c ∧ c ≤ 9223372036854775807
theorem Ow.keep {w w' : World} {base : Nat} {A : Option Addr} {n c : Nat} (h : Ow w base A n c) (hb : Below w.heap.size w w') : Ow w' base A n c := by
  rcases h with h | ⟨g, ds, h1, h2, h3, h4⟩
  · exact .inl h
  · exact .inr ⟨g, ds, h1, h2, kept_below hb _ _ h3, h4⟩
theorem Spoil_ow {base n c : Nat} {A : Option Addr} (by_ : Int) {w : World} (h : Ow w base A n c) :
    Calls Try.prog 21 #[.slice A n c, .int .u8 by_] w fun e w' => e = .returned (.tuple #[]) ∧ w.grownBy w' (Value.slice A n c).ownBlock ∧ ∀ k, (Value.slice A n c).ownBlock = some k → base ≤ k := by
  rcases h with ⟨rfl, rfl, rfl⟩ | ⟨g, ds, rfl, hg, hh, hl, hn, hm⟩
  · refine (Spoil_none by_ w).mono ?_
    rintro e w' ⟨rfl, hg⟩
    exact ⟨rfl, hg, fun k hk => (by cases hk)⟩
  · refine (Spoil_calls g n c by_ ds w hh hl hn hm).mono ?_
    rintro e w' ⟨rfl, hgr, _⟩
    refine ⟨rfl, hgr, fun k hk => ?_⟩
    simp only [Value.ownBlock, Option.some.injEq] at hk
    omega
end Go.Proofs.Ytjochldpacgcgaa.U
