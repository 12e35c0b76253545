/- A list of bytes that grows by append: all cells of its block, those behind its length too, are bytes. -/
import Derived.Test.YtanncmaojnmldaaDoorUput
set_option linter.unusedVariables false
namespace Go.Proofs.YtanncmaojnmldaaDoor.U
open Go.RowKit Go.Proofs Go.Lib Go.Proofs.YtanncmaojnmldaaDoorW.PrintWords

def AllU8 (w : World) (v : Value) : Prop := ∀ g, v.ownBlock = some g → ∃ cs : List Int, w.heap[g]? = some (.cells (nums .u8 cs).toArray 5 (0, 0))
theorem AllU8.nil (w : World) (n c : Nat) : AllU8 w (.slice none n c) := fun g h => by simp [Value.ownBlock] at h
theorem AllU8.move {w w' : World} {v : Value} (h : AllU8 w v) (hk : ∀ k, v.ownBlock = some k → w'.heap[k]? = w.heap[k]?) : AllU8 w' v := by
  intro g hg
  obtain ⟨cs, hc⟩ := h g hg
  exact ⟨cs, (hk g hg).trans hc⟩
theorem AllU8.below {w w' : World} {v : Value} (h : AllU8 w v) (hb : Below w.heap.size w w') : AllU8 w' v :=
  h.move fun k hk => by
    obtain ⟨cs, hc⟩ := h k hk
    exact hb.block k (Array.getElem?_eq_some_iff.1 hc).1
theorem zero_bytes (n : Nat) : Builtin.zeroCells (Value.int .u8 0).cells n = (nums .u8 (List.replicate n 0)).toArray := by
  apply Array.ext
  · simp [Builtin.zeroCells, nums, Value.cells]
  · intro i h1 h2
    simp [Builtin.zeroCells, nums, Value.cells, Nat.mod_one]
theorem nums_take (xs : List Int) (n : Nat) : (nums .u8 xs).take n = nums .u8 (xs.take n) := by simp [nums]
theorem nums_drop (xs : List Int) (n : Nat) : (nums .u8 xs).drop n = nums .u8 (xs.drop n) := by simp [nums]

section
variable {P : Program}
/-- append on such a list: it stays one. -/
theorem run_append_bytes (w : World) (base : Nat) (t ty : TypeId) (i : TypeInfo) (ht : P.underlying t = some (.slice 5)) (hi : P.info? 5 = some i) (hz : i.zero = some (.int .u8 0)) (hsize : i.size = 1) (hby : i.bytes = 1)
    (v : Value) (xs : List Int) (hown : w.ownsRow base 5 1 v xs.length (nums .u8 xs)) (hU : AllU8 w v)
    (a : Addr) (m c : Nat) (ys : List Int) (hl : ys.length = m) (hnews : ∀ j u, (nums .u8 ys)[j]? = some u → w.cell? (a.add j) = some u)
    (hbytes : xs.length + m ≤ 140737488355328) (hbase : base ≤ w.heap.size) :
    ∃ v' w', (Builtin.append_ #[t, t] ty #[v, .slice (some a) m c]).run P w = .ok v' w' ∧ w'.ownsRow base 5 1 v' (xs.length + m) (nums .u8 xs ++ nums .u8 ys) ∧ w.grownBy w' v.ownBlock ∧ AllU8 w' v' := by
  have h1 : ∀ u ∈ nums .u8 ys, u.oneCell' = true := by
    intro u hu
    obtain ⟨z, _, rfl⟩ := List.mem_map.1 hu
    rfl
  have hml : xs.length + m ≤ maxLen := by unfold maxLen; omega
  obtain ⟨v', w', hr, e1, e2, e3⟩ := run_append_own (P := P) w base t ty 5 i (.int .u8 0) 1 1 ht hi hz hsize hby rfl (by decide) v xs.length (nums .u8 xs) hown a m c (nums .u8 ys) (by rw [nums_length]; omega) hnews h1 hml (by omega) hbase
  refine ⟨v', w', hr, e1, e2, ?_⟩
  have hsm : ((xs.length + m : Nat) : Int) ≤ 9223372036854775807 := by omega
  rcases hown.2 with ⟨rfl, hn0⟩ | ⟨g, cap, cur, rfl, hbg, hg, hnc, hcm, hcs, htake⟩
  · by_cases hm : m = 0
    · have := e3.2 ⟨rfl, hm⟩
      subst this
      exact AllU8.nil _ _ _
    · have hx : xs = [] := List.eq_nil_of_length_eq_zero hn0
      subst hx
      have hr' := run_append_nil (P := P) w t ty 5 i (.int .u8 0) ht hi hz a m c (nums .u8 ys) (by rw [nums_length, hsize]; omega) hnews (by omega) (by omega) (by rw [hby]; simp at hbytes; omega)
      rw [hr] at hr'
      injection hr' with hv hw
      subst hv hw
      intro g hg
      simp [Value.ownBlock] at hg
      subst hg
      refine ⟨ys ++ List.replicate (grownCap w m 0 5 - m) 0, ?_⟩
      have := heap_alloc_new w.drew (.cells ((nums .u8 ys).toArray ++ Builtin.zeroCells (Value.int .u8 0).cells (grownCap w m 0 5 - m)) 5)
      rw [zero_bytes] at this ⊢
      rw [nums_append]
      simpa using this
  · obtain ⟨cs, hcell⟩ := hU g rfl
    rw [hg] at hcell
    injection hcell with hcell
    injection hcell with hcur _ _
    subst hcur
    by_cases hroom : xs.length + m ≤ cap
    · have hr' := run_append_room (P := P) w t ty 5 i ht hi g xs.length cap _ hg a m c (nums .u8 ys) (by rw [nums_length, hsize]; omega) hnews h1 hroom (by rw [nums_length, hsize, hcs]; omega)
      rw [hr] at hr'
      injection hr' with hv hw
      subst hv hw
      intro g' hg'
      simp [Value.ownBlock] at hg'
      subst hg'
      refine ⟨cs.take (xs.length * i.size) ++ ys ++ cs.drop (xs.length * i.size + (nums .u8 ys).length), ?_⟩
      rw [setRow_heap w g _ _ _ _ hg]
      simp only [List.toList_toArray, nums_append, nums_take, nums_drop]
    · have holds : ∀ j u, (nums .u8 xs)[j]? = some u → w.cell? ((⟨g, 0, none⟩ : Addr).add j) = some u := hown.cells (g := g) rfl
      have hr' := run_append_grow (P := P) w t ty 5 i (.int .u8 0) ht hi hz ⟨g, 0, none⟩ xs.length cap (nums .u8 xs) (by rw [nums_length, hsize]; omega) holds a m c (nums .u8 ys) (by rw [nums_length, hsize]; omega) hnews (by omega) (by omega) (by rw [hby]; exact growslice_fits (by omega) (by omega))
      rw [hr] at hr'
      injection hr' with hv hw
      subst hv hw
      intro g' hg'
      simp [Value.ownBlock] at hg'
      subst hg'
      refine ⟨xs ++ ys ++ List.replicate (grownCap w (xs.length + m) cap 5 - (xs.length + m)) 0, ?_⟩
      have := heap_alloc_new w.drew (.cells ((nums .u8 xs).toArray ++ (nums .u8 ys).toArray ++ Builtin.zeroCells (Value.int .u8 0).cells (grownCap w (xs.length + m) cap 5 - (xs.length + m))) 5)
      rw [zero_bytes] at this ⊢
      rw [nums_append, nums_append]
      simpa using this
theorem wpList_append_bytes {w : World} {ops : Array Oper} {rest : List Oper} {o : Oper} {act : Act} {Q : Exit → Act → World → Prop} (hgd : o.guard = none) (s x : Operand) (t : TypeId)
    (ho : o.op = .call { callee := .builtin .append, args := #[s, x], argTypes := #[t, t] }) (base : Nat) (i : TypeInfo) (ht : P.underlying t = some (.slice 5)) (hi : P.info? 5 = some i) (hz : i.zero = some (.int .u8 0)) (hsize : i.size = 1) (hby : i.bytes = 1)
    (v : Value) (xs : List Int) (hs : act.eval s = v) (hown : w.ownsRow base 5 1 v xs.length (nums .u8 xs)) (hU : AllU8 w v)
    (a : Addr) (m c : Nat) (ys : List Int) (hx : act.eval x = .slice (some a) m c) (hl : ys.length = m) (hnews : ∀ j u, (nums .u8 ys)[j]? = some u → w.cell? (a.add j) = some u)
    (hbytes : xs.length + m ≤ 140737488355328) (hbase : base ≤ w.heap.size)
    (h : ∀ v' w', w'.ownsRow base 5 1 v' (xs.length + m) (nums .u8 xs ++ nums .u8 ys) → w.grownBy w' v.ownBlock → AllU8 w' v' → wpList P ops Q rest (act.put o.dst v') w') : wpList P ops Q (o :: rest) act w := by
  refine wpList_plain hgd fun K hK => ?_
  obtain ⟨v', w', hr, h2, h3, h4⟩ := run_append_bytes (P := P) w base t o.type i ht hi hz hsize hby v xs hown hU a m c ys hl hnews hbytes hbase
  unfold Oper.wp execOp
  simp only [ho, resolve, invoke, builtin, Sem.run_bind, Sem.run_pure, Result.andThen_ok, List.map_toArray, List.map_cons, List.map_nil, hs, hx, hr]
  exact hK _ _ (h v' w' h2 h3 h4)
end
end Go.Proofs.YtanncmaojnmldaaDoor.U
