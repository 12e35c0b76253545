/- An argument that is a slice of acts: what its reading gives the walk. -/
import Derived.Test.YtjochldpacgcgaaEplayed
import Derived.Test.YtjochldpacgcgaaBulk
import Derived.Test.YtjochldpacgcgaaBack
import Derived.WalkKit
import Derived.ProofKit
import Derived.OpenShut
import Derived.ChangeOld
import Derived.Below
import Derived.Carry
import Derived.Lib.SmallJoins
set_option linter.unusedVariables false
set_option linter.unusedSimpArgs false
namespace Go.Proofs.Ytjochldpacgcgaa.U
open Go.ChangeShapes Go.WideShapes Go.ChangeAt Go.RowKit Go.Lib Go.Proofs.YtjochldpacgcgaaW.PrintWords

theorem arg_le {H : Type} {l : List (DataW H)} (hk : Rows.uptoSmall H l = true) {d : DataW H} (h : d ∈ l) : Rows.uptoBulk d ≤ 1048576 :=
  Nat.le_trans (bulks.part_le h) (bulks.bound hk)
theorem addr_plain {W : World} {g o : Nat} {sp : Option Nat} {v : Value} (h : W.cell? ⟨g, o, sp⟩ = some v) : sp = none ∧ g < W.heap.size := by
  unfold World.cell? at h
  cases hh : W.heap[g]? with
  | none => simp [hh] at h
  | some ob =>
    refine ⟨?_, (Array.getElem?_eq_some_iff.1 hh).1⟩
    cases sp with
    | none => rfl
    | some k => cases ob <;> simp [hh] at h
theorem four_cells {W : World} {base : Nat} {a : Addr} {cs : List Value} (h : W.cells? base a 4 = some cs) : ∃ c0 c1 c2 c3, cs = [c0, c1, c2, c3] ∧ W.cell? (a.add 0) = some c0 ∧ W.cell? (a.add 1) = some c1 ∧ W.cell? (a.add 2) = some c2 ∧ W.cell? (a.add 3) = some c3 := by
  unfold World.cells? at h
  split at h
  · rw [show List.range 4 = [0, 1, 2, 3] from rfl] at h
    simp only [List.mapM_cons, List.mapM_nil, Option.bind_eq_bind, Option.bind_eq_some_iff, Option.pure_def, Option.some.injEq] at h
    obtain ⟨c0, h0, l0, ⟨c1, h1, l1, ⟨c2, h2, l2, ⟨c3, h3, l3, rfl, rfl⟩, rfl⟩, rfl⟩, rfl⟩ := h
    exact ⟨c0, c1, c2, c3, rfl, h0, h1, h2, h3⟩
  · cases h
/-- What a row of bytes inside reads as. -/
theorem open_inner {H : Type} {enc : TypeId × Value → H} {W : World} {n : Nat} {v : Value} {y : DataW H × List MemPlace} (h : DataW.trod enc Try.prog W 0 (fun _ => true) true n 29 [v] = some y) :
    ∃ A c bs, v = .slice A bs.length c ∧ BA W A c bs ∧ bs.length + 1 ≤ Rows.uptoBulk y.1 := by
  rcases open_ints Try.underlying29 Try.underlying5 (by kernel_rfl) h with ⟨hcs, hx⟩ | ⟨x, l, c, zs, hcs, _, hl, hm, hz, hx, hcell, hwz⟩
  · injection hcs with hcs
    subst hcs hx
    exact ⟨none, 0, [], rfl, ⟨Nat.le_refl _, fun h => (by cases h)⟩, by simp [Rows.uptoBulk]⟩
  · injection hcs with hcs
    subst hcs hx
    have hz : zs.length = c := by simpa using hz
    have hlen : (zs.take l).length = l := by rw [List.length_take]; omega
    refine ⟨some x, c, zs.take l, by rw [hlen], ⟨by rw [hlen]; exact hl, fun h0 => ?_⟩, ?_⟩
    · rw [hlen] at h0
      obtain ⟨g, o, sp⟩ := x
      have c0 := hcell 0 (by omega)
      obtain ⟨hsp, hg⟩ := addr_plain (sp := sp) (g := g) (o := o) (by exact c0)
      subst hsp
      refine ⟨g, o, rfl, hg, fun j u hj => ?_⟩
      unfold nums at hj
      rw [List.getElem?_map, List.getElem?_take] at hj
      obtain ⟨z, hz1, rfl⟩ := Option.map_eq_some_iff.1 hj
      split at hz1
      · have hjl := (List.getElem?_eq_some_iff.1 hz1).1
        rw [hcell j hjl, List.getD_eq_getElem?_getD, hz1]
        rfl
      · cases hz1
    · have := bulks.slice_le (H := H) (lits .u8 (zs.take l)) (lits .u8 (zs.drop l))
      have e : (lits (H := H) .u8 (zs.take l)).length = (zs.take l).length := by simp [lits]
      show (zs.take l).length + 1 ≤ Rows.uptoBulk (DataW.slice _ _)
      omega
theorem open_acts {H : Type} {enc : TypeId × Value → H} {W : World} {v : Value} {d : DataW H} {ps : List MemPlace}
    (hval : Value.okWide Try.prog W .any 0 22 v) (h : DataW.Trod enc Try.prog W 0 (fun _ => true) true 22 v d ps) :
    ∃ (A : Option Addr) (c : Nat) (al : List ActV), v = .slice A al.length c ∧ AR W A al ∧ (∀ B, Rows.uptoBulk d ≤ B → al.length ≤ B ∧ ∀ a ∈ al, a.bs.length ≤ B) := by
  obtain ⟨A, n, c, rfl⟩ := okWide_slice Try.underlying22 hval
  obtain ⟨fuel, hf⟩ := h
  rcases DataW.trod_slice Try.underlying22 hf with ⟨hcs, hx⟩ | ⟨x, len, cap, elems, rest, m, _, hcs, hx, hb, hl, hm, hlen, hel, hsp, hns⟩
  · simp [Value.cells] at hcs
    obtain ⟨rfl, rfl, rfl⟩ := hcs
    exact ⟨none, 0, [], rfl, fun h => (by cases h), fun B _ => ⟨Nat.zero_le _, fun a ha => (by cases ha)⟩⟩
  · simp [Value.cells] at hcs
    obtain ⟨rfl, rfl, rfl⟩ := hcs
    injection hx with hd _
    subst hd
    have hc4 : Try.prog.cellsOf 56 = 4 := by kernel_rfl
    rw [hc4] at hel
    have each : ∀ i : Nat, ∃ a : ActV, i < n → ∃ y, elems[i]? = some y ∧ W.cell? ((x.add (i * 4)).add 0) = some (.int .i64 a.d) ∧ W.cell? ((x.add (i * 4)).add 1) = some (.int .i64 a.p) ∧ W.cell? ((x.add (i * 4)).add 2) = some (.int .i64 a.n) ∧ W.cell? ((x.add (i * 4)).add 3) = some (.slice a.A a.bs.length a.ca) ∧ BA W a.A a.ca a.bs ∧ a.n ≤ 9223372036854775807 ∧ a.bs.length ≤ Rows.uptoBulk y.1 := by
      intro i
      by_cases hi : i < n
      · obtain ⟨y, hy⟩ : ∃ y, elems[i]? = some y := ⟨_, List.getElem?_eq_getElem (by omega)⟩
        have he := (hel i hi).trans hy
        rw [Option.bind_eq_some_iff] at he
        obtain ⟨cs, hcs, ht⟩ := he
        obtain ⟨c0, c1, c2, c3, rfl, g0, g1, g2, g3⟩ := four_cells hcs
        obtain ⟨y0, y1, y2, y3, k, hxy, _, t0, t1, t2, t3⟩ := Joins.trod_struct4 Try.underlying56 ht
        have o1 : Try.prog.cellsOf 3 = 1 := by kernel_rfl
        have o2 : Try.prog.cellsOf 29 = 1 := by kernel_rfl
        simp only [o1, o2, List.drop_zero, List.drop_succ_cons, List.take_succ_cons, List.take_zero] at t0 t1 t2 t3
        obtain ⟨z0, hz0, _, w0⟩ := DataW.trod_int Try.underlying3 t0
        obtain ⟨z1, hz1, _, w1⟩ := DataW.trod_int Try.underlying3 t1
        obtain ⟨z2, hz2, _, w2⟩ := DataW.trod_int Try.underlying3 t2
        injection hz0 with hz0
        injection hz1 with hz1
        injection hz2 with hz2
        subst hz0 hz1 hz2
        obtain ⟨A3, k3, bs, rfl, hBA, hbulk⟩ := open_inner t3
        refine ⟨⟨z0, z1, z2, A3, bs, k3⟩, fun _ => ⟨y, hy, g0, g1, g2, g3, hBA, ?_, ?_⟩⟩
        · simp only [Lit.wf, Bool.and_eq_true, decide_eq_true_eq, show IntKind.i64.min = -9223372036854775808 from by decide, show IntKind.i64.max = 9223372036854775807 from by decide] at w2
          exact w2.2
        · rw [hxy]
          simp only [Rows.uptoBulk, Rows.uptoBulkAll]
          show bs.length ≤ _
          omega
      · exact ⟨⟨0, 0, 0, none, [], 0⟩, fun h => absurd h hi⟩
    obtain ⟨f, hf⟩ : ∃ f : Nat → ActV, ∀ i, i < n → ∃ y, elems[i]? = some y ∧ W.cell? ((x.add (i * 4)).add 0) = some (.int .i64 (f i).d) ∧ W.cell? ((x.add (i * 4)).add 1) = some (.int .i64 (f i).p) ∧ W.cell? ((x.add (i * 4)).add 2) = some (.int .i64 (f i).n) ∧ W.cell? ((x.add (i * 4)).add 3) = some (.slice (f i).A (f i).bs.length (f i).ca) ∧ BA W (f i).A (f i).ca (f i).bs ∧ (f i).n ≤ 9223372036854775807 ∧ (f i).bs.length ≤ Rows.uptoBulk y.1 :=
      ⟨fun i => Classical.choose (each i), fun i hi => Classical.choose_spec (each i) hi⟩
    have hlen2 : ((List.range n).map f).length = n := by simp
    refine ⟨some x, c, (List.range n).map f, by rw [hlen2], fun h0 => ?_, fun B hB => ⟨?_, fun a ha => ?_⟩⟩
    · rw [hlen2] at h0
      obtain ⟨g, o, sp⟩ := x
      obtain ⟨y, _, q0, _⟩ := hf 0 h0
      rw [Nat.zero_mul] at q0
      obtain ⟨hsp, hg⟩ := addr_plain (sp := sp) (g := g) (o := o) (by exact q0)
      subst hsp
      refine ⟨g, o, rfl, hg, fun j a ha => ?_⟩
      rw [List.getElem?_map] at ha
      obtain ⟨j', hj', rfl⟩ := Option.map_eq_some_iff.1 ha
      have hjn : j < n := by have := (List.getElem?_eq_some_iff.1 hj').1; simpa using this
      rw [List.getElem?_range hjn] at hj'
      injection hj' with hj'
      subst hj'
      obtain ⟨y, _, q0, q1, q2, q3, q4, q5, _⟩ := hf j hjn
      rw [Addr.add_lit, Addr.add_lit] at q0 q1 q2 q3
      exact ⟨q0, q1, q2, q3, q4, q5⟩
    · rw [hlen2]
      have h1 := bulks.slice_le (H := H) (elems.map (·.1)) (rest.map (·.1))
      rw [List.length_map, hlen] at h1
      omega
    · obtain ⟨j, hj, rfl⟩ := List.mem_map.1 ha
      have hjn := List.mem_range.1 hj
      obtain ⟨y, hy, _, _, _, _, _, _, hb⟩ := hf j hjn
      have h1 : y.1 ∈ elems.map (·.1) := List.mem_map_of_mem (List.mem_of_getElem? hy)
      have h2 := bulks.part_le h1
      have h3 := bulks.slice_elems (H := H) (elems.map (·.1)) (rest.map (·.1))
      show (f j).bs.length ≤ B
      have hb' : (f j).bs.length ≤ Rows.uptoBulk y.1 := hb
      omega
theorem open_ba {H : Type} {enc : TypeId × Value → H} {W : World} {v : Value} {d : DataW H} {ps : List MemPlace}
    (hval : Value.okWide Try.prog W .any 0 29 v) (h : DataW.Trod enc Try.prog W 0 (fun _ => true) true 29 v d ps) :
    ∃ (A : Option Addr) (c : Nat) (xs : List Int), v = .slice A xs.length c ∧ BA W A c xs ∧ xs.length + 1 ≤ Rows.uptoBulk d := by
  obtain ⟨A, n, c, rfl⟩ := okWide_slice Try.underlying29 hval
  obtain ⟨fuel, hf⟩ := h
  obtain ⟨A', c', bs, e, hb, hk⟩ := open_inner hf
  exact ⟨A', c', bs, e, hb, hk⟩
theorem int_le {n : Int} (h : (Lit.int .i64 n).wf = true) : n ≤ 9223372036854775807 := by
  simp only [Lit.wf, Bool.and_eq_true, decide_eq_true_eq, show IntKind.i64.min = -9223372036854775808 from by decide, show IntKind.i64.max = 9223372036854775807 from by decide] at h
  exact h.2
end Go.Proofs.Ytjochldpacgcgaa.U
