/- An argument that is a slice of acts: what its reading gives the walk. -/
import Derived.Test.YtbnkiefchbcfgaaCplayed
import Derived.Test.YtbnkiefchbcfgaaBulk
import Derived.Test.YtbnkiefchbcfgaaBack
import Derived.WalkKit
import Derived.ProofKit
import Derived.OpenShut
import Derived.ChangeOld
import Derived.Below
import Derived.Carry
import Derived.Lib.SmallJoins
set_option linter.unusedVariables false
set_option linter.unusedSimpArgs false
namespace Go.Proofs.Ytbnkiefchbcfgaa.U
open Go.ChangeShapes Go.WideShapes Go.ChangeAt Go.RowKit Go.Lib Go.Proofs.YtbnkiefchbcfgaaW.PrintWords

theorem arg_le {H : Type} {l : List (DataW H)} (hk : Rows.uptoSmall H l = true) {d : DataW H} (h : d ∈ l) : Rows.uptoBulk d ≤ 1048576 :=
  Nat.le_trans (bulks.part_le h) (bulks.bound hk)
theorem addr_plain {W : World} {g o : Nat} {sp : Option Nat} {v : Value} (h : W.cell? ⟨g, o, sp⟩ = some v) : sp = none ∧ g < W.heap.size := by
  unfold World.cell? at h
  cases hh : W.heap[g]? with
  | none => simp [hh] at h
  | some ob =>
    refine ⟨?_, (Array.getElem?_eq_some_iff.1 hh).1⟩
    cases sp with
    | none => rfl
    | some k => cases ob <;> simp [hh] at h
theorem five_cells {W : World} {base : Nat} {a : Addr} {cs : List Value} (h : W.cells? base a 5 = some cs) : ∃ c0 c1 c2 c3 c4, cs = [c0, c1, c2, c3, c4] ∧ W.cell? (a.add 0) = some c0 ∧ W.cell? (a.add 1) = some c1 ∧ W.cell? (a.add 2) = some c2 ∧ W.cell? (a.add 3) = some c3 ∧ W.cell? (a.add 4) = some c4 := by
  unfold World.cells? at h
  split at h
  · rw [show List.range 5 = [0, 1, 2, 3, 4] from rfl] at h
    simp only [List.mapM_cons, List.mapM_nil, Option.bind_eq_bind, Option.bind_eq_some_iff, Option.pure_def, Option.some.injEq] at h
    obtain ⟨c0, h0, l0, ⟨c1, h1, l1, ⟨c2, h2, l2, ⟨c3, h3, l3, ⟨c4, h4, l4, rfl, rfl⟩, rfl⟩, rfl⟩, rfl⟩, rfl⟩ := h
    exact ⟨c0, c1, c2, c3, c4, rfl, h0, h1, h2, h3, h4⟩
  · cases h
theorem two_cells {W : World} {base : Nat} {a : Addr} {cs : List Value} (h : W.cells? base a 2 = some cs) : ∃ c0 c1, cs = [c0, c1] ∧ W.cell? (a.add 0) = some c0 ∧ W.cell? (a.add 1) = some c1 := by
  unfold World.cells? at h
  split at h
  · rw [show List.range 2 = [0, 1] from rfl] at h
    simp only [List.mapM_cons, List.mapM_nil, Option.bind_eq_bind, Option.bind_eq_some_iff, Option.pure_def, Option.some.injEq] at h
    obtain ⟨c0, h0, l0, ⟨c1, h1, l1, rfl, rfl⟩, rfl⟩ := h
    exact ⟨c0, c1, rfl, h0, h1⟩
  · cases h
theorem trod_struct5 {P : Program} {H : Type} {enc : TypeId × Value → H} {w : World} {base : Nat} {spare : Nat → Bool} {held : Bool} {t : TypeId} {f0 f1 f2 f3 f4 : Field} {fuel : Nat} {cs : List Value} {x : DataW H × List MemPlace} (ht : P.underlying t = some (.struct #[f0, f1, f2, f3, f4])) (h : DataW.trod enc P w base spare held fuel t cs = some x) :
    ∃ y0 y1 y2 y3 y4 n, x = (.agg [y0.1, y1.1, y2.1, y3.1, y4.1], y0.2 ++ (y1.2 ++ (y2.2 ++ (y3.2 ++ y4.2)))) ∧ cs.length = P.cellsOf t ∧ DataW.trod enc P w base spare held n f0.type ((cs.drop f0.offset).take (P.cellsOf f0.type)) = some y0 ∧
      DataW.trod enc P w base spare held n f1.type ((cs.drop f1.offset).take (P.cellsOf f1.type)) = some y1 ∧ DataW.trod enc P w base spare held n f2.type ((cs.drop f2.offset).take (P.cellsOf f2.type)) = some y2 ∧
      DataW.trod enc P w base spare held n f3.type ((cs.drop f3.offset).take (P.cellsOf f3.type)) = some y3 ∧ DataW.trod enc P w base spare held n f4.type ((cs.drop f4.offset).take (P.cellsOf f4.type)) = some y4 := by
  obtain ⟨xs, n, _, rfl, hl, hlen, hf⟩ := DataW.trod_struct ht h
  match xs, hlen with
  | [y0, y1, y2, y3, y4], _ => exact ⟨y0, y1, y2, y3, y4, n, by simp, hl, by simpa using hf 0 f0 rfl, by simpa using hf 1 f1 rfl, by simpa using hf 2 f2 rfl, by simpa using hf 3 f3 rfl, by simpa using hf 4 f4 rfl⟩
theorem u8_nat {n : Int} (h : (Lit.int .u8 n).wf = true) : ∃ m : Nat, n = (m : Int) ∧ m ≤ 255 := by
  simp only [Lit.wf, Bool.and_eq_true, decide_eq_true_eq, show IntKind.u8.min = 0 from by decide, show IntKind.u8.max = 255 from by decide] at h
  exact ⟨n.toNat, by omega, by omega⟩
/-- What a row of bytes inside reads as. -/
theorem open_inner {H : Type} {enc : TypeId × Value → H} {W : World} {n : Nat} {v : Value} {y : DataW H × List MemPlace} (h : DataW.trod enc Try.prog W 0 (fun _ => true) true n 22 [v] = some y) :
    ∃ A c bs, v = .slice A bs.length c ∧ BA W A c bs ∧ bs.length + 1 ≤ Rows.uptoBulk y.1 := by
  rcases open_ints Try.underlying22 Try.underlying5 (by kernel_rfl) h with ⟨hcs, hx⟩ | ⟨x, l, c, zs, hcs, _, hl, hm, hz, hx, hcell, hwz⟩
  · injection hcs with hcs
    subst hcs hx
    exact ⟨none, 0, [], rfl, ⟨Nat.le_refl _, fun h => (by cases h)⟩, by simp [Rows.uptoBulk]⟩
  · injection hcs with hcs
    subst hcs hx
    have hz : zs.length = c := by simpa using hz
    have hlen : (zs.take l).length = l := by rw [List.length_take]; omega
    refine ⟨some x, c, zs.take l, by rw [hlen], ⟨by rw [hlen]; exact hl, fun h0 => ?_⟩, ?_⟩
    · rw [hlen] at h0
      obtain ⟨g, o, sp⟩ := x
      have c0 := hcell 0 (by omega)
      obtain ⟨hsp, hg⟩ := addr_plain (sp := sp) (g := g) (o := o) (by exact c0)
      subst hsp
      refine ⟨g, o, rfl, hg, fun j u hj => ?_⟩
      unfold nums at hj
      rw [List.getElem?_map, List.getElem?_take] at hj
      obtain ⟨z, hz1, rfl⟩ := Option.map_eq_some_iff.1 hj
      split at hz1
      · have hjl := (List.getElem?_eq_some_iff.1 hz1).1
        rw [hcell j hjl, List.getD_eq_getElem?_getD, hz1]
        rfl
      · cases hz1
    · have := bulks.slice_le (H := H) (lits .u8 (zs.take l)) (lits .u8 (zs.drop l))
      have e : (lits (H := H) .u8 (zs.take l)).length = (zs.take l).length := by simp [lits]
      show (zs.take l).length + 1 ≤ Rows.uptoBulk (DataW.slice _ _)
      omega
theorem open_acts {H : Type} {enc : TypeId × Value → H} {W : World} {v : Value} {d : DataW H} {ps : List MemPlace}
    (hval : Value.okWide Try.prog W .any 0 42 v) (h : DataW.Trod enc Try.prog W 0 (fun _ => true) true 42 v d ps) :
    ∃ (A : Option Addr) (c : Nat) (al : List ActV), v = .slice A al.length c ∧ AR W A al ∧ (∀ B, Rows.uptoBulk d ≤ B → al.length ≤ B ∧ ∀ a ∈ al, a.bs.length ≤ B) := by
  obtain ⟨A, n, c, rfl⟩ := okWide_slice Try.underlying42 hval
  obtain ⟨fuel, hf⟩ := h
  rcases DataW.trod_slice Try.underlying42 hf with ⟨hcs, hx⟩ | ⟨x, len, cap, elems, rest, m, _, hcs, hx, hb, hl, hm, hlen, hel, hsp, hns⟩
  · simp [Value.cells] at hcs
    obtain ⟨rfl, rfl, rfl⟩ := hcs
    exact ⟨none, 0, [], rfl, fun h => (by cases h), fun B _ => ⟨Nat.zero_le _, fun a ha => (by cases ha)⟩⟩
  · simp [Value.cells] at hcs
    obtain ⟨rfl, rfl, rfl⟩ := hcs
    injection hx with hd _
    subst hd
    have hc5 : Try.prog.cellsOf 69 = 5 := by kernel_rfl
    rw [hc5] at hel
    have each : ∀ i : Nat, ∃ a : ActV, i < n → ∃ y, elems[i]? = some y ∧ W.cell? ((x.add (i * 5)).add 0) = some (.int .i64 a.d) ∧ W.cell? ((x.add (i * 5)).add 1) = some (.int .i64 a.p) ∧ W.cell? ((x.add (i * 5)).add 2) = some (.int .i64 a.n) ∧ W.cell? ((x.add (i * 5)).add 3) = some (.slice a.A a.bs.length a.ca) ∧ W.cell? ((x.add (i * 5)).add 4) = some (.int .u8 (a.l : Int)) ∧ BA W a.A a.ca a.bs ∧ a.bs.length ≤ Rows.uptoBulk y.1 := by
      intro i
      by_cases hi : i < n
      · obtain ⟨y, hy⟩ : ∃ y, elems[i]? = some y := ⟨_, List.getElem?_eq_getElem (by omega)⟩
        have he := (hel i hi).trans hy
        rw [Option.bind_eq_some_iff] at he
        obtain ⟨cs, hcs, ht⟩ := he
        obtain ⟨c0, c1, c2, c3, c4, rfl, g0, g1, g2, g3, g4⟩ := five_cells hcs
        obtain ⟨y0, y1, y2, y3, y4, k, hxy, _, t0, t1, t2, t3, t4⟩ := trod_struct5 Try.underlying69 ht
        have o1 : Try.prog.cellsOf 3 = 1 := by kernel_rfl
        have o2 : Try.prog.cellsOf 22 = 1 := by kernel_rfl
        have o3 : Try.prog.cellsOf 5 = 1 := by kernel_rfl
        simp only [o1, o2, o3, List.drop_zero, List.drop_succ_cons, List.take_succ_cons, List.take_zero] at t0 t1 t2 t3 t4
        obtain ⟨z0, hz0, _, w0⟩ := DataW.trod_int Try.underlying3 t0
        obtain ⟨z1, hz1, _, w1⟩ := DataW.trod_int Try.underlying3 t1
        obtain ⟨z2, hz2, _, w2⟩ := DataW.trod_int Try.underlying3 t2
        obtain ⟨z4, hz4, _, w4⟩ := DataW.trod_int Try.underlying5 t4
        injection hz0 with hz0
        injection hz1 with hz1
        injection hz2 with hz2
        injection hz4 with hz4
        subst hz0 hz1 hz2 hz4
        obtain ⟨l4, rfl, _⟩ := u8_nat w4
        obtain ⟨A3, k3, bs, rfl, hBA, hbulk⟩ := open_inner t3
        refine ⟨⟨z0, z1, z2, A3, bs, k3, l4⟩, fun _ => ⟨y, hy, g0, g1, g2, g3, g4, hBA, ?_⟩⟩
        rw [hxy]
        simp only [Rows.uptoBulk, Rows.uptoBulkAll]
        show bs.length ≤ _
        omega
      · exact ⟨⟨0, 0, 0, none, [], 0, 0⟩, fun h => absurd h hi⟩
    obtain ⟨f, hf⟩ : ∃ f : Nat → ActV, ∀ i, i < n → ∃ y, elems[i]? = some y ∧ W.cell? ((x.add (i * 5)).add 0) = some (.int .i64 (f i).d) ∧ W.cell? ((x.add (i * 5)).add 1) = some (.int .i64 (f i).p) ∧ W.cell? ((x.add (i * 5)).add 2) = some (.int .i64 (f i).n) ∧ W.cell? ((x.add (i * 5)).add 3) = some (.slice (f i).A (f i).bs.length (f i).ca) ∧ W.cell? ((x.add (i * 5)).add 4) = some (.int .u8 ((f i).l : Int)) ∧ BA W (f i).A (f i).ca (f i).bs ∧ (f i).bs.length ≤ Rows.uptoBulk y.1 :=
      ⟨fun i => Classical.choose (each i), fun i hi => Classical.choose_spec (each i) hi⟩
    have hlen2 : ((List.range n).map f).length = n := by simp
    refine ⟨some x, c, (List.range n).map f, by rw [hlen2], fun h0 => ?_, fun B hB => ⟨?_, fun a ha => ?_⟩⟩
    · rw [hlen2] at h0
      obtain ⟨g, o, sp⟩ := x
      obtain ⟨y, _, q0, _⟩ := hf 0 h0
      rw [Nat.zero_mul] at q0
      obtain ⟨hsp, hg⟩ := addr_plain (sp := sp) (g := g) (o := o) (by exact q0)
      subst hsp
      refine ⟨g, o, rfl, hg, fun j a ha => ?_⟩
      rw [List.getElem?_map] at ha
      obtain ⟨j', hj', rfl⟩ := Option.map_eq_some_iff.1 ha
      have hjn : j < n := by have := (List.getElem?_eq_some_iff.1 hj').1; simpa using this
      rw [List.getElem?_range hjn] at hj'
      injection hj' with hj'
      subst hj'
      obtain ⟨y, _, q0, q1, q2, q3, q4, q5, _⟩ := hf j hjn
      rw [Addr.add_lit, Addr.add_lit] at q0 q1 q2 q3 q4
      exact ⟨q0, q1, q2, q3, q4, q5⟩
    · rw [hlen2]
      have h1 := bulks.slice_le (H := H) (elems.map (·.1)) (rest.map (·.1))
      rw [List.length_map, hlen] at h1
      omega
    · obtain ⟨j, hj, rfl⟩ := List.mem_map.1 ha
      have hjn := List.mem_range.1 hj
      obtain ⟨y, hy, _, _, _, _, _, _, hb⟩ := hf j hjn
      have h1 : y.1 ∈ elems.map (·.1) := List.mem_map_of_mem (List.mem_of_getElem? hy)
      have h2 := bulks.part_le h1
      have h3 := bulks.slice_elems (H := H) (elems.map (·.1)) (rest.map (·.1))
      show (f j).bs.length ≤ B
      have hb' : (f j).bs.length ≤ Rows.uptoBulk y.1 := hb
      omega
/-- A row of pieces that is handed in. -/
structure ExtV where
  p : Int
  A : Option Addr
  bs : List Int
  ca : Nat
def ER (w : World) (A : Option Addr) (l : List ExtV) : Prop :=
  0 < l.length → ∃ g o, A = some ⟨g, o, none⟩ ∧ g < w.heap.size ∧ ∀ j a, l[j]? = some a →
    w.cell? ⟨g, o + j * 2, none⟩ = some (.int .i64 a.p) ∧ w.cell? ⟨g, o + j * 2 + 1, none⟩ = some (.slice a.A a.bs.length a.ca) ∧ BA w a.A a.ca a.bs
theorem open_exts {H : Type} {enc : TypeId × Value → H} {W : World} {v : Value} {d : DataW H} {ps : List MemPlace}
    (hval : Value.okWide Try.prog W .any 0 23 v) (h : DataW.Trod enc Try.prog W 0 (fun _ => true) true 23 v d ps) :
    ∃ (A : Option Addr) (c : Nat) (al : List ExtV), v = .slice A al.length c ∧ ER W A al ∧ (∀ B, Rows.uptoBulk d ≤ B → al.length ≤ B ∧ ∀ a ∈ al, a.bs.length ≤ B) := by
  obtain ⟨A, n, c, rfl⟩ := okWide_slice Try.underlying23 hval
  obtain ⟨fuel, hf⟩ := h
  rcases DataW.trod_slice Try.underlying23 hf with ⟨hcs, hx⟩ | ⟨x, len, cap, elems, rest, m, _, hcs, hx, hb, hl, hm, hlen, hel, hsp, hns⟩
  · simp [Value.cells] at hcs
    obtain ⟨rfl, rfl, rfl⟩ := hcs
    exact ⟨none, 0, [], rfl, fun h => (by cases h), fun B _ => ⟨Nat.zero_le _, fun a ha => (by cases ha)⟩⟩
  · simp [Value.cells] at hcs
    obtain ⟨rfl, rfl, rfl⟩ := hcs
    injection hx with hd _
    subst hd
    have hc2 : Try.prog.cellsOf 32 = 2 := by kernel_rfl
    rw [hc2] at hel
    have each : ∀ i : Nat, ∃ a : ExtV, i < n → ∃ y, elems[i]? = some y ∧ W.cell? ((x.add (i * 2)).add 0) = some (.int .i64 a.p) ∧ W.cell? ((x.add (i * 2)).add 1) = some (.slice a.A a.bs.length a.ca) ∧ BA W a.A a.ca a.bs ∧ a.bs.length ≤ Rows.uptoBulk y.1 := by
      intro i
      by_cases hi : i < n
      · obtain ⟨y, hy⟩ : ∃ y, elems[i]? = some y := ⟨_, List.getElem?_eq_getElem (by omega)⟩
        have he := (hel i hi).trans hy
        rw [Option.bind_eq_some_iff] at he
        obtain ⟨cs, hcs, ht⟩ := he
        obtain ⟨c0, c1, rfl, g0, g1⟩ := two_cells hcs
        obtain ⟨y0, y1, k, hxy, _, t0, t1⟩ := Go.ChangeShapes.trod_struct2 Try.underlying32 ht
        have o1 : Try.prog.cellsOf 3 = 1 := by kernel_rfl
        have o2 : Try.prog.cellsOf 22 = 1 := by kernel_rfl
        simp only [o1, o2, List.drop_zero, List.drop_succ_cons, List.take_succ_cons, List.take_zero] at t0 t1
        obtain ⟨z0, hz0, _, w0⟩ := DataW.trod_int Try.underlying3 t0
        injection hz0 with hz0
        subst hz0
        obtain ⟨A3, k3, bs, rfl, hBA, hbulk⟩ := open_inner t1
        refine ⟨⟨z0, A3, bs, k3⟩, fun _ => ⟨y, hy, g0, g1, hBA, ?_⟩⟩
        rw [hxy]
        simp only [Rows.uptoBulk, Rows.uptoBulkAll]
        show bs.length ≤ _
        omega
      · exact ⟨⟨0, none, [], 0⟩, fun h => absurd h hi⟩
    obtain ⟨f, hf⟩ : ∃ f : Nat → ExtV, ∀ i, i < n → ∃ y, elems[i]? = some y ∧ W.cell? ((x.add (i * 2)).add 0) = some (.int .i64 (f i).p) ∧ W.cell? ((x.add (i * 2)).add 1) = some (.slice (f i).A (f i).bs.length (f i).ca) ∧ BA W (f i).A (f i).ca (f i).bs ∧ (f i).bs.length ≤ Rows.uptoBulk y.1 :=
      ⟨fun i => Classical.choose (each i), fun i hi => Classical.choose_spec (each i) hi⟩
    have hlen2 : ((List.range n).map f).length = n := by simp
    refine ⟨some x, c, (List.range n).map f, by rw [hlen2], fun h0 => ?_, fun B hB => ⟨?_, fun a ha => ?_⟩⟩
    · rw [hlen2] at h0
      obtain ⟨g, o, sp⟩ := x
      obtain ⟨y, _, q0, _⟩ := hf 0 h0
      rw [Nat.zero_mul] at q0
      obtain ⟨hsp, hg⟩ := addr_plain (sp := sp) (g := g) (o := o) (by exact q0)
      subst hsp
      refine ⟨g, o, rfl, hg, fun j a ha => ?_⟩
      rw [List.getElem?_map] at ha
      obtain ⟨j', hj', rfl⟩ := Option.map_eq_some_iff.1 ha
      have hjn : j < n := by have := (List.getElem?_eq_some_iff.1 hj').1; simpa using this
      rw [List.getElem?_range hjn] at hj'
      injection hj' with hj'
      subst hj'
      obtain ⟨y, _, q0, q1, q2, _⟩ := hf j hjn
      rw [Addr.add_lit, Addr.add_lit] at q0 q1
      exact ⟨q0, q1, q2⟩
    · rw [hlen2]
      have h1 := bulks.slice_le (H := H) (elems.map (·.1)) (rest.map (·.1))
      rw [List.length_map, hlen] at h1
      omega
    · obtain ⟨j, hj, rfl⟩ := List.mem_map.1 ha
      have hjn := List.mem_range.1 hj
      obtain ⟨y, hy, _, _, _, hb⟩ := hf j hjn
      have h1 : y.1 ∈ elems.map (·.1) := List.mem_map_of_mem (List.mem_of_getElem? hy)
      have h2 := bulks.part_le h1
      have h3 := bulks.slice_elems (H := H) (elems.map (·.1)) (rest.map (·.1))
      show (f j).bs.length ≤ B
      have hb' : (f j).bs.length ≤ Rows.uptoBulk y.1 := hb
      omega
theorem open_ba {H : Type} {enc : TypeId × Value → H} {W : World} {v : Value} {d : DataW H} {ps : List MemPlace}
    (hval : Value.okWide Try.prog W .any 0 22 v) (h : DataW.Trod enc Try.prog W 0 (fun _ => true) true 22 v d ps) :
    ∃ (A : Option Addr) (c : Nat) (xs : List Int), v = .slice A xs.length c ∧ BA W A c xs ∧ xs.length + 1 ≤ Rows.uptoBulk d := by
  obtain ⟨A, n, c, rfl⟩ := okWide_slice Try.underlying22 hval
  obtain ⟨fuel, hf⟩ := h
  obtain ⟨A', c', bs, e, hb, hk⟩ := open_inner hf
  exact ⟨A', c', bs, e, hb, hk⟩
theorem int_le {n : Int} (h : (Lit.int .i64 n).wf = true) : n ≤ 9223372036854775807 := by
  simp only [Lit.wf, Bool.and_eq_true, decide_eq_true_eq, show IntKind.i64.min = -9223372036854775808 from by decide, show IntKind.i64.max = 9223372036854775807 from by decide] at h
  exact h.2
end Go.Proofs.Ytbnkiefchbcfgaa.U
