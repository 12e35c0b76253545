/- What the form's own reach says of an argument that is a row of acts, of bytes: how long it is. -/
import Derived.Test.YtjochldpacgcgaaOpenA
import Derived.SizedLaws
set_option linter.unusedVariables false
set_option linter.unusedSimpArgs false
namespace Go.Proofs.Ytjochldpacgcgaa.U
open Go.ChangeShapes Go.WideShapes Go.ChangeAt Go.RowKit Go.Lib Go.Proofs.YtjochldpacgcgaaW.PrintWords

section
variable {H : Type} {P : Program}
/-- Each weight is at most B. -/
def WB (P : Program) (t : TypeId) (d : DataW H) (B : Nat) : Prop := ∀ n ∈ d.weights P t, n ≤ B
theorem WB.of_each {ts : List TypeId} {ds : List (DataW H)} (h : (DataW.weightsEach P ts ds).all (· ≤ reachBytes) = true) {j : Nat} {t : TypeId} {d : DataW H} (ht : ts[j]? = some t) (hd : ds[j]? = some d) : WB P t d 140737488351232 := fun n hn => by
  have := List.all_eq_true.1 h n (DataW.weights_mem_each ht hd n hn)
  exact of_decide_eq_true this
theorem weights_all {e : TypeId} {n : Nat} : ∀ {l : List (DataW H)} {d : DataW H}, d ∈ l → n ∈ d.weights P e → n ∈ DataW.weightsAll P e l
  | x :: r, d, hd, hn => by
    simp only [DataW.weightsAll, List.mem_append]
    rcases List.mem_cons.1 hd with rfl | hd
    · exact .inl hn
    · exact .inr (weights_all hd hn)
theorem WB.len {t e : TypeId} {elems spare : List (DataW H)} {B : Nat} (h : WB P t (.slice elems spare) B) (hu : P.underlying t = some (.slice e)) : (elems.length + spare.length) * P.bytesOf e ≤ B :=
  h _ (by simp [DataW.weights, hu])
theorem WB.elem {t e : TypeId} {elems spare : List (DataW H)} {B : Nat} (h : WB P t (.slice elems spare) B) (hu : P.underlying t = some (.slice e)) {d : DataW H} (hd : d ∈ elems) : WB P e d B := fun n hn =>
  h n (by simp only [DataW.weights, hu, List.mem_cons, List.mem_append]; exact .inr (.inl (weights_all hd hn)))
theorem WB.part {t : TypeId} {fs : Array Field} {parts : List (DataW H)} {B : Nat} (h : WB P t (.agg parts) B) (hu : P.underlying t = some (.struct fs)) {j : Nat} {f : Field} {d : DataW H} (hf : fs[j]? = some f) (hd : parts[j]? = some d) : WB P f.type d B := fun n hn =>
  h n (by
    simp only [DataW.weights, hu]
    exact DataW.weights_mem_each (j := j) (t := f.type) (by rw [List.getElem?_map, Array.getElem?_toList, hf]; rfl) hd n hn)
end
theorem b8 : 1 ≤ Try.prog.bytesOf 5 := of_decide_eq_true (by kernel_rfl)
theorem ba_ : 1 ≤ Try.prog.bytesOf 56 := of_decide_eq_true (by kernel_rfl)
/-- How long what reads is. -/
theorem len_raw {H : Type} {enc : TypeId × Value → H} {W : World} {base fuel : Nat} {spare : Nat → Bool} {held : Bool} {t e : TypeId} {A : Option Addr} {n c B : Nat} {y : DataW H × List MemPlace} (h : DataW.trod enc Try.prog W base spare held fuel t [.slice A n c] = some y) (hu : Try.prog.underlying t = some (.slice e)) (hb : 1 ≤ Try.prog.bytesOf e) (hw : WB Try.prog t y.1 B) : n ≤ B := by
  rcases DataW.trod_slice hu h with ⟨hcs, hx⟩ | ⟨x, len, cap, elems, rest, m, _, hcs, hx, _, hl, hm, hlen, _⟩
  · injection hcs with hcs
    injection hcs with _ h2 _
    omega
  · injection hcs with hcs
    injection hcs with _ h2 _
    subst hx
    have h3 := hw.len hu
    rw [List.length_map, List.length_map, hlen] at h3
    have h4 := Nat.le_mul_of_pos_right (len + rest.length) hb
    omega
theorem len_of {H : Type} {enc : TypeId × Value → H} {W : World} {base : Nat} {spare : Nat → Bool} {held : Bool} {t e : TypeId} {A : Option Addr} {n c B : Nat} {d : DataW H} {ps : List MemPlace} (h : DataW.Trod enc Try.prog W base spare held t (.slice A n c) d ps) (hu : Try.prog.underlying t = some (.slice e)) (hb : 1 ≤ Try.prog.bytesOf e) (hw : WB Try.prog t d B) : n ≤ B := by
  obtain ⟨fuel, hf⟩ := h
  exact len_raw (y := (d, ps)) hf hu hb hw
/-- How long the acts' bytes are. -/
theorem acts_len {H : Type} {enc : TypeId × Value → H} {W : World} {A : Option Addr} {c B : Nat} {al : List ActV} {d : DataW H} {ps : List MemPlace} (hr : AR W A al) (h : DataW.Trod enc Try.prog W 0 (fun _ => true) true 22 (.slice A al.length c) d ps) (hw : WB Try.prog 22 d B) : ∀ a ∈ al, a.bs.length ≤ B := by
  intro a ha
  obtain ⟨i, hi⟩ := List.getElem?_of_mem ha
  have hil := (List.getElem?_eq_some_iff.1 hi).1
  obtain ⟨fuel, hf⟩ := h
  obtain ⟨g, o, rfl, _, hcell⟩ := hr (by omega)
  obtain ⟨_, _, _, q1, _⟩ := hcell i a hi
  rcases DataW.trod_slice Try.underlying22 hf with ⟨hcs, hx⟩ | ⟨x, len, cap, elems, rest, m, _, hcs, hx, hb, hl, hm, hlen, hel, hsp, hns⟩
  · simp [Value.cells] at hcs
  · simp [Value.cells] at hcs
    obtain ⟨rfl, rfl, rfl⟩ := hcs
    injection hx with hd _
    subst hd
    have hc4 : Try.prog.cellsOf 56 = 4 := by kernel_rfl
    rw [hc4] at hel
    obtain ⟨y, hy⟩ : ∃ y, elems[i]? = some y := ⟨_, List.getElem?_eq_getElem (by omega)⟩
    have he := (hel i hil).trans hy
    rw [Option.bind_eq_some_iff] at he
    obtain ⟨cs, hcs, ht⟩ := he
    obtain ⟨c0, c1, c2, c3, rfl, g0, g1, g2, g3⟩ := four_cells hcs
    obtain ⟨y0, y1, y2, y3, k, hxy, _, t0, t1, t2, t3⟩ := Joins.trod_struct4 Try.underlying56 ht
    have o1 : Try.prog.cellsOf 3 = 1 := by kernel_rfl
    have o2 : Try.prog.cellsOf 29 = 1 := by kernel_rfl
    simp only [o1, o2, List.drop_zero, List.drop_succ_cons, List.take_succ_cons, List.take_zero] at t0 t1 t2 t3
    rw [Addr.add_lit, Addr.add_lit] at g3
    have ec : c3 = .slice a.A a.bs.length a.ca := Option.some.inj (g3.symm.trans q1)
    subst ec
    have hw2 := hw.elem Try.underlying22 (List.mem_map_of_mem (f := (·.1)) (List.mem_of_getElem? hy))
    rw [hxy] at hw2
    exact len_raw t3 Try.underlying29 b8 (hw2.part Try.underlying56 (j := 3) rfl rfl)
end Go.Proofs.Ytjochldpacgcgaa.U
