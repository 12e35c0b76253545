/- An argument that is a slice of bytes: what its reading gives the walk, and how it reads behind the call. -/
import Derived.Test.YtanncmaojnmldaaDoorLbase
import Derived.Test.YtanncmaojnmldaaDoorBulk
import Derived.WalkKit
import Derived.ProofKit
import Derived.OpenShut
import Derived.ChangeOld
import Derived.Below
import Derived.Carry
set_option linter.unusedVariables false
set_option linter.unusedSimpArgs false
namespace Go.Proofs.YtanncmaojnmldaaDoor.U
open Go.ChangeShapes Go.WideShapes Go.ChangeAt Go.RowKit Go.Lib Go.Proofs.YtanncmaojnmldaaDoorW.PrintWords

theorem laidOut : laidOutB Tryd.prog = true := by kernel_rfl
theorem open_bytes {H : Type} {enc : TypeId × Value → H} {W : World} {v : Value} {d : DataW H} {ps : List MemPlace}
    (hval : Value.okWide Tryd.prog W .any 0 22 v) (h : DataW.Trod enc Tryd.prog W 0 (fun _ => true) true 22 v d ps) :
    ∃ (A : Option Addr) (c : Nat) (xs : List Int), v = .slice A xs.length c ∧ Rd W A c xs ∧ Bv W v xs ∧ xs.length + 1 ≤ Rows.uptoBulk d := by
  obtain ⟨A, n, c, rfl⟩ := okWide_slice Tryd.underlying22 hval
  obtain ⟨fuel, hf⟩ := h
  rcases open_ints Tryd.underlying22 Tryd.underlying5 (by kernel_rfl) hf with ⟨hcs, hx⟩ | ⟨x, l, c', zs, hcs, _, hl, hm, hz, hx, hcell, hwz⟩
  · simp [Value.cells] at hcs
    obtain ⟨rfl, rfl, rfl⟩ := hcs
    injection hx with hd _
    subst hd
    exact ⟨none, 0, [], rfl, ⟨Nat.le_refl _, by omega, by simp, fun h => by simp at h⟩, Bv.nil _, by simp [Rows.uptoBulk]⟩
  · simp [Value.cells] at hcs
    obtain ⟨rfl, rfl, rfl⟩ := hcs
    injection hx with hd _
    subst hd
    have hz : zs.length = c := by simpa using hz
    have hlen : (zs.take n).length = n := by rw [List.length_take]; omega
    have hg : ∀ j, j < n → (zs.take n).getD j 0 = zs.getD j 0 := fun j hj => by
      rw [List.getD_eq_getElem?_getD, List.getD_eq_getElem?_getD, List.getElem?_take, if_pos hj]
    have hR : ReadsInt W .u8 (some x) n (zs.take n) := ⟨hlen, by unfold maxLen at hm; omega, fun h0 => ⟨x, rfl, fun j hj => by rw [hg j hj]; exact hcell j (by omega)⟩⟩
    refine ⟨some x, c, zs.take n, by rw [hlen], ⟨by rw [hlen]; exact hl, by unfold maxLen at hm; omega, fun y hy => ?_, fun h0 => ?_⟩, ⟨some x, c, by rw [hlen], by rw [hlen]; exact hl, ?_⟩, ?_⟩
    · have := hwz y (List.mem_of_mem_take hy)
      simp only [Lit.wf, Bool.and_eq_true, decide_eq_true_eq, show IntKind.u8.min = 0 from by decide, show IntKind.u8.max = 255 from by decide] at this
      omega
    · have h0' : 0 < zs.length := by omega
      have c0 := hcell 0 h0'
      have e0 : x.add 0 = x := rfl
      rw [e0] at c0
      obtain ⟨g, off, sp⟩ := x
      have hsp : sp = none := by
        unfold World.cell? at c0
        cases sp with
        | none => rfl
        | some k => cases hh : W.heap[g]? with
          | none => simp [hh] at c0
          | some o => cases o <;> simp [hh] at c0
      subst hsp
      refine ⟨g, off, rfl, ?_, fun j hj => ?_⟩
      · unfold World.cell? at c0
        cases hh : W.heap[g]? with
        | none => simp [hh] at c0
        | some o => exact (Array.getElem?_eq_some_iff.1 hh).1
      · rw [hlen] at hj
        have := hcell j (by omega)
        rw [hg j hj]
        have e : (⟨g, off, none⟩ : Addr).add j = ⟨g, off + j, none⟩ := by
          unfold Addr.add
          split
          · rename_i h; subst h; rfl
          · rfl
        rwa [e] at this
    · rw [hlen]
      exact Kd.C_of_reads (d := (0 : Int)) (h1 := fun _ => rfl) hR
    · have := bulks.slice_le (H := H) (lits .u8 (zs.take n)) (lits .u8 (zs.drop n))
      have e : (lits (H := H) .u8 (zs.take n)).length = (zs.take n).length := by simp [lits]
      omega
theorem arg_le {H : Type} {l : List (DataW H)} (hk : Rows.uptoSmall H l = true) {d : DataW H} (h : d ∈ l) : Rows.uptoBulk d ≤ 1048576 :=
  Nat.le_trans (bulks.part_le h) (bulks.bound hk)
/-- What reads behind the call as it did. -/
theorem back_bytes {H : Type} {enc : TypeId × Value → H} {W W' : World} {v : Value} {d : DataW H} {ps : List MemPlace} (h : DataW.Trod enc Tryd.prog W 0 (fun _ => true) true 22 v d ps) (bel : Below W.heap.size W W') :
    DataW.Trod enc Tryd.prog W' 0 (fun b => decide (b < W.heap.size)) true 22 v d ps :=
  Below.trod laidOut (by kernel_rfl) (of_decide_eq_true (by kernel_rfl)) h bel (by obtain ⟨m, hm⟩ := h; exact DataW.trod_lt m _ _ _ hm)
end Go.Proofs.YtanncmaojnmldaaDoor.U
