/- What an argument of whatever readable type reads behind the call, where the call changes nothing that was there. -/
import Derived.Test.YtjochldpacgcgaaChecked
import Derived.WalkKit
import Derived.ProofKit
import Derived.Below
import Derived.Carry
import Derived.Lib.Hide
namespace Go.Proofs.Ytjochldpacgcgaa.U
open Go Go.RowKit

theorem laidOutB : laidOutB Try.prog = true := by kernel_rfl
theorem backs {H : Type} {enc : TypeId × Value → H} {t : TypeId} (hr : Try.prog.readableRec t = true) (ht : t < Try.prog.types.size) {W W' : World} {v : Value} {d : DataW H} {ps : List MemPlace} (h : DataW.Trod enc Try.prog W 0 (fun _ => true) true t v d ps) (bel : Below W.heap.size W W') :
    DataW.Trod enc Try.prog W' 0 (fun b => decide (b < W.heap.size)) true t v d ps :=
  Below.trod laidOutB hr ht h bel (by obtain ⟨m, hm⟩ := h; exact DataW.trod_lt m _ _ _ hm)
end Go.Proofs.Ytjochldpacgcgaa.U
