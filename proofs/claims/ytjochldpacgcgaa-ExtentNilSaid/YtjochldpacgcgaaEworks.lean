/- extent: New, Size, Read behind the end; the document's own example. -/
import Derived.Test.YtjochldpacgcgaaEwrite0
import Derived.Lib.SmallJoins
import Derived.Test.YtjochldpacgcgaaPRx11
set_option linter.unusedVariables false
set_option linter.unusedSimpArgs false
namespace Go.Proofs.Ytjochldpacgcgaa.U
open Go.RowKit Go.Proofs Go.Lib Go.Proofs.YtjochldpacgcgaaW.PrintWords Go.Proofs.Ytjochldpacgcgaa.PR

set_option maxHeartbeats 1000000 in
theorem New_calls (w : World) :
    Calls Try.prog 25 #[] w fun e w' => e = .returned (.pointer (some ⟨w.heap.size, 0, none⟩)) ∧ DataAt w' w.heap.size 0 [] none 0 ∧ Below w.heap.size w w' := by
  go_enter Try.func25, Try.ntmps25
  go_wp2
  go_ret
  exact ⟨rfl, ⟨heap_alloc_new w _, .inl ⟨rfl, rfl, rfl⟩⟩, (Below.refl _ _).alloc (Nat.le_refl _) _⟩
set_option maxHeartbeats 1000000 in
theorem Size_calls (D size : Nat) (xs : List Ext) (lA : Option Addr) (c : Nat) (w : World) (h : DataAt w D size xs lA c) :
    Calls Try.prog 17 #[.pointer (some ⟨D, 0, none⟩)] w fun e w' => e = .returned (.int .i64 (size : Int)) ∧ w' = w := by
  obtain ⟨q1, q2, q3, hD⟩ := h.cells
  have C1 := Lib.hid (off_on D w q1)
  clear h
  go_enter Try.func17, Try.ntmps17
  go_wp2_with fail
  refine (C1.out).mono ?_
  rintro e w1 ⟨rfl, rfl⟩
  go_wp2
  go_ret
  exact ⟨rfl, rfl⟩
set_option maxHeartbeats 2000000 in
theorem Read_end (D size p n : Nat) (xs : List Ext) (lA : Option Addr) (c : Nat) (w : World) (h : DataAt w D size xs lA c) (hn : 0 < n) (hp : size ≤ p) :
    Calls Try.prog 13 #[.pointer (some ⟨D, 0, none⟩), .int .i64 (p : Int), .int .i64 (n : Int)] w fun e w' => e = .returned (.tuple #[.slice none 0 0, .int .i64 22]) ∧ w' = w := by
  obtain ⟨q1, q2, q3, hD⟩ := h.cells
  have C1 := Lib.hid (off_on D w q1)
  have d1 : decide ((p : Int) < 0) = false := by simp
  have d2 : decide ((n : Int) < 0) = false := by simp
  have d3 : ((n : Int) == 0) = false := by simp; omega
  have d4 : decide ((size : Int) ≤ (p : Int)) = true := by simp; omega
  clear h
  go_enter Try.func13, Try.ntmps13
  go_wp2_with fail
  refine (C1.out).mono ?_
  rintro e w1 ⟨rfl, rfl⟩
  go_wp2
  go_ret2
  exact ⟨rfl, rfl⟩
theorem same_four : refectoryref00_Same.f 10 [0, 0, 97, 98] [0, 0, 97, 98] = some true := by decide +kernel
theorem row_C {w : World} {O : Nat} {bs : List Int} {fz : Nat × Nat} (h : w.heap[O]? = some (.cells (nums .u8 bs).toArray 5 fz)) (hl : bs.length ≤ 1000000000) : Kd.C (Kd.int .u8) w (some ⟨O, 0, none⟩) bs.length bs := by
  refine Kd.C_of_reads (d := (0 : Int)) (h1 := fun _ => rfl) ⟨rfl, by omega, fun _ => ⟨_, rfl, fun j hj => ?_⟩⟩
  have e2 : (⟨O, 0, none⟩ : Addr).add j = ⟨O, j, none⟩ := by
    unfold Addr.add
    split
    · rename_i h; subst h; rfl
    · show (⟨O, 0 + j, none⟩ : Addr) = _
      rw [Nat.zero_add]
  rw [e2, Lib.cell_of_heap h]
  simp [nums, hj]
theorem BR_row {w : World} {O : Nat} {bs : List Int} {fz : Nat × Nat} (h : w.heap[O]? = some (.cells (nums .u8 bs).toArray 5 fz)) : BR w (some ⟨O, 0, none⟩) bs.length bs := by
  refine ⟨Nat.le_refl _, fun _ => ⟨O, 0, _, fz, rfl, h, fun j b hj => ?_⟩⟩
  rw [Nat.zero_add]
  unfold nums
  rw [List.getElem?_toArray, List.getElem?_map, hj]
  rfl
set_option maxHeartbeats 8000000 in
set_option maxRecDepth 1000000 in
theorem works_calls (w : World) :
    Calls Try.prog 12 #[] w fun e w' => e = .returned (.bool true) ∧ Below w.heap.size w w' := by
  have C1 := Lib.hid (New_calls w)
  go_enter Try.func12, Try.ntmps12
  go_wp2_with fail
  refine (C1.out).mono ?_
  rintro e w1 ⟨rfl, hd, hb⟩
  have hconv := Lib.run_convert_bytes_const (P := Try.prog) w1 29 5 #[.int .u8 97, .int .u8 98] 2 2 Try.underlying29 Try.underlying5
  obtain ⟨wx, hwx⟩ : ∃ wx, w1.alloc (.cells #[.int .u8 97, .int .u8 98] 5 ((#[.int .u8 97, .int .u8 98] : Array Value).size, (#[.int .u8 97, .int .u8 98] : Array Value).size + 1)) = wx := ⟨_, rfl⟩
  rw [hwx] at hconv
  have hbx : Below w1.heap.size w1 wx := by rw [← hwx]; exact (Below.refl _ _).alloc (Nat.le_refl _) _
  have hd2 := hd.below hbx
  have hB : wx.heap[w1.heap.size]? = some (.cells (nums .u8 [97, 98]).toArray 5 (2, 3)) := by rw [← hwx]; exact heap_alloc_new w1 _
  have hR : BR wx (some ⟨w1.heap.size, 0, none⟩) 2 [97, 98] := BR_row hB
  have c2 := Write_first w.heap.size 0 2 _ 2 [97, 98] _ hd2 hR (by decide) (by decide) (by decide)
  have hw1 : w.heap.size < w1.heap.size := hd.cells.2.2.2
  have HB := Lib.hid (hb.trans (hbx.mono hb.size))
  have C2 := Lib.hid c2
  clear c2 hR hB hd2 hbx hd hb C1 hwx
  go_wp2_with fail
  refine (C2.out).mono ?_
  rintro e w2 ⟨rfl, ⟨L, cc, hd⟩, hb⟩
  have hb2 := HB.out.trans (hb w.heap.size (Nat.le_refl _) HB.out.size)
  have hok : Ok 0 [((2 : Nat), ([97, 98] : List Int))] := ⟨by decide, by decide, trivial⟩
  have c3 := Read_calls w.heap.size 4 0 4 9 _ _ _ w2 hd hok (by decide) (fun x hx => by rw [List.mem_singleton.1 hx]; decide) (by decide) (by decide) (by decide) (by decide) (by decide)
  have HB2 := Lib.hid hb2
  have HD2 := Lib.hid hd
  have C3 := Lib.hid c3
  clear c3 hb2 hd hb C2 HB
  go_wp2_with fail
  refine (C3.out).mono ?_
  rintro e w3 ⟨O, rfl, hO, hrow, hb⟩
  rw [show bytesAt [((2 : Nat), ([97, 98] : List Int))] 0 4 = [0, 0, 97, 98] from rfl] at hrow
  have hd3 := HD2.out.below hb
  have HB3 := Lib.hid (HB2.out.trans (hb.mono HB2.out.size))
  have C4 := Lib.hid (Read_end w.heap.size 4 4 1 _ _ _ w3 hd3 (by decide) (by decide))
  have HROW := Lib.hid hrow
  have HD3 := Lib.hid hd3
  clear hb hrow hd3 HD2 HB2 C3
  go_wp2_with fail
  refine (C4.out).mono ?_
  rintro e w4 ⟨rfl, rfl⟩
  have hby : Below w4.heap.size w4 (w4.alloc (.cells (nums .u8 [0, 0, 97, 98]).toArray 5)) := (Below.refl _ _).alloc (Nat.le_refl _) _
  have r1 := row_C (bs := [0, 0, 97, 98]) (kept_below hby _ _ HROW.out) (by decide)
  have r2 := row_C (bs := [0, 0, 97, 98]) (heap_alloc_new w4 (.cells (nums .u8 [0, 0, 97, 98]).toArray 5)) (by decide)
  have hd5 := HD3.out.below hby
  have C5 := Lib.hid (refectoryref00_Same.calls 10 _ 4 [0, 0, 97, 98] _ 4 [0, 0, 97, 98] true _ r1 (by decide) r2 (by decide) same_four)
  have HB5 := Lib.hid (HB3.out.trans (hby.mono HB3.out.size))
  have HD5 := Lib.hid hd5
  clear hby r1 r2 hd5 HD3 HB3 HROW C4
  go_wp2_with fail
  refine (C5.out).mono ?_
  rintro e w5 ⟨rfl, hdr⟩
  have hb5 := hdr.below
  have C6 := Lib.hid (Size_calls w.heap.size 4 _ _ _ w5 (HD5.out.below hb5))
  have HB6 := Lib.hid (HB5.out.trans (hb5.mono HB5.out.size))
  clear hb5 hdr C5 HD5 HB5
  go_wp2_with fail
  refine (C6.out).mono ?_
  rintro e w6 ⟨rfl, rfl⟩
  go_wp2
  go_ret
  exact ⟨rfl, HB6.out⟩
end Go.Proofs.Ytjochldpacgcgaa.U
