/- cache: an act, done to both. -/
import Derived.Test.YtbnkiefchbcfgaaCpair
set_option linter.unusedVariables false
set_option linter.unusedSimpArgs false
namespace Go.Proofs.Ytbnkiefchbcfgaa.U
open Go.RowKit Go.Proofs Go.Lib Go.Proofs.YtbnkiefchbcfgaaW.PrintWords Go.Proofs.Ytbnkiefchbcfgaa.PR
variable {w : World} {N : Nat → Prop} {base C R n : Nat} {s : St}

/-- Behind an act. -/
def ActP (w0 : World) (N : Nat → Prop) (base C R n : Nat) (w' : World) : Prop := ∃ s, Good s n ∧ PX w' N base C R s s ∧ Below base w0 w'
theorem Ans.ba {w w' : World} {A : Option Addr} {ca : Nat} {bs : List Int} (h : Ans w w' A ca bs) : BA w' A ca bs := h.1.ba
set_option maxHeartbeats 16000000 in
set_option maxRecDepth 1000000 in
theorem act_write (h : PX w N base C R s s) (g : Good s n) (hn : n < 1000000) (hb : base ≤ w.heap.size) (p m : Int) (A : Option Addr) (bs : List Int) (ca l : Nat) (ha : Arg w N base A ca bs) :
    Calls Try.prog 44 #[.pointer (some ⟨C, 0, none⟩), .pointer (some ⟨R, 0, none⟩), .agg #[.int .i64 1, .int .i64 p, .int .i64 m, .slice A bs.length ca, .int .u8 (l : Int)]] w fun e w' => e = .returned (.bool true) ∧ ActP w N base C R (n + 1) w' := by
  have hba : Below w.heap.size w (w.alloc (.cells #[.int .i64 1, .int .i64 p, .int .i64 m, .slice A bs.length ca, .int .u8 (l : Int)] 69)) := (Below.refl _ _).alloc (Nat.le_refl _) _
  have hX := heap_alloc_new w (.cells #[.int .i64 1, .int .i64 p, .int .i64 m, .slice A bs.length ca, .int .u8 (l : Int)] 69)
  obtain ⟨wa, hwa⟩ : ∃ wa, w.alloc (.cells #[.int .i64 1, .int .i64 p, .int .i64 m, .slice A bs.length ca, .int .u8 (l : Int)] 69) = wa := ⟨_, rfl⟩
  rw [hwa] at hba hX
  have q0 : wa.cell? ⟨w.heap.size, 0, none⟩ = some (.int .i64 1) := by rw [Lib.cell_of_heap hX]; rfl
  have hXs : w.heap.size < wa.heap.size := (Array.getElem?_eq_some_iff.1 hX).1
  have hbs : base ≤ wa.heap.size := Nat.le_trans hb hba.size
  have hp := h.below hba
  have hag := ha.below hba
  have HBA := Lib.hid hba
  have hd := below_drew1 (Below.refl wa.heap.size wa)
  have hXd : wa.drew.heap[w.heap.size]? = some (.cells #[.int .i64 1, .int .i64 p, .int .i64 m, .slice A bs.length ca, .int .u8 (l : Int)] 69 (0, 0)) := hX
  have hS0 : wa.drew.cell? ⟨w.heap.size, 1, none⟩ = some (.int .i64 p) ∧ wa.drew.cell? ⟨w.heap.size, 3, none⟩ = some (.slice A bs.length ca) := ⟨by rw [Lib.cell_of_heap (w := wa.drew) hXd]; rfl, by rw [Lib.cell_of_heap (w := wa.drew) hXd]; rfl⟩
  have C1 := Lib.hid (PW (hp.below hd) g (Nat.le_of_lt hn) hbs p (hag.below hd))
  have HG := Lib.hid g
  clear h hp hba ha hag g
  go_enter Try.func44, Try.ntmps44
  go_wp2_with fail
  clear hwa
  refine AnyL.start (fun w' => w'.cell? ⟨w.heap.size, 1, none⟩ = some (.int .i64 p) ∧ w'.cell? ⟨w.heap.size, 3, none⟩ = some (.slice A bs.length ca)) 99 (by kernel_rfl) hS0 (fun hHeld => ?_)
  refine AnyL.take (i := 0) (v := ?vy0) rfl (by kernel_rfl) (by kernel_rfl) (by kernel_rfl) (by kernel_rfl) (fun _ _ _ h => h) (by assumption) (Or.inl ⟨by rfl, ?y0⟩) ?ry0
  case y0 => (intro w hSw; (try dsimp only at hSw); go_simp; try with_reducible rfl)
  try simp only [Act.put, List.setIfInBounds_toArray, List.set_cons_zero, List.set_cons_succ]
  refine AnyL.take (i := 1) (v := ?vy1) rfl (by kernel_rfl) (by kernel_rfl) (by kernel_rfl) (by kernel_rfl) (fun _ _ _ h => h) (by assumption) (Or.inl ⟨by rfl, ?y1⟩) ?ry1
  case y1 => (intro w hSw; (try dsimp only at hSw); go_simp; try with_reducible rfl)
  try simp only [Act.put, List.setIfInBounds_toArray, List.set_cons_zero, List.set_cons_succ]
  refine AnyL.take (i := 2) (v := ?vy2) rfl (by kernel_rfl) (by kernel_rfl) (by kernel_rfl) (by kernel_rfl) (fun _ _ _ h => h) (by assumption) (Or.inl ⟨by rfl, ?y2⟩) ?ry2
  case y2 => (intro w hSw; (try dsimp only at hSw); go_simp; try with_reducible rfl)
  try simp only [Act.put, List.setIfInBounds_toArray, List.set_cons_zero, List.set_cons_succ]
  refine AnyL.take (i := 3) (v := ?vy3) rfl (by kernel_rfl) (by kernel_rfl) (by kernel_rfl) (by kernel_rfl) (fun _ _ _ h => h) (by assumption) (Or.inl ⟨by rfl, ?y3⟩) ?ry3
  case y3 => (intro w hSw; (try dsimp only at hSw); go_simp; try with_reducible rfl)
  try simp only [Act.put, List.setIfInBounds_toArray, List.set_cons_zero, List.set_cons_succ]
  refine AnyL.take (i := 4) (v := ?vy4) rfl (by kernel_rfl) (by kernel_rfl) (by kernel_rfl) (by kernel_rfl) (fun _ _ _ h => h) (by assumption) (Or.inl ⟨by rfl, ?y4⟩) ?ry4
  case y4 => (intro w hSw; (try dsimp only at hSw); go_simp; try with_reducible rfl)
  try simp only [Act.put, List.setIfInBounds_toArray, List.set_cons_zero, List.set_cons_succ]
  refine AnyL.take (i := 6) (v := ?vy6) rfl (by kernel_rfl) (by kernel_rfl) (by kernel_rfl) (by kernel_rfl) (fun _ _ _ h => h) (by assumption) (Or.inl ⟨by rfl, ?y6⟩) ?ry6
  case y6 => (intro w hSw; (try dsimp only at hSw); go_simp; try with_reducible rfl)
  try simp only [Act.put, List.setIfInBounds_toArray, List.set_cons_zero, List.set_cons_succ]
  refine AnyL.take (i := 7) (v := ?vy7) rfl (by kernel_rfl) (by kernel_rfl) (by kernel_rfl) (by kernel_rfl) (fun _ _ _ h => h) (by assumption) (Or.inl ⟨by rfl, ?y7⟩) ?ry7
  case y7 => (intro w hSw; (try dsimp only at hSw); go_simp; try with_reducible rfl)
  try simp only [Act.put, List.setIfInBounds_toArray, List.set_cons_zero, List.set_cons_succ]
  refine AnyL.take (i := 8) (v := ?vy8) rfl (by kernel_rfl) (by kernel_rfl) (by kernel_rfl) (by kernel_rfl) (fun _ _ _ h => h) (by assumption) (Or.inl ⟨by rfl, ?y8⟩) ?ry8
  case y8 => (intro w hSw; (try dsimp only at hSw); go_simp; try with_reducible rfl)
  try simp only [Act.put, List.setIfInBounds_toArray, List.set_cons_zero, List.set_cons_succ]
  refine AnyL.take (i := 9) (v := ?vy9) rfl (by kernel_rfl) (by kernel_rfl) (by kernel_rfl) (by kernel_rfl) (fun _ _ _ h => h) (by assumption) (Or.inl ⟨by rfl, ?y9⟩) ?ry9
  case y9 => (intro w hSw; (try dsimp only at hSw); go_simp; try with_reducible rfl)
  try simp only [Act.put, List.setIfInBounds_toArray, List.set_cons_zero, List.set_cons_succ]
  refine AnyL.take (i := 10) (v := ?vy10) rfl (by kernel_rfl) (by kernel_rfl) (by kernel_rfl) (by kernel_rfl) (fun _ _ _ h => h) (by assumption) (Or.inl ⟨by rfl, ?y10⟩) ?ry10
  case y10 => (intro w hSw; (try dsimp only at hSw); go_simp; try with_reducible rfl)
  try simp only [Act.put, List.setIfInBounds_toArray, List.set_cons_zero, List.set_cons_succ]
  refine AnyL.one (i := 5) (by kernel_rfl) rfl (fun K hK => ?_)
  go_simp
  refine (C1.out).mono ?_
  rintro e w5 ⟨rfl, hm5, ha5⟩
  have hX5 : w5.heap[w.heap.size]? = some (.cells #[.int .i64 1, .int .i64 p, .int .i64 m, .slice A bs.length ca, .int .u8 (l : Int)] 69 (0, 0)) := hm5.2.2.1 _ _ _ _ hXd (by decide) (by decide) (by decide) (by decide) (by decide)
  have hS5 : w5.cell? ⟨w.heap.size, 1, none⟩ = some (.int .i64 p) ∧ w5.cell? ⟨w.heap.size, 3, none⟩ = some (.slice A bs.length ca) := ⟨by rw [Lib.cell_of_heap (w := w5) hX5]; rfl, by rw [Lib.cell_of_heap (w := w5) hX5]; rfl⟩
  refine hK.out _ _ (.inr hS5) ?_
  clear hHeld hK K
  have hHeld := hS5
  try simp only [Act.put, List.setIfInBounds_toArray, List.set_cons_zero, List.set_cons_succ]
  have hb5 : base ≤ w5.heap.size := Nat.le_trans hbs (Nat.le_trans hd.size hm5.2.1.size)
  have C2 := Lib.hid (PRW hm5.1 (HG.out.w p bs) (HG.out.mono (Nat.le_succ _)) (by omega) hb5 p ha5)
  refine AnyL.one (i := 11) (by kernel_rfl) rfl (fun K hK => ?_)
  go_simp
  refine (C2.out).mono ?_
  rintro e w7 ⟨rfl, hm7, ha7⟩
  have hX7 : w7.heap[w.heap.size]? = some (.cells #[.int .i64 1, .int .i64 p, .int .i64 m, .slice A bs.length ca, .int .u8 (l : Int)] 69 (0, 0)) := hm7.2.2.1 _ _ _ _ hX5 (by decide) (by decide) (by decide) (by decide) (by decide)
  have hS7 : w7.cell? ⟨w.heap.size, 1, none⟩ = some (.int .i64 p) ∧ w7.cell? ⟨w.heap.size, 3, none⟩ = some (.slice A bs.length ca) := ⟨by rw [Lib.cell_of_heap (w := w7) hX7]; rfl, by rw [Lib.cell_of_heap (w := w7) hX7]; rfl⟩
  refine hK.out _ _ (.inr hS7) ?_
  clear hHeld hK K
  have hHeld := hS7
  try simp only [Act.put, List.setIfInBounds_toArray, List.set_cons_zero, List.set_cons_succ]
  have HFIN : Hid (ActP w N base C R (n + 1) w7) := Lib.hid ⟨(stW s p bs).2, HG.out.w p bs, hm7.1, ((HBA.out.mono hb).trans (((below_drew1 (Below.refl base wa)).trans hm5.2.1).trans hm7.2.1))⟩
  clear C1 C2 hm5 hm7 hX5 hX7 hS5 hS0 hXd
  refine AnyL.take (i := 12) (v := ?vz12) rfl (by kernel_rfl) (by kernel_rfl) (by kernel_rfl) (by kernel_rfl) (fun _ _ _ h => h) (by assumption) (Or.inl ⟨by rfl, ?z12⟩) ?rz12
  case z12 => (intro w hSw; (try dsimp only at hSw); go_simp; try with_reducible rfl)
  try simp only [Act.put, List.setIfInBounds_toArray, List.set_cons_zero, List.set_cons_succ]
  refine AnyL.take (i := 13) (v := ?vz13) rfl (by kernel_rfl) (by kernel_rfl) (by kernel_rfl) (by kernel_rfl) (fun _ _ _ h => h) (by assumption) (Or.inl ⟨by rfl, ?z13⟩) ?rz13
  case z13 => (intro w hSw; (try dsimp only at hSw); go_simp; try with_reducible rfl)
  try simp only [Act.put, List.setIfInBounds_toArray, List.set_cons_zero, List.set_cons_succ]
  refine AnyL.done (by kernel_rfl) ?_ _
  clear hHeld hS7
  go_wp2_with fail
  go_ret
  exact ⟨rfl, HFIN.out⟩
set_option maxHeartbeats 16000000 in
set_option maxRecDepth 1000000 in
theorem act_fill (h : PX w N base C R s s) (g : Good s n) (hn : n < 1000000) (hb : base ≤ w.heap.size) (p m : Int) (A : Option Addr) (bs : List Int) (ca l : Nat) (ha : Arg w N base A ca bs) :
    Calls Try.prog 44 #[.pointer (some ⟨C, 0, none⟩), .pointer (some ⟨R, 0, none⟩), .agg #[.int .i64 2, .int .i64 p, .int .i64 m, .slice A bs.length ca, .int .u8 (l : Int)]] w fun e w' => e = .returned (.bool true) ∧ ActP w N base C R (n + 1) w' := by
  have hba : Below w.heap.size w (w.alloc (.cells #[.int .i64 2, .int .i64 p, .int .i64 m, .slice A bs.length ca, .int .u8 (l : Int)] 69)) := (Below.refl _ _).alloc (Nat.le_refl _) _
  have hX := heap_alloc_new w (.cells #[.int .i64 2, .int .i64 p, .int .i64 m, .slice A bs.length ca, .int .u8 (l : Int)] 69)
  obtain ⟨wa, hwa⟩ : ∃ wa, w.alloc (.cells #[.int .i64 2, .int .i64 p, .int .i64 m, .slice A bs.length ca, .int .u8 (l : Int)] 69) = wa := ⟨_, rfl⟩
  rw [hwa] at hba hX
  have q0 : wa.cell? ⟨w.heap.size, 0, none⟩ = some (.int .i64 2) := by rw [Lib.cell_of_heap hX]; rfl
  have hXs : w.heap.size < wa.heap.size := (Array.getElem?_eq_some_iff.1 hX).1
  have hbs : base ≤ wa.heap.size := Nat.le_trans hb hba.size
  have hp := h.below hba
  have hag := ha.below hba
  have HBA := Lib.hid hba
  have hd := below_drew1 (Below.refl wa.heap.size wa)
  have hXd : wa.drew.heap[w.heap.size]? = some (.cells #[.int .i64 2, .int .i64 p, .int .i64 m, .slice A bs.length ca, .int .u8 (l : Int)] 69 (0, 0)) := hX
  have hS0 : wa.drew.cell? ⟨w.heap.size, 1, none⟩ = some (.int .i64 p) ∧ wa.drew.cell? ⟨w.heap.size, 3, none⟩ = some (.slice A bs.length ca) := ⟨by rw [Lib.cell_of_heap (w := wa.drew) hXd]; rfl, by rw [Lib.cell_of_heap (w := wa.drew) hXd]; rfl⟩
  have C1 := Lib.hid (PF (hp.below hd) g (Nat.le_of_lt hn) hbs p (hag.below hd))
  have HG := Lib.hid g
  clear h hp hba ha hag g
  go_enter Try.func44, Try.ntmps44
  go_wp2_with fail
  clear hwa
  refine AnyL.start (fun w' => w'.cell? ⟨w.heap.size, 1, none⟩ = some (.int .i64 p) ∧ w'.cell? ⟨w.heap.size, 3, none⟩ = some (.slice A bs.length ca)) 99 (by kernel_rfl) hS0 (fun hHeld => ?_)
  refine AnyL.take (i := 0) (v := ?vy0) rfl (by kernel_rfl) (by kernel_rfl) (by kernel_rfl) (by kernel_rfl) (fun _ _ _ h => h) (by assumption) (Or.inl ⟨by rfl, ?y0⟩) ?ry0
  case y0 => (intro w hSw; (try dsimp only at hSw); go_simp; try with_reducible rfl)
  try simp only [Act.put, List.setIfInBounds_toArray, List.set_cons_zero, List.set_cons_succ]
  refine AnyL.take (i := 1) (v := ?vy1) rfl (by kernel_rfl) (by kernel_rfl) (by kernel_rfl) (by kernel_rfl) (fun _ _ _ h => h) (by assumption) (Or.inl ⟨by rfl, ?y1⟩) ?ry1
  case y1 => (intro w hSw; (try dsimp only at hSw); go_simp; try with_reducible rfl)
  try simp only [Act.put, List.setIfInBounds_toArray, List.set_cons_zero, List.set_cons_succ]
  refine AnyL.take (i := 2) (v := ?vy2) rfl (by kernel_rfl) (by kernel_rfl) (by kernel_rfl) (by kernel_rfl) (fun _ _ _ h => h) (by assumption) (Or.inl ⟨by rfl, ?y2⟩) ?ry2
  case y2 => (intro w hSw; (try dsimp only at hSw); go_simp; try with_reducible rfl)
  try simp only [Act.put, List.setIfInBounds_toArray, List.set_cons_zero, List.set_cons_succ]
  refine AnyL.take (i := 3) (v := ?vy3) rfl (by kernel_rfl) (by kernel_rfl) (by kernel_rfl) (by kernel_rfl) (fun _ _ _ h => h) (by assumption) (Or.inl ⟨by rfl, ?y3⟩) ?ry3
  case y3 => (intro w hSw; (try dsimp only at hSw); go_simp; try with_reducible rfl)
  try simp only [Act.put, List.setIfInBounds_toArray, List.set_cons_zero, List.set_cons_succ]
  refine AnyL.take (i := 4) (v := ?vy4) rfl (by kernel_rfl) (by kernel_rfl) (by kernel_rfl) (by kernel_rfl) (fun _ _ _ h => h) (by assumption) (Or.inl ⟨by rfl, ?y4⟩) ?ry4
  case y4 => (intro w hSw; (try dsimp only at hSw); go_simp; try with_reducible rfl)
  try simp only [Act.put, List.setIfInBounds_toArray, List.set_cons_zero, List.set_cons_succ]
  refine AnyL.take (i := 6) (v := ?vy6) rfl (by kernel_rfl) (by kernel_rfl) (by kernel_rfl) (by kernel_rfl) (fun _ _ _ h => h) (by assumption) (Or.inl ⟨by rfl, ?y6⟩) ?ry6
  case y6 => (intro w hSw; (try dsimp only at hSw); go_simp; try with_reducible rfl)
  try simp only [Act.put, List.setIfInBounds_toArray, List.set_cons_zero, List.set_cons_succ]
  refine AnyL.take (i := 7) (v := ?vy7) rfl (by kernel_rfl) (by kernel_rfl) (by kernel_rfl) (by kernel_rfl) (fun _ _ _ h => h) (by assumption) (Or.inl ⟨by rfl, ?y7⟩) ?ry7
  case y7 => (intro w hSw; (try dsimp only at hSw); go_simp; try with_reducible rfl)
  try simp only [Act.put, List.setIfInBounds_toArray, List.set_cons_zero, List.set_cons_succ]
  refine AnyL.take (i := 8) (v := ?vy8) rfl (by kernel_rfl) (by kernel_rfl) (by kernel_rfl) (by kernel_rfl) (fun _ _ _ h => h) (by assumption) (Or.inl ⟨by rfl, ?y8⟩) ?ry8
  case y8 => (intro w hSw; (try dsimp only at hSw); go_simp; try with_reducible rfl)
  try simp only [Act.put, List.setIfInBounds_toArray, List.set_cons_zero, List.set_cons_succ]
  refine AnyL.take (i := 9) (v := ?vy9) rfl (by kernel_rfl) (by kernel_rfl) (by kernel_rfl) (by kernel_rfl) (fun _ _ _ h => h) (by assumption) (Or.inl ⟨by rfl, ?y9⟩) ?ry9
  case y9 => (intro w hSw; (try dsimp only at hSw); go_simp; try with_reducible rfl)
  try simp only [Act.put, List.setIfInBounds_toArray, List.set_cons_zero, List.set_cons_succ]
  refine AnyL.take (i := 10) (v := ?vy10) rfl (by kernel_rfl) (by kernel_rfl) (by kernel_rfl) (by kernel_rfl) (fun _ _ _ h => h) (by assumption) (Or.inl ⟨by rfl, ?y10⟩) ?ry10
  case y10 => (intro w hSw; (try dsimp only at hSw); go_simp; try with_reducible rfl)
  try simp only [Act.put, List.setIfInBounds_toArray, List.set_cons_zero, List.set_cons_succ]
  refine AnyL.one (i := 5) (by kernel_rfl) rfl (fun K hK => ?_)
  go_simp
  refine (C1.out).mono ?_
  rintro e w5 ⟨rfl, hm5, ha5⟩
  have hX5 : w5.heap[w.heap.size]? = some (.cells #[.int .i64 2, .int .i64 p, .int .i64 m, .slice A bs.length ca, .int .u8 (l : Int)] 69 (0, 0)) := hm5.2.2.1 _ _ _ _ hXd (by decide) (by decide) (by decide) (by decide) (by decide)
  have hS5 : w5.cell? ⟨w.heap.size, 1, none⟩ = some (.int .i64 p) ∧ w5.cell? ⟨w.heap.size, 3, none⟩ = some (.slice A bs.length ca) := ⟨by rw [Lib.cell_of_heap (w := w5) hX5]; rfl, by rw [Lib.cell_of_heap (w := w5) hX5]; rfl⟩
  refine hK.out _ _ (.inr hS5) ?_
  clear hHeld hK K
  have hHeld := hS5
  try simp only [Act.put, List.setIfInBounds_toArray, List.set_cons_zero, List.set_cons_succ]
  have hb5 : base ≤ w5.heap.size := Nat.le_trans hbs (Nat.le_trans hd.size hm5.2.1.size)
  have C2 := Lib.hid (PRF hm5.1 (HG.out.f p bs) HG.out (by omega) hb5 p ha5)
  refine AnyL.one (i := 11) (by kernel_rfl) rfl (fun K hK => ?_)
  go_simp
  refine (C2.out).mono ?_
  rintro e w7 ⟨rfl, hm7, ha7⟩
  have hX7 : w7.heap[w.heap.size]? = some (.cells #[.int .i64 2, .int .i64 p, .int .i64 m, .slice A bs.length ca, .int .u8 (l : Int)] 69 (0, 0)) := hm7.2.2.1 _ _ _ _ hX5 (by decide) (by decide) (by decide) (by decide) (by decide)
  have hS7 : w7.cell? ⟨w.heap.size, 1, none⟩ = some (.int .i64 p) ∧ w7.cell? ⟨w.heap.size, 3, none⟩ = some (.slice A bs.length ca) := ⟨by rw [Lib.cell_of_heap (w := w7) hX7]; rfl, by rw [Lib.cell_of_heap (w := w7) hX7]; rfl⟩
  refine hK.out _ _ (.inr hS7) ?_
  clear hHeld hK K
  have hHeld := hS7
  try simp only [Act.put, List.setIfInBounds_toArray, List.set_cons_zero, List.set_cons_succ]
  have HFIN : Hid (ActP w N base C R (n + 1) w7) := Lib.hid ⟨(stF s p bs).2, (HG.out.f p bs).mono (Nat.le_succ _), hm7.1, ((HBA.out.mono hb).trans (((below_drew1 (Below.refl base wa)).trans hm5.2.1).trans hm7.2.1))⟩
  clear C1 C2 hm5 hm7 hX5 hX7 hS5 hS0 hXd
  refine AnyL.take (i := 12) (v := ?vz12) rfl (by kernel_rfl) (by kernel_rfl) (by kernel_rfl) (by kernel_rfl) (fun _ _ _ h => h) (by assumption) (Or.inl ⟨by rfl, ?z12⟩) ?rz12
  case z12 => (intro w hSw; (try dsimp only at hSw); go_simp; try with_reducible rfl)
  try simp only [Act.put, List.setIfInBounds_toArray, List.set_cons_zero, List.set_cons_succ]
  refine AnyL.take (i := 13) (v := ?vz13) rfl (by kernel_rfl) (by kernel_rfl) (by kernel_rfl) (by kernel_rfl) (fun _ _ _ h => h) (by assumption) (Or.inl ⟨by rfl, ?z13⟩) ?rz13
  case z13 => (intro w hSw; (try dsimp only at hSw); go_simp; try with_reducible rfl)
  try simp only [Act.put, List.setIfInBounds_toArray, List.set_cons_zero, List.set_cons_succ]
  refine AnyL.done (by kernel_rfl) ?_ _
  clear hHeld hS7
  go_wp2_with fail
  go_ret
  exact ⟨rfl, HFIN.out⟩
set_option maxHeartbeats 16000000 in
set_option maxRecDepth 1000000 in
theorem act_down (h : PX w N base C R s s) (g : Good s n) (hn : n < 1000000) (hb : base ≤ w.heap.size) (p m : Int) (A : Option Addr) (bs : List Int) (ca l : Nat) (ha : Arg w N base A ca bs) :
    Calls Try.prog 44 #[.pointer (some ⟨C, 0, none⟩), .pointer (some ⟨R, 0, none⟩), .agg #[.int .i64 4, .int .i64 p, .int .i64 m, .slice A bs.length ca, .int .u8 (l : Int)]] w fun e w' => e = .returned (.bool true) ∧ ActP w N base C R (n + 1) w' := by
  have hba : Below w.heap.size w (w.alloc (.cells #[.int .i64 4, .int .i64 p, .int .i64 m, .slice A bs.length ca, .int .u8 (l : Int)] 69)) := (Below.refl _ _).alloc (Nat.le_refl _) _
  have hX := heap_alloc_new w (.cells #[.int .i64 4, .int .i64 p, .int .i64 m, .slice A bs.length ca, .int .u8 (l : Int)] 69)
  obtain ⟨wa, hwa⟩ : ∃ wa, w.alloc (.cells #[.int .i64 4, .int .i64 p, .int .i64 m, .slice A bs.length ca, .int .u8 (l : Int)] 69) = wa := ⟨_, rfl⟩
  rw [hwa] at hba hX
  have q0 : wa.cell? ⟨w.heap.size, 0, none⟩ = some (.int .i64 4) := by rw [Lib.cell_of_heap hX]; rfl
  have hXs : w.heap.size < wa.heap.size := (Array.getElem?_eq_some_iff.1 hX).1
  have hbs : base ≤ wa.heap.size := Nat.le_trans hb hba.size
  have hp := h.below hba
  have hag := ha.below hba
  have HBA := Lib.hid hba
  have hd := below_drew1 (Below.refl wa.heap.size wa)
  have hXd : wa.drew.heap[w.heap.size]? = some (.cells #[.int .i64 4, .int .i64 p, .int .i64 m, .slice A bs.length ca, .int .u8 (l : Int)] 69 (0, 0)) := hX
  have hS0 : wa.drew.cell? ⟨w.heap.size, 4, none⟩ = some (.int .u8 (l : Int)) := by rw [Lib.cell_of_heap (w := wa.drew) hXd]; rfl
  have C1 := Lib.hid (PD (hp.below hd) hbs l)
  have HG := Lib.hid g
  clear h hp hba ha hag g
  go_enter Try.func44, Try.ntmps44
  go_wp2_with fail
  clear hwa
  refine AnyL.start (fun w' => w'.cell? ⟨w.heap.size, 4, none⟩ = some (.int .u8 (l : Int))) 99 (by kernel_rfl) hS0 (fun hHeld => ?_)
  refine AnyL.take (i := 0) (v := ?vy0) rfl (by kernel_rfl) (by kernel_rfl) (by kernel_rfl) (by kernel_rfl) (fun _ _ _ h => h) (by assumption) (Or.inl ⟨by rfl, ?y0⟩) ?ry0
  case y0 => (intro w hSw; (try dsimp only at hSw); go_simp; try with_reducible rfl)
  try simp only [Act.put, List.setIfInBounds_toArray, List.set_cons_zero, List.set_cons_succ]
  refine AnyL.take (i := 1) (v := ?vy1) rfl (by kernel_rfl) (by kernel_rfl) (by kernel_rfl) (by kernel_rfl) (fun _ _ _ h => h) (by assumption) (Or.inl ⟨by rfl, ?y1⟩) ?ry1
  case y1 => (intro w hSw; (try dsimp only at hSw); go_simp; try with_reducible rfl)
  try simp only [Act.put, List.setIfInBounds_toArray, List.set_cons_zero, List.set_cons_succ]
  refine AnyL.take (i := 2) (v := ?vy2) rfl (by kernel_rfl) (by kernel_rfl) (by kernel_rfl) (by kernel_rfl) (fun _ _ _ h => h) (by assumption) (Or.inl ⟨by rfl, ?y2⟩) ?ry2
  case y2 => (intro w hSw; (try dsimp only at hSw); go_simp; try with_reducible rfl)
  try simp only [Act.put, List.setIfInBounds_toArray, List.set_cons_zero, List.set_cons_succ]
  refine AnyL.take (i := 4) (v := ?vy4) rfl (by kernel_rfl) (by kernel_rfl) (by kernel_rfl) (by kernel_rfl) (fun _ _ _ h => h) (by assumption) (Or.inl ⟨by rfl, ?y4⟩) ?ry4
  case y4 => (intro w hSw; (try dsimp only at hSw); go_simp; try with_reducible rfl)
  try simp only [Act.put, List.setIfInBounds_toArray, List.set_cons_zero, List.set_cons_succ]
  refine AnyL.take (i := 5) (v := ?vy5) rfl (by kernel_rfl) (by kernel_rfl) (by kernel_rfl) (by kernel_rfl) (fun _ _ _ h => h) (by assumption) (Or.inl ⟨by rfl, ?y5⟩) ?ry5
  case y5 => (intro w hSw; (try dsimp only at hSw); go_simp; try with_reducible rfl)
  try simp only [Act.put, List.setIfInBounds_toArray, List.set_cons_zero, List.set_cons_succ]
  refine AnyL.take (i := 6) (v := ?vy6) rfl (by kernel_rfl) (by kernel_rfl) (by kernel_rfl) (by kernel_rfl) (fun _ _ _ h => h) (by assumption) (Or.inl ⟨by rfl, ?y6⟩) ?ry6
  case y6 => (intro w hSw; (try dsimp only at hSw); go_simp; try with_reducible rfl)
  try simp only [Act.put, List.setIfInBounds_toArray, List.set_cons_zero, List.set_cons_succ]
  refine AnyL.one (i := 3) (by kernel_rfl) rfl (fun K hK => ?_)
  go_simp
  refine (C1.out).mono ?_
  rintro e w5 ⟨rfl, hm5⟩
  have hX5 : w5.heap[w.heap.size]? = some (.cells #[.int .i64 4, .int .i64 p, .int .i64 m, .slice A bs.length ca, .int .u8 (l : Int)] 69 (0, 0)) := hm5.2.2.1 _ _ _ _ hXd (by decide) (by decide) (by decide) (by decide) (by decide)
  have hS5 : w5.cell? ⟨w.heap.size, 4, none⟩ = some (.int .u8 (l : Int)) := by rw [Lib.cell_of_heap (w := w5) hX5]; rfl
  refine hK.out _ _ (.inr hS5) ?_
  clear hHeld hK K
  have hHeld := hS5
  try simp only [Act.put, List.setIfInBounds_toArray, List.set_cons_zero, List.set_cons_succ]
  have hb5 : base ≤ w5.heap.size := Nat.le_trans hbs (Nat.le_trans hd.size hm5.2.1.size)
  have C2 := Lib.hid (PRD hm5.1 (HG.out.d l) HG.out hb5 l)
  refine AnyL.one (i := 7) (by kernel_rfl) rfl (fun K hK => ?_)
  go_simp
  refine (C2.out).mono ?_
  rintro e w7 ⟨rfl, hm7⟩
  have hX7 : w7.heap[w.heap.size]? = some (.cells #[.int .i64 4, .int .i64 p, .int .i64 m, .slice A bs.length ca, .int .u8 (l : Int)] 69 (0, 0)) := hm7.2.2.1 _ _ _ _ hX5 (by decide) (by decide) (by decide) (by decide) (by decide)
  have hS7 : w7.cell? ⟨w.heap.size, 4, none⟩ = some (.int .u8 (l : Int)) := by rw [Lib.cell_of_heap (w := w7) hX7]; rfl
  refine hK.out _ _ (.inr hS7) ?_
  clear hHeld hK K
  have hHeld := hS7
  try simp only [Act.put, List.setIfInBounds_toArray, List.set_cons_zero, List.set_cons_succ]
  have HFIN : Hid (ActP w N base C R (n + 1) w7) := Lib.hid ⟨(stD s l).2, (HG.out.d l).mono (Nat.le_succ _), hm7.1, ((HBA.out.mono hb).trans (((below_drew1 (Below.refl base wa)).trans hm5.2.1).trans hm7.2.1))⟩
  clear C1 C2 hm5 hm7 hX5 hX7 hS5 hS0 hXd
  refine AnyL.take (i := 8) (v := ?vz8) rfl (by kernel_rfl) (by kernel_rfl) (by kernel_rfl) (by kernel_rfl) (fun _ _ _ h => h) (by assumption) (Or.inl ⟨by rfl, ?z8⟩) ?rz8
  case z8 => (intro w hSw; (try dsimp only at hSw); go_simp; try with_reducible rfl)
  try simp only [Act.put, List.setIfInBounds_toArray, List.set_cons_zero, List.set_cons_succ]
  refine AnyL.take (i := 9) (v := ?vz9) rfl (by kernel_rfl) (by kernel_rfl) (by kernel_rfl) (by kernel_rfl) (fun _ _ _ h => h) (by assumption) (Or.inl ⟨by rfl, ?z9⟩) ?rz9
  case z9 => (intro w hSw; (try dsimp only at hSw); go_simp; try with_reducible rfl)
  try simp only [Act.put, List.setIfInBounds_toArray, List.set_cons_zero, List.set_cons_succ]
  refine AnyL.done (by kernel_rfl) ?_ _
  clear hHeld hS7
  go_wp2_with fail
  go_ret
  exact ⟨rfl, HFIN.out⟩
set_option maxHeartbeats 16000000 in
set_option maxRecDepth 1000000 in
theorem act_forget (h : PX w N base C R s s) (g : Good s n) (hn : n < 1000000) (hb : base ≤ w.heap.size) (p m : Int) (A : Option Addr) (bs : List Int) (ca l : Nat) (ha : Arg w N base A ca bs) :
    Calls Try.prog 44 #[.pointer (some ⟨C, 0, none⟩), .pointer (some ⟨R, 0, none⟩), .agg #[.int .i64 5, .int .i64 p, .int .i64 m, .slice A bs.length ca, .int .u8 (l : Int)]] w fun e w' => e = .returned (.bool true) ∧ ActP w N base C R (n + 1) w' := by
  have hba : Below w.heap.size w (w.alloc (.cells #[.int .i64 5, .int .i64 p, .int .i64 m, .slice A bs.length ca, .int .u8 (l : Int)] 69)) := (Below.refl _ _).alloc (Nat.le_refl _) _
  have hX := heap_alloc_new w (.cells #[.int .i64 5, .int .i64 p, .int .i64 m, .slice A bs.length ca, .int .u8 (l : Int)] 69)
  obtain ⟨wa, hwa⟩ : ∃ wa, w.alloc (.cells #[.int .i64 5, .int .i64 p, .int .i64 m, .slice A bs.length ca, .int .u8 (l : Int)] 69) = wa := ⟨_, rfl⟩
  rw [hwa] at hba hX
  have q0 : wa.cell? ⟨w.heap.size, 0, none⟩ = some (.int .i64 5) := by rw [Lib.cell_of_heap hX]; rfl
  have hXs : w.heap.size < wa.heap.size := (Array.getElem?_eq_some_iff.1 hX).1
  have hbs : base ≤ wa.heap.size := Nat.le_trans hb hba.size
  have hp := h.below hba
  have hag := ha.below hba
  have HBA := Lib.hid hba
  have hd := below_drew1 (Below.refl wa.heap.size wa)
  have hXd : wa.drew.heap[w.heap.size]? = some (.cells #[.int .i64 5, .int .i64 p, .int .i64 m, .slice A bs.length ca, .int .u8 (l : Int)] 69 (0, 0)) := hX
  have hS0 : wa.drew.cell? ⟨w.heap.size, 2, none⟩ = some (.int .i64 m) := by rw [Lib.cell_of_heap (w := wa.drew) hXd]; rfl
  have C1 := Lib.hid (PG (hp.below hd) hbs m)
  have HG := Lib.hid g
  clear h hp hba ha hag g
  go_enter Try.func44, Try.ntmps44
  go_wp2_with fail
  clear hwa
  refine AnyL.start (fun w' => w'.cell? ⟨w.heap.size, 2, none⟩ = some (.int .i64 m)) 99 (by kernel_rfl) hS0 (fun hHeld => ?_)
  refine AnyL.take (i := 0) (v := ?vy0) rfl (by kernel_rfl) (by kernel_rfl) (by kernel_rfl) (by kernel_rfl) (fun _ _ _ h => h) (by assumption) (Or.inl ⟨by rfl, ?y0⟩) ?ry0
  case y0 => (intro w hSw; (try dsimp only at hSw); go_simp; try with_reducible rfl)
  try simp only [Act.put, List.setIfInBounds_toArray, List.set_cons_zero, List.set_cons_succ]
  refine AnyL.take (i := 1) (v := ?vy1) rfl (by kernel_rfl) (by kernel_rfl) (by kernel_rfl) (by kernel_rfl) (fun _ _ _ h => h) (by assumption) (Or.inl ⟨by rfl, ?y1⟩) ?ry1
  case y1 => (intro w hSw; (try dsimp only at hSw); go_simp; try with_reducible rfl)
  try simp only [Act.put, List.setIfInBounds_toArray, List.set_cons_zero, List.set_cons_succ]
  refine AnyL.take (i := 2) (v := ?vy2) rfl (by kernel_rfl) (by kernel_rfl) (by kernel_rfl) (by kernel_rfl) (fun _ _ _ h => h) (by assumption) (Or.inl ⟨by rfl, ?y2⟩) ?ry2
  case y2 => (intro w hSw; (try dsimp only at hSw); go_simp; try with_reducible rfl)
  try simp only [Act.put, List.setIfInBounds_toArray, List.set_cons_zero, List.set_cons_succ]
  refine AnyL.take (i := 4) (v := ?vy4) rfl (by kernel_rfl) (by kernel_rfl) (by kernel_rfl) (by kernel_rfl) (fun _ _ _ h => h) (by assumption) (Or.inl ⟨by rfl, ?y4⟩) ?ry4
  case y4 => (intro w hSw; (try dsimp only at hSw); go_simp; try with_reducible rfl)
  try simp only [Act.put, List.setIfInBounds_toArray, List.set_cons_zero, List.set_cons_succ]
  refine AnyL.take (i := 5) (v := ?vy5) rfl (by kernel_rfl) (by kernel_rfl) (by kernel_rfl) (by kernel_rfl) (fun _ _ _ h => h) (by assumption) (Or.inl ⟨by rfl, ?y5⟩) ?ry5
  case y5 => (intro w hSw; (try dsimp only at hSw); go_simp; try with_reducible rfl)
  try simp only [Act.put, List.setIfInBounds_toArray, List.set_cons_zero, List.set_cons_succ]
  refine AnyL.take (i := 6) (v := ?vy6) rfl (by kernel_rfl) (by kernel_rfl) (by kernel_rfl) (by kernel_rfl) (fun _ _ _ h => h) (by assumption) (Or.inl ⟨by rfl, ?y6⟩) ?ry6
  case y6 => (intro w hSw; (try dsimp only at hSw); go_simp; try with_reducible rfl)
  try simp only [Act.put, List.setIfInBounds_toArray, List.set_cons_zero, List.set_cons_succ]
  refine AnyL.one (i := 3) (by kernel_rfl) rfl (fun K hK => ?_)
  go_simp
  refine (C1.out).mono ?_
  rintro e w5 ⟨rfl, hm5⟩
  have hX5 : w5.heap[w.heap.size]? = some (.cells #[.int .i64 5, .int .i64 p, .int .i64 m, .slice A bs.length ca, .int .u8 (l : Int)] 69 (0, 0)) := hm5.2.2.1 _ _ _ _ hXd (by decide) (by decide) (by decide) (by decide) (by decide)
  have hS5 : w5.cell? ⟨w.heap.size, 2, none⟩ = some (.int .i64 m) := by rw [Lib.cell_of_heap (w := w5) hX5]; rfl
  refine hK.out _ _ (.inr hS5) ?_
  clear hHeld hK K
  have hHeld := hS5
  try simp only [Act.put, List.setIfInBounds_toArray, List.set_cons_zero, List.set_cons_succ]
  have hb5 : base ≤ w5.heap.size := Nat.le_trans hbs (Nat.le_trans hd.size hm5.2.1.size)
  have C2 := Lib.hid (PRG hm5.1 (HG.out.g m) hb5 m)
  refine AnyL.one (i := 7) (by kernel_rfl) rfl (fun K hK => ?_)
  go_simp
  refine (C2.out).mono ?_
  rintro e w7 ⟨rfl, hm7⟩
  have hX7 : w7.heap[w.heap.size]? = some (.cells #[.int .i64 5, .int .i64 p, .int .i64 m, .slice A bs.length ca, .int .u8 (l : Int)] 69 (0, 0)) := hm7.2.2.1 _ _ _ _ hX5 (by decide) (by decide) (by decide) (by decide) (by decide)
  have hS7 : w7.cell? ⟨w.heap.size, 2, none⟩ = some (.int .i64 m) := by rw [Lib.cell_of_heap (w := w7) hX7]; rfl
  refine hK.out _ _ (.inr hS7) ?_
  clear hHeld hK K
  have hHeld := hS7
  try simp only [Act.put, List.setIfInBounds_toArray, List.set_cons_zero, List.set_cons_succ]
  have HFIN : Hid (ActP w N base C R (n + 1) w7) := Lib.hid ⟨(stG s m).2, (HG.out.g m).mono (Nat.le_succ _), hm7.1, ((HBA.out.mono hb).trans (((below_drew1 (Below.refl base wa)).trans hm5.2.1).trans hm7.2.1))⟩
  clear C1 C2 hm5 hm7 hX5 hX7 hS5 hS0 hXd
  refine AnyL.take (i := 8) (v := ?vz8) rfl (by kernel_rfl) (by kernel_rfl) (by kernel_rfl) (by kernel_rfl) (fun _ _ _ h => h) (by assumption) (Or.inl ⟨by rfl, ?z8⟩) ?rz8
  case z8 => (intro w hSw; (try dsimp only at hSw); go_simp; try with_reducible rfl)
  try simp only [Act.put, List.setIfInBounds_toArray, List.set_cons_zero, List.set_cons_succ]
  refine AnyL.take (i := 9) (v := ?vz9) rfl (by kernel_rfl) (by kernel_rfl) (by kernel_rfl) (by kernel_rfl) (fun _ _ _ h => h) (by assumption) (Or.inl ⟨by rfl, ?z9⟩) ?rz9
  case z9 => (intro w hSw; (try dsimp only at hSw); go_simp; try with_reducible rfl)
  try simp only [Act.put, List.setIfInBounds_toArray, List.set_cons_zero, List.set_cons_succ]
  refine AnyL.done (by kernel_rfl) ?_ _
  clear hHeld hS7
  go_wp2_with fail
  go_ret
  exact ⟨rfl, HFIN.out⟩
set_option maxHeartbeats 16000000 in
set_option maxRecDepth 1000000 in
theorem act_settle (h : PX w N base C R s s) (g : Good s n) (hn : n < 1000000) (hb : base ≤ w.heap.size) (p m : Int) (A : Option Addr) (bs : List Int) (ca l : Nat) (ha : Arg w N base A ca bs) :
    Calls Try.prog 44 #[.pointer (some ⟨C, 0, none⟩), .pointer (some ⟨R, 0, none⟩), .agg #[.int .i64 3, .int .i64 p, .int .i64 m, .slice A bs.length ca, .int .u8 (l : Int)]] w fun e w' => e = .returned (.bool true) ∧ ActP w N base C R (n + 1) w' := by
  have hba : Below w.heap.size w (w.alloc (.cells #[.int .i64 3, .int .i64 p, .int .i64 m, .slice A bs.length ca, .int .u8 (l : Int)] 69)) := (Below.refl _ _).alloc (Nat.le_refl _) _
  have hX := heap_alloc_new w (.cells #[.int .i64 3, .int .i64 p, .int .i64 m, .slice A bs.length ca, .int .u8 (l : Int)] 69)
  obtain ⟨wa, hwa⟩ : ∃ wa, w.alloc (.cells #[.int .i64 3, .int .i64 p, .int .i64 m, .slice A bs.length ca, .int .u8 (l : Int)] 69) = wa := ⟨_, rfl⟩
  rw [hwa] at hba hX
  have q0 : wa.cell? ⟨w.heap.size, 0, none⟩ = some (.int .i64 3) := by rw [Lib.cell_of_heap hX]; rfl
  have hXs : w.heap.size < wa.heap.size := (Array.getElem?_eq_some_iff.1 hX).1
  have hbs : base ≤ wa.heap.size := Nat.le_trans hb hba.size
  have hp := h.below hba
  have hag := ha.below hba
  have HBA := Lib.hid hba
  have hfl : (stFi s).2.1.length ≤ 1000000000 := by
    cases ho : s.os with
    | nil => unfold stFi; rw [ho]; exact Nat.zero_le _
    | cons x t =>
      unfold stFi
      rw [ho]
      have hx := g.wi x (by rw [ho]; exact List.mem_cons_self)
      have ex : en x = x.1 + x.2.length := rfl
      have := g.small
      show x.2.length ≤ 1000000000
      omega
  have C1 := Lib.hid (PFi hp g)
  have HG := Lib.hid g
  have HP := Lib.hid hp
  have hpr := fun W (hW : Below wa.heap.size wa W) => PRFi (hp.below hW)
  have HPR := Lib.hid hpr
  obtain ⟨fa, hfa⟩ : ∃ a, (stFi s).1 = a := ⟨_, rfl⟩
  obtain ⟨fb, hfb⟩ : ∃ a, (stFi s).2.1 = a := ⟨_, rfl⟩
  obtain ⟨fc, hfc⟩ : ∃ a, (stFi s).2.2 = a := ⟨_, rfl⟩
  rw [hfa, hfb, hfc] at C1
  rw [hfa, hfb, hfc] at HPR
  rw [hfb] at hfl
  clear h hp hba ha hag g hfa hfb hfc hpr q0
  have q0 : wa.cell? ⟨w.heap.size, 0, none⟩ = some (.int .i64 3) := by rw [Lib.cell_of_heap hX]; rfl
  go_enter Try.func44, Try.ntmps44
  go_wp2_with fail
  refine (C1.out).mono ?_
  rintro e w5 ⟨A5, c5, rfl, ha5⟩
  have C2 := Lib.hid (HPR.out w5 ha5.2.2.2)
  have HA5 := Lib.hid ha5
  clear ha5 C1 hwa hX q0
  go_wp2_with fail
  refine (C2.out).mono ?_
  rintro e w6 ⟨A6, c6, rfl, ha6, hb6⟩
  have C3 := Lib.hid (Same_eq A5 A6 c5 c6 fb w6 (HA5.out.1.ba.keep hb6) ha6 (Nat.le_trans hfl (by decide)))
  have HB6 := Lib.hid (HA5.out.2.2.2.trans (hb6.mono HA5.out.2.2.2.size))
  clear ha6 hb6 C2
  go_wp2_with fail
  refine (C3.out).mono ?_
  rintro e w7 ⟨rfl, hb7⟩
  have hb77 := HB6.out.trans (hb7.mono HB6.out.size)
  have C4 := Lib.hid (PS (HP.out.below hb77) (Nat.le_trans hbs hb77.size))
  have HB7 := Lib.hid hb77
  clear hb7 hb77 C3
  go_wp2_with fail
  refine (C4.out).mono ?_
  rintro e w8 ⟨rfl, hm8⟩
  have C5 := Lib.hid (PRS hm8.1 HG.out.s HG.out (Nat.le_trans hbs (Nat.le_trans HB7.out.size hm8.2.1.size)))
  have HM8 := Lib.hid hm8
  clear hm8 C4
  go_wp2_with fail
  refine (C5.out).mono ?_
  rintro e w9 ⟨rfl, hm9⟩
  have HFIN : Hid (ActP w N base C R (n + 1) w9) := Lib.hid ⟨(stS s).2, HG.out.s.mono (Nat.le_succ _), hm9.1, (HBA.out.mono hb).trans (((HB7.out.mono hbs).trans HM8.out.2.1).trans hm9.2.1)⟩
  clear hm9 HM8 C5 HB7 HB6 HP HPR HA5
  go_wp2_with fail
  go_ret
  exact ⟨rfl, HFIN.out⟩
set_option maxHeartbeats 16000000 in
set_option maxRecDepth 1000000 in
theorem act_read (h : PX w N base C R s s) (g : Good s n) (hn : n < 1000000) (hb : base ≤ w.heap.size) (p m : Int) (A : Option Addr) (bs : List Int) (ca l : Nat) (ha : Arg w N base A ca bs) :
    Calls Try.prog 44 #[.pointer (some ⟨C, 0, none⟩), .pointer (some ⟨R, 0, none⟩), .agg #[.int .i64 6, .int .i64 p, .int .i64 m, .slice A bs.length ca, .int .u8 (l : Int)]] w fun e w' => e = .returned (.bool true) ∧ ActP w N base C R (n + 1) w' := by
  have hba : Below w.heap.size w (w.alloc (.cells #[.int .i64 6, .int .i64 p, .int .i64 m, .slice A bs.length ca, .int .u8 (l : Int)] 69)) := (Below.refl _ _).alloc (Nat.le_refl _) _
  have hX := heap_alloc_new w (.cells #[.int .i64 6, .int .i64 p, .int .i64 m, .slice A bs.length ca, .int .u8 (l : Int)] 69)
  obtain ⟨wa, hwa⟩ : ∃ wa, w.alloc (.cells #[.int .i64 6, .int .i64 p, .int .i64 m, .slice A bs.length ca, .int .u8 (l : Int)] 69) = wa := ⟨_, rfl⟩
  rw [hwa] at hba hX
  have q0 : wa.cell? ⟨w.heap.size, 0, none⟩ = some (.int .i64 6) := by rw [Lib.cell_of_heap hX]; rfl
  have hXs : w.heap.size < wa.heap.size := (Array.getElem?_eq_some_iff.1 hX).1
  have hbs : base ≤ wa.heap.size := Nat.le_trans hb hba.size
  have hp := h.below hba
  have hag := ha.below hba
  have HBA := Lib.hid hba
  have q1 : wa.cell? ⟨w.heap.size, 1, none⟩ = some (.int .i64 p) := by rw [Lib.cell_of_heap hX]; rfl
  have q2 : wa.cell? ⟨w.heap.size, 2, none⟩ = some (.int .i64 m) := by rw [Lib.cell_of_heap hX]; rfl
  have hfl : (stB s p m).length ≤ 1000000000 := by
    have := rdB_length s.lvl s.size s.xs p m g.small
    show (rdB s.lvl s.size s.xs p m).length ≤ 1000000000
    omega
  have C1 := Lib.hid (PR_ hp g p m)
  have HG := Lib.hid g
  have HP := Lib.hid hp
  have hpr := fun W (hW : Below wa.heap.size wa W) => PRR (hp.below hW) g p m
  have HPR := Lib.hid hpr
  obtain ⟨fb, hfb⟩ : ∃ a, stB s p m = a := ⟨_, rfl⟩
  obtain ⟨fc, hfc⟩ : ∃ a, stOk s p m = a := ⟨_, rfl⟩
  rw [hfb, hfc] at C1
  rw [hfb, hfc] at HPR
  rw [hfb] at hfl
  clear h hp hba ha hag g hfb hfc hpr
  go_enter Try.func44, Try.ntmps44
  go_wp2_with fail
  refine (C1.out).mono ?_
  rintro e w5 ⟨A5, c5, rfl, ha5⟩
  have C2 := Lib.hid (HPR.out w5 ha5.2.2.2)
  have q3 := (ha5.2.2.2.cell (p := ⟨w.heap.size, 1, none⟩) hXs).trans q1
  have q4 := (ha5.2.2.2.cell (p := ⟨w.heap.size, 2, none⟩) hXs).trans q2
  have HA5 := Lib.hid ha5
  clear ha5 C1 hwa hX q0 q1 q2
  go_wp2_with fail
  refine (C2.out).mono ?_
  rintro e w6 ⟨A6, c6, rfl, ha6, hb6⟩
  have C3 := Lib.hid (Same_eq A5 A6 c5 c6 fb w6 (HA5.out.1.ba.keep hb6) ha6 (Nat.le_trans hfl (by decide)))
  have HB6 := Lib.hid (HA5.out.2.2.2.trans (hb6.mono HA5.out.2.2.2.size))
  clear ha6 hb6 C2 q3 q4
  go_wp2_with fail
  refine (C3.out).mono ?_
  rintro e w7 ⟨rfl, hb7⟩
  have hb77 := HB6.out.trans (hb7.mono HB6.out.size)
  have HFIN : Hid (ActP w N base C R (n + 1) w7) := Lib.hid ⟨s, HG.out.mono (Nat.le_succ _), HP.out.below hb77, (HBA.out.mono hb).trans (hb77.mono hbs)⟩
  clear hb7 hb77 C3 HB6 HP HPR HA5
  go_wp2_with fail
  go_ret
  exact ⟨rfl, HFIN.out⟩
set_option maxHeartbeats 4000000 in
theorem act_none (h : PX w N base C R s s) (g : Good s n) (hb : base ≤ w.heap.size) (d p m : Int) (A : Option Addr) (bs : List Int) (ca l : Nat) (h1 : d ≠ 1) (h2 : d ≠ 2) (h3 : d ≠ 3) (h4 : d ≠ 4) (h5 : d ≠ 5) (h6 : d ≠ 6) :
    Calls Try.prog 44 #[.pointer (some ⟨C, 0, none⟩), .pointer (some ⟨R, 0, none⟩), .agg #[.int .i64 d, .int .i64 p, .int .i64 m, .slice A bs.length ca, .int .u8 (l : Int)]] w fun e w' => e = .returned (.bool true) ∧ ActP w N base C R (n + 1) w' := by
  have d1 : (d == 1) = false := by simpa using h1
  have d2 : (d == 2) = false := by simpa using h2
  have d3 : (d == 3) = false := by simpa using h3
  have d4 : (d == 4) = false := by simpa using h4
  have d5 : (d == 5) = false := by simpa using h5
  have d6 : (d == 6) = false := by simpa using h6
  have hba : Below w.heap.size w (w.alloc (.cells #[.int .i64 d, .int .i64 p, .int .i64 m, .slice A bs.length ca, .int .u8 (l : Int)] 69)) := (Below.refl _ _).alloc (Nat.le_refl _) _
  have HFIN : Hid (ActP w N base C R (n + 1) (w.alloc (.cells #[.int .i64 d, .int .i64 p, .int .i64 m, .slice A bs.length ca, .int .u8 (l : Int)] 69))) := Lib.hid ⟨s, g.mono (Nat.le_succ _), h.below hba, hba.mono hb⟩
  clear h hba g
  go_enter Try.func44, Try.ntmps44
  go_wp2_with fail
  go_ret
  exact ⟨rfl, HFIN.out⟩
theorem act_calls (h : ∃ s, Good s n ∧ PX w N base C R s s) (hn : n < 1000000) (hb : base ≤ w.heap.size) (d p m : Int) (A : Option Addr) (bs : List Int) (ca l : Nat) (ha : Arg w N base A ca bs) :
    Calls Try.prog 44 #[.pointer (some ⟨C, 0, none⟩), .pointer (some ⟨R, 0, none⟩), .agg #[.int .i64 d, .int .i64 p, .int .i64 m, .slice A bs.length ca, .int .u8 (l : Int)]] w fun e w' => e = .returned (.bool true) ∧ ActP w N base C R (n + 1) w' := by
  obtain ⟨s, g, h⟩ := h
  by_cases h1 : d = 1
  · subst h1; exact act_write h g hn hb p m A bs ca l ha
  · by_cases h2 : d = 2
    · subst h2; exact act_fill h g hn hb p m A bs ca l ha
    · by_cases h3 : d = 3
      · subst h3; exact act_settle h g hn hb p m A bs ca l ha
      · by_cases h4 : d = 4
        · subst h4; exact act_down h g hn hb p m A bs ca l ha
        · by_cases h5 : d = 5
          · subst h5; exact act_forget h g hn hb p m A bs ca l ha
          · by_cases h6 : d = 6
            · subst h6; exact act_read h g hn hb p m A bs ca l ha
            · exact act_none h g hb d p m A bs ca l h1 h2 h3 h4 h5 h6
end Go.Proofs.Ytbnkiefchbcfgaa.U
