/- The law ExtentCopy: a copy stands as it does, and goes its own way. -/
import Derived.Test.YtjochldpacgcgaaLeback
set_option linter.unusedVariables false
set_option linter.unusedSimpArgs false
namespace Go.Proofs.Ytjochldpacgcgaa.U
open Go.RowKit Go.Proofs Go.Lib Go.Proofs.YtjochldpacgcgaaW.PrintWords

/-- A row of pieces stands when a file is written. -/
theorem NewX.fr {w w' : World} {N : Nat → Prop} {base D size c : Nat} {v : Value} {xs ys : List Ext} {lA : Option Addr} (h : NewX w base v ys) (hd : DataAt w N D size xs lA c) (hf : Fr w w' D lA) (hL : ∀ k, v.ownBlock = some k → ∀ L, lA = some ⟨L, 0, none⟩ → k ≠ L) : NewX w' base v ys := by
  obtain ⟨l, h1, h2, h3, h4⟩ := h
  refine ⟨l, ⟨h1.1, ?_⟩, h2.kept fun g cs fz hh => ?_, h3, h4⟩
  · rcases h1.2 with h5 | ⟨L, c', sp, rfl, hh, hnc, hc⟩
    · exact .inl h5
    · refine .inr ⟨L, c', sp, rfl, ?_, hnc, hc⟩
      rw [hf.block L (Array.getElem?_eq_some_iff.1 hh).1 (ne_block hh hd.1 (by decide)) (hL L rfl)]
      exact hh
  · rw [hf.block g (Array.getElem?_eq_some_iff.1 hh).1 (ne_block hh hd.1 (by decide)) (fun L e => ?_)]
    · exact hh
    · rcases hd.2 with ⟨h5, _⟩ | ⟨L', cs', h5, hL', _⟩
      · rw [h5] at e; cases e
      · rw [h5] at e
        injection e with e
        injection e with e
        subst e
        exact ne_block hh hL' (by decide)
/-- A file stands when another one is written. -/
theorem DataAt.other {w w' : World} {N N2 : Nat → Prop} {D size c D2 size2 c2 : Nat} {xs ys : List Ext} {lA lA2 : Option Addr} (h : DataAt w N2 D2 size2 ys lA2 c2) (hd : DataAt w N D size xs lA c) (hf : Fr w w' D lA) (hD : D2 ≠ D) (hL : ∀ L2, lA2 = some ⟨L2, 0, none⟩ → ∀ L, lA = some ⟨L, 0, none⟩ → L2 ≠ L) : DataAt w' N2 D2 size2 ys lA2 c2 := by
  have hk : ∀ (t : TypeId) (k : Nat) (cs : Array Value) (fz : Nat × Nat), w.heap[k]? = some (.cells cs t fz) → k ≠ D → (∀ L, lA = some ⟨L, 0, none⟩ → k ≠ L) → w'.heap[k]? = some (.cells cs t fz) := fun t k cs fz hh h1 h2 => by
    rw [hf.block k (Array.getElem?_eq_some_iff.1 hh).1 h1 h2]
    exact hh
  have hu : ∀ (g : Nat) (cs : Array Value) (fz : Nat × Nat), w.heap[g]? = some (Obj.cells cs 5 fz) → w'.heap[g]? = some (Obj.cells cs 5 fz) := fun g cs fz hh => hk _ _ _ _ hh (ne_block hh hd.1 (by decide)) (fun L e => by
    rcases hd.2 with ⟨h5, _⟩ | ⟨L', cs', h5, hL', _⟩
    · rw [h5] at e; cases e
    · rw [h5] at e
      injection e with e
      injection e with e
      subst e
      exact ne_block hh hL' (by decide))
  refine ⟨hk _ _ _ _ h.1 hD (fun L e => ?_), ?_⟩
  · rcases hd.2 with ⟨h5, _⟩ | ⟨L', cs', h5, hL', _⟩
    · rw [h5] at e; cases e
    · rw [h5] at e
      injection e with e
      injection e with e
      subst e
      exact ne_block h.1 hL' (by decide)
  · rcases h.2 with h1 | ⟨L2, cs, e, hL2, hs, hc, he⟩
    · exact .inl h1
    · exact .inr ⟨L2, cs, e, hk _ _ _ _ hL2 (ne_block hL2 hd.1 (by decide)) (hL L2 e), hs, hc, he.kept hu⟩
theorem same_ok {xs : List Ext} {size : Nat} (hok : Ok 0 xs) (ht : ∀ x ∈ xs, en x ≤ size) (hs : size ≤ 65536) : xs.length ≤ 1000000000 ∧ ∀ x ∈ xs, x.2.length ≤ 1000000000 := by
  have := ok_len' hok ht
  refine ⟨by omega, fun x hx => ?_⟩
  have h1 := ht x hx
  have e : en x = x.1 + x.2.length := rfl
  omega
set_option maxHeartbeats 16000000 in
set_option maxRecDepth 1000000 in
theorem ExtentCopy_walk (A : Option Addr) (c : Nat) (l : List ActV) (p : Int) (Ab : Option Addr) (cb : Nat) (bs : List Int) (w : World) (h : AR w A l) (hl : l.length ≤ 140737488351232 ∧ ∀ a ∈ l, a.bs.length ≤ 140737488351232) (hb : BA w Ab cb bs) :
    Calls Try.prog 9 #[.slice A l.length c, .int .i64 p, .slice Ab bs.length cb] w fun e w' => e = .returned (.bool true) ∧ Below w.heap.size w w' := by
  have C1 := Lib.hid (played_calls A c l w h (by omega) (fun a ha => by have := hl.2 a ha; omega))
  have HBA := Lib.hid hb
  clear h hl hb
  go_enter Try.func9, Try.ntmps9
  go_wp2_with fail
  refine (C1.out).mono ?_
  rintro e w1 ⟨D, R, rfl, ⟨size, xs, lA, cl, B, Z, vB, vZ, ht⟩, hb1⟩
  have HO := Lib.hid ht.one
  have HB1 := Lib.hid hb1
  have HSM := Lib.hid (same_ok ht.rel.ok ht.rel.top ht.small)
  have hDw := ht.ne.1
  have hLw := ht.ne.2.2.1
  have hbD := ht.bD
  have hbL := ht.bL
  have C2 := Lib.hid (Copy_calls D size xs lA cl w1 ht.d ht.rel.ok ht.rel.top ht.small)
  clear ht hb1 C1
  -- the copy
  go_wp2_with fail
  refine (C2.out).mono ?_
  rintro e w2 ⟨D2, lA2, cl2, rfl, hd2, hD2, hL2, hb2⟩
  have ho2 : One w2 (fun k => k < w1.heap.size) D2 size xs lA2 cl2 := ⟨hd2, HO.out.ok, HO.out.top, HO.out.small, fun k hk => Nat.lt_of_lt_of_le hk hb2.size⟩
  have HC2 := Lib.hid ho2
  have HB2 := Lib.hid hb2
  have hD2w : D2 < w2.heap.size := hd2.cells.2.2.2
  have hL2w : ∀ L, lA2 = some ⟨L, 0, none⟩ → L < w2.heap.size := fun L e => (hd2.lA_lt L e).1
  have hod := HO.out.below hb2
  have C3 := Lib.hid (Extents_calls D size xs lA cl w2 hod.d hod.ok hod.top hod.small)
  clear hd2 hb2 ho2 hod C2
  go_wp2_with fail
  refine (C3.out).mono ?_
  rintro e w3 ⟨v3, rfl, hx3, hb3⟩
  have HX3 := Lib.hid hx3
  have HB13 := Lib.hid (HB2.out.trans (hb3.mono HB2.out.size))
  have HC3 := Lib.hid (HC2.out.below hb3)
  have hw23 := hb3.size
  obtain ⟨A3, c3, rfl⟩ := hx3.length
  have C4 := Lib.hid (Size_calls D size xs lA cl w3 (HO.out.below HB13.out).d)
  clear hx3 hb3 C3
  go_wp2_with fail
  refine (C4.out).mono ?_
  rintro e w3 ⟨rfl, rfl⟩
  have C5 := Lib.hid (Extents_calls D2 size xs lA2 cl2 w3 HC3.out.d HC3.out.ok HC3.out.top HC3.out.small)
  clear C4
  go_wp2_with fail
  refine (C5.out).mono ?_
  rintro e w4 ⟨v4, rfl, hx4, hb4⟩
  obtain ⟨A4, c4, rfl⟩ := hx4.length
  have HX34 := Lib.hid (HX3.out.below hb4)
  have HC4 := Lib.hid (HC3.out.below hb4)
  have HB14 := Lib.hid (HB13.out.trans (hb4.mono HB13.out.size))
  have hw34 := hb4.size
  have C6 := Lib.hid (Ext_same _ _ _ _ xs w4 hx4 HX34.out HSM.out.1 HSM.out.2)
  clear hx4 hb4 C5
  go_wp2_with fail
  refine (C6.out).mono ?_
  rintro e w5 ⟨rfl, hb5⟩
  have HX5 := Lib.hid (HX34.out.below hb5)
  have HC5 := Lib.hid (HC4.out.below hb5)
  have HB15 := Lib.hid (HB14.out.trans (hb5.mono HB14.out.size))
  have hw45 := hb5.size
  have C7 := Lib.hid (Size_calls D2 size xs lA2 cl2 w5 HC5.out.d)
  clear hb5 C6
  go_wp2_with fail
  refine (C7.out).mono ?_
  rintro e w5 ⟨rfl, rfl⟩
  have C8 := Lib.hid (TW HC5.out p Ab bs cb (HBA.out.keep (HB1.out.trans (HB15.out.mono HB1.out.size))))
  clear C7
  -- the copy is written, and cut
  go_wp2_with fail
  refine (C8.out).mono ?_
  rintro e w6 ⟨code, size6, xs6, lA6, cl6, rfl, ho6, hf6, hs6, _⟩
  have hX3w : ∀ k, (Value.slice A3 xs.length c3).ownBlock = some k → k < w3.heap.size := fun k hk => by
    obtain ⟨lx, h1, _⟩ := HX3.out
    rcases h1.2 with ⟨h2, _⟩ | ⟨L, c', sp, h2, hh, _⟩
    · rw [h2] at hk; cases hk
    · rw [h2] at hk
      simp only [Value.ownBlock, Option.some.injEq] at hk
      subst hk
      exact (Array.getElem?_eq_some_iff.1 hh).1
  have hX3b : ∀ k, (Value.slice A3 xs.length c3).ownBlock = some k → w2.heap.size ≤ k := fun k hk => by
    obtain ⟨_, _, _, h3, _⟩ := HX3.out
    exact h3 k hk
  have HX6 := Lib.hid (HX5.out.fr HC5.out.d hf6 (fun k hk L e => by have := hX3b k hk; have := hL2w L e; omega))
  have HB16 := Lib.hid (hf6.below HB15.out (Nat.le_refl _) hD2 hL2)
  have hL6 : ∀ L, lA6 = some ⟨L, 0, none⟩ → w1.heap.size ≤ L ∧ (L < w2.heap.size ∨ w5.heap.size ≤ L) := fun L e => by
    rcases hs6 L e with h1 | h1
    · exact ⟨hL2 L h1, .inl (hL2w L h1)⟩
    · exact ⟨by have := HB15.out.size; omega, .inr h1⟩
  have HO6 := Lib.hid ho6
  have C9 := Lib.hid (TC ho6 1)
  clear ho6 hf6 hs6 C8
  go_wp2_with fail
  refine (C9.out).mono ?_
  rintro e w7 ⟨code7, size7, xs7, cl7, rfl, ho7, hf7, _⟩
  have HX7 := Lib.hid (HX6.out.fr HO6.out.d hf7 (fun k hk L e => by
    have h1 := hX3b k hk
    have h2 := hX3w k hk
    rcases (hL6 L e).2 with h3 | h3
    · omega
    · omega))
  have HB17 := Lib.hid (hf7.below HB16.out (Nat.le_refl _) hD2 (fun L e => (hL6 L e).1))
  have hod := HO.out.below HB17.out
  have C10 := Lib.hid (Extents_calls D size xs lA cl w7 hod.d hod.ok hod.top hod.small)
  clear hod ho7 hf7 C9
  go_wp2_with fail
  refine (C10.out).mono ?_
  rintro e w8 ⟨v8, rfl, hx8, hb8⟩
  obtain ⟨A8, c8, rfl⟩ := hx8.length
  have HX8 := Lib.hid (HX7.out.below hb8)
  have HB18 := Lib.hid (HB17.out.trans (hb8.mono HB17.out.size))
  have C11 := Lib.hid (Ext_same _ _ _ _ xs w8 hx8 HX8.out HSM.out.1 HSM.out.2)
  clear hx8 hb8 C10
  go_wp2_with fail
  refine (C11.out).mono ?_
  rintro e w9 ⟨rfl, hb9⟩
  have HX9 := Lib.hid (HX8.out.below hb9)
  have HB19 := Lib.hid (HB18.out.trans (hb9.mono HB18.out.size))
  have hod := HO.out.below HB19.out
  have C12 := Lib.hid (Size_calls D size xs lA cl w9 hod.d)
  have C13 := Lib.hid (Copy_calls D size xs lA cl w9 hod.d hod.ok hod.top hod.small)
  clear hod hb9 C11
  go_wp2_with fail
  refine (C12.out).mono ?_
  rintro e w9 ⟨rfl, rfl⟩
  go_wp2_with fail
  refine (C13.out).mono ?_
  rintro e w10 ⟨D3, lA3, cl3, rfl, hd10, hD3, hL3, hb10⟩
  have HX10 := Lib.hid (HX9.out.below hb10)
  have HB110 := Lib.hid (HB19.out.trans (hb10.mono HB19.out.size))
  have hod := HO.out.below HB110.out
  have HOD := Lib.hid hod
  have HD10 := Lib.hid hd10
  have C14 := Lib.hid (TC hod 0)
  have h19 := HB19.out.size
  clear hod hd10 hb10 C12 C13
  go_wp2_with fail
  refine (C14.out).mono ?_
  rintro e w11 ⟨code11, size11, xs11, cl11, rfl, ho11, hf11, _⟩
  have hy11 := HD10.out.other HOD.out.d hf11 (by omega) (fun L2 e2 L e => by have h1 := hL3 L2 e2; have h2 := hLw L e; omega)
  have HX11 := Lib.hid (HX10.out.fr HOD.out.d hf11 (fun k hk L e => by have h1 := hX3b k hk; have h2 := hLw L e; have h3 := HB2.out.size; omega))
  have HBW := Lib.hid (hf11.below (HB1.out.trans (HB110.out.mono HB1.out.size)) (Nat.le_refl _) hbD hbL)
  have C15 := Lib.hid (Extents_calls D3 size xs lA3 cl3 w11 hy11 HO.out.ok HO.out.top HO.out.small)
  clear hy11 ho11 hf11 C14
  go_wp2_with fail
  refine (C15.out).mono ?_
  rintro e w12 ⟨v12, rfl, hx12, hb12⟩
  obtain ⟨A12, c12, rfl⟩ := hx12.length
  have HBW12 := Lib.hid (HBW.out.trans (hb12.mono HBW.out.size))
  have C16 := Lib.hid (Ext_same _ _ _ _ xs w12 hx12 (HX11.out.below hb12) HSM.out.1 HSM.out.2)
  clear hx12 hb12 C15
  go_wp2_with fail
  refine (C16.out).mono ?_
  rintro e w13 ⟨rfl, hb13⟩
  have HBW13 := Lib.hid (HBW12.out.trans (hb13.mono HBW12.out.size))
  clear hb13 C16
  go_wp2_with fail
  refine (works_calls _).mono ?_
  rintro e w14 ⟨rfl, hb14⟩
  go_wp2
  go_ret
  exact ⟨rfl, HBW13.out.trans (hb14.mono HBW13.out.size)⟩
end Go.Proofs.Ytjochldpacgcgaa.U
