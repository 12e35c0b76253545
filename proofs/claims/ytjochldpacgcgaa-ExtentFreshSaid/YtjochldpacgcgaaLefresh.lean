/- The law ExtentFresh: what is handed in stays; what is answered is new memory. -/
import Derived.Test.YtjochldpacgcgaaEplayed
import Derived.Test.YtjochldpacgcgaaEown
set_option linter.unusedVariables false
set_option linter.unusedSimpArgs false
namespace Go.Proofs.Ytjochldpacgcgaa.U
open Go.RowKit Go.Proofs Go.Lib Go.Proofs.YtjochldpacgcgaaW.PrintWords

/-- The pieces' bytes lie below what is new. -/
theorem DataAt.far {w : World} {N : Nat → Prop} {D size : Nat} {xs : List Ext} {lA : Option Addr} {c : Nat} (h : DataAt w N D size xs lA c) (hok : Ok 0 xs) : DataAt w (fun k => k = w.heap.size) D size xs lA c := by
  refine ⟨h.1, ?_⟩
  rcases h.2 with h1 | ⟨L, cs, e, hL, hs, hc, he⟩
  · exact .inl h1
  · refine .inr ⟨L, cs, e, hL, hs, hc, fun j x hj => ?_⟩
    obtain ⟨A, c', q1, q2, q3, _⟩ := he j x hj
    obtain ⟨g, o, ks, fz, rfl, hg, hcc⟩ := q3.2 (hok.mem x (List.mem_of_getElem? hj)).2
    refine ⟨_, c', q1, q2, q3, fun g' o' e hg' => ?_⟩
    injection e with e
    injection e with e
    subst e
    have := (Array.getElem?_eq_some_iff.1 hg).1
    omega
/-- A file stands when a row of bytes that is not its own is written over. -/
theorem DataAt.spoil {w w' : World} {V D size : Nat} {xs : List Ext} {lA : Option Addr} {c : Nat} {ds : Array Value} {fz : Nat × Nat} (h : DataAt w (fun k => k = V) D size xs lA c) (hok : Ok 0 xs) (hV : w.heap[V]? = some (.cells ds 5 fz)) (hg : w.grownBy w' (some V)) : DataAt w' (fun k => k = V) D size xs lA c := by
  have hk : ∀ (k : Nat) (ob : Obj), w.heap[k]? = some ob → k ≠ V → w'.heap[k]? = some ob := fun k ob hh hne => by
    rw [hg.block k (Array.getElem?_eq_some_iff.1 hh).1 (fun e => hne (by injection e))]
    exact hh
  refine ⟨hk _ _ h.1 (Ne.symm (ne_block hV h.1 (by decide))), ?_⟩
  rcases h.2 with h1 | ⟨L, cs, e, hL, hs, hc, he⟩
  · exact .inl h1
  · refine .inr ⟨L, cs, e, hk _ _ hL (Ne.symm (ne_block hV hL (by decide))), hs, hc, fun j x hj => ?_⟩
    obtain ⟨A, c', q1, q2, q3, q4⟩ := he j x hj
    obtain ⟨g, o, ks, fz, rfl, hg2, hcc⟩ := q3.2 (hok.mem x (List.mem_of_getElem? hj)).2
    exact ⟨_, c', q1, q2, ⟨q3.1, fun _ => ⟨g, o, ks, fz, rfl, hk _ _ hg2 (q4 g o rfl), hcc⟩⟩, q4⟩
theorem BA.grown {w w' : World} {A : Option Addr} {c : Nat} {bs : List Int} {row : Option Nat} (h : BA w A c bs) (hg : w.grownBy w' row) (hne : ∀ g o, A = some ⟨g, o, none⟩ → row ≠ some g) : BA w' A c bs := by
  refine ⟨h.1, fun h0 => ?_⟩
  obtain ⟨g, o, rfl, hlt, hc⟩ := h.2 h0
  refine ⟨g, o, rfl, Nat.lt_of_lt_of_le hlt hg.size, fun j u hj => ?_⟩
  rw [← hc j u hj, Addr.add_lit]
  exact World.cell?_of_block (a := ⟨g, o + j, none⟩) (hg.block g hlt (fun e => hne g o rfl e.symm))
section
variable {w : World} {D size : Nat} {xs : List Ext} {lA : Option Addr} {c : Nat} {N : Nat → Prop}
theorem TRx (h : One w N D size xs lA c) (p n : Int) (hn : n ≤ 9223372036854775807) :
    Calls Try.prog 13 #[.pointer (some ⟨D, 0, none⟩), .int .i64 p, .int .i64 n] w fun e w' => ∃ code A ca bs, e = .returned (.tuple #[.slice A bs.length ca, .int .i64 code]) ∧ BA w' A ca bs ∧ Ow w' w.heap.size A bs.length ca ∧ Below w.heap.size w w' ∧ ROut size p n code bs (bytesAt xs) := by
  rcases RBad.or size p n with ⟨code, hb⟩ | ⟨h1, h2, h3⟩
  · refine (Read_bad D size p n code w h.d.cells.1 h.d.cells.2.1 hb).mono ?_
    rintro e w' ⟨rfl, rfl⟩
    exact ⟨code, none, 0, [], rfl, ⟨Nat.le_refl _, fun h => (by cases h)⟩, .inl ⟨rfl, rfl, rfl⟩, Below.refl _ _, .inl ⟨hb, rfl⟩⟩
  · obtain ⟨k, rfl⟩ : ∃ k : Nat, p = (k : Int) := ⟨p.toNat, by omega⟩
    obtain ⟨m, hm⟩ : ∃ m : Nat, (m : Int) = min n ((size : Int) - (k : Int)) := ⟨(min n ((size : Int) - (k : Int))).toNat, by omega⟩
    have hl := ok_len' h.ok h.top
    have hsm := h.small
    refine (Read_calls D size k m n xs lA c w h.d h.ok (by omega) h.top (by omega) (by omega) h2 hn hm).mono ?_
    rintro e w' ⟨O, rfl, hO, hrow, hb⟩
    refine ⟨0, some ⟨O, 0, none⟩, m, bytesAt xs k m, by rw [bytesAt_length], ?_, .inr ⟨O, _, rfl, hO, hrow, bytesAt_length _ _ _, by rw [bytesAt_length]; exact Nat.le_refl _, by omega⟩, hb, .inr ⟨h1, h2, h3, rfl, m, hm, rfl⟩⟩
    have := BR_row hrow
    rw [bytesAt_length] at this
    exact this.ba
end
/-- What may be written over: the bytes of the pieces that were answered. -/
def Spo (w : World) (base : Nat) (A : Option Addr) (xs : List Ext) : Prop :=
  ∀ (j : Nat) (x : Ext), xs[j]? = some x → ∃ L cs g ds ca, A = some ⟨L, 0, none⟩ ∧ w.heap[L]? = some (.cells cs 41 (0, 0)) ∧ cs[j * 2 + 1]? = some (.slice (some ⟨g, 0, none⟩) x.2.length ca) ∧ base ≤ g ∧ w.heap[g]? = some (.cells (nums .u8 ds).toArray 5 (0, 0)) ∧ ds.length = ca ∧ x.2.length ≤ ca ∧ ca ≤ 9223372036854775807
theorem Spo.next {w w' : World} {base g0 ca : Nat} {A : Option Addr} {xs : List Ext} {ds ds' : List Int} (h : Spo w base A xs) (h0 : w.heap[g0]? = some (.cells (nums .u8 ds).toArray 5 (0, 0))) (hl : ds.length = ca) (hg : w.grownBy w' (some g0)) (h1 : w'.heap[g0]? = some (.cells (nums .u8 ds').toArray 5 (0, 0))) (hl' : ds'.length = ca) : Spo w' base A xs := by
  have hk : ∀ (k : Nat) (ob : Obj), w.heap[k]? = some ob → k ≠ g0 → w'.heap[k]? = some ob := fun k ob hh hne => by
    rw [hg.block k (Array.getElem?_eq_some_iff.1 hh).1 (fun e => hne (by injection e))]
    exact hh
  intro j x hj
  obtain ⟨L, cs, g, ks, cb, e, hL, hc, hb, hgb, hlen, hnc, hm⟩ := h j x hj
  have hLg := hk _ _ hL (Ne.symm (ne_block h0 hL (by decide)))
  by_cases hgg : g = g0
  · subst hgg
    rw [h0] at hgb
    injection hgb with hgb
    injection hgb with hgb _ _
    have : ds.length = ks.length := by
      have := congrArg Array.size hgb
      simpa [nums] using this
    exact ⟨L, cs, g, ds', cb, e, hLg, hc, hb, h1, by omega, hnc, hm⟩
  · exact ⟨L, cs, g, ks, cb, e, hLg, hc, hb, hk _ _ hgb hgg, hlen, hnc, hm⟩
theorem NewU.spo {w : World} {base n c : Nat} {A : Option Addr} {xs : List Ext} (h : NewU w base (.slice A n c) xs) : Spo w base A xs := by
  obtain ⟨l, h1, h2, h3, h4, h5⟩ := h
  intro j x hj
  obtain ⟨A', ca, q1, q2, _, _⟩ := h2 j x hj
  obtain ⟨g, ds, rfl, r1, r2, r3, r4, r5⟩ := h5 A' x.2.length ca (by rw [List.getElem?_toArray] at q2; exact List.mem_of_getElem? q2)
  rcases h1.2 with ⟨e, h0⟩ | ⟨L, c', sp, e, hL, _⟩
  · obtain rfl : xs = [] := List.eq_nil_of_length_eq_zero h0
    simp at hj
  · injection e with e1 _ _
    subst e1
    refine ⟨L, _, g, ds, ca, rfl, hL, ?_, r1, r2, r3, r4, r5⟩
    rw [List.getElem?_toArray] at q2 ⊢
    rw [List.getElem?_append_left (List.getElem?_eq_some_iff.1 q2).1]
    exact q2
set_option maxHeartbeats 16000000 in
set_option maxRecDepth 1000000 in
theorem ExtentFresh_walk (A : Option Addr) (c : Nat) (l : List ActV) (Ab : Option Addr) (cb : Nat) (bs : List Int) (w : World) (h : AR w A l) (hl : l.length ≤ 140737488351232 ∧ ∀ a ∈ l, a.bs.length ≤ 140737488351232) (hb : BA w Ab cb bs) (hbl : bs.length ≤ 140737488351232) :
    Calls Try.prog 8 #[.slice A l.length c, .slice Ab bs.length cb] w fun e w' => e = .returned (.bool true) ∧ Below w.heap.size w w' := by
  have C1 := Lib.hid (played_calls A c l w h (by omega) (fun a ha => by have := hl.2 a ha; omega))
  have HBA := Lib.hid hb
  obtain ⟨n, hn⟩ : ∃ n, bs.length = n := ⟨_, rfl⟩
  have HNB := Lib.hid hn
  rw [hn] at hbl ⊢
  clear h hl hb hn
  go_enter Try.func8, Try.ntmps8
  go_wp2_with fail
  refine (C1.out).mono ?_
  rintro e w1 ⟨D, R, rfl, ⟨size0, xs0, lA0, cl0, B, Z, vB, vZ, ht⟩, hb1⟩
  have hbD := ht.bD
  have hbL := ht.bL
  have HB1 := Lib.hid hb1
  have C2 := Lib.hid (TC ht.one 0)
  clear ht hb1 C1
  -- the cut
  go_wp2_with fail
  refine (C2.out).mono ?_
  rintro e w2 ⟨code2, size2, xs2, cl2, rfl, ho2, hf2, _⟩
  have hb2 := hf2.below HB1.out (Nat.le_refl _) hbD hbL
  have hD2 := ho2.d.cells.2.2.2
  have hL2 : ∀ L, lA0 = some ⟨L, 0, none⟩ → L < w2.heap.size := fun L e => (ho2.d.lA_lt L e).1
  have C3 := Wide_calls Ab cb bs w2 (HBA.out.keep hb2) (by rw [HNB.out]; omega)
  rw [HNB.out] at C3
  have HC3 := Lib.hid C3
  have HO2 := Lib.hid ho2
  have HB2 := Lib.hid hb2
  clear ho2 hf2 hb2 C2 C3
  -- Wide
  go_wp2_with fail
  refine (HC3.out).mono ?_
  rintro e w3 ⟨rfl, hrow3, hb3⟩
  have hV3 : w2.heap.size < w3.heap.size := (Array.getElem?_eq_some_iff.1 hrow3).1
  have ho3 : One w3 (fun k => k = w2.heap.size) D size2 xs2 lA0 cl2 := ⟨(HO2.out.d.far HO2.out.ok).below hb3, HO2.out.ok, HO2.out.top, HO2.out.small, fun k hk => by omega⟩
  generalize hVV : w2.heap.size = V at *
  have hbV : w.heap.size ≤ V := by rw [← hVV]; exact HB2.out.size
  have hcl : (bs ++ [7, 7, 7]).length = n + 3 := by rw [List.length_append, HNB.out]; rfl
  have hBA3 : ∀ W, W.heap[V]? = some (.cells (nums .u8 (bs ++ [7, 7, 7])).toArray 5 (0, 0)) → BA W (some ⟨V, 0, none⟩) (n + 3) bs := fun W hW => by
    have hbr : BR W (some ⟨V, 0, none⟩) (n + 3) bs := ⟨by rw [HNB.out]; omega, fun _ => ⟨V, 0, _, (0, 0), rfl, hW, fun j b hj => by
      rw [Nat.zero_add, List.getElem?_toArray]
      unfold nums
      rw [List.getElem?_map, List.getElem?_append_left (List.getElem?_eq_some_iff.1 hj).1, hj]
      rfl⟩⟩
    exact hbr.ba
  have HBA3 := Lib.hid hBA3
  have C4 := TW ho3 0 _ bs (n + 3) (hBA3 w3 hrow3)
  rw [HNB.out] at C4
  have HC4 := Lib.hid C4
  have HO3 := Lib.hid ho3
  have HR3 := Lib.hid hrow3
  have HB3 := Lib.hid (show Below w.heap.size w w3 from HB2.out.trans (hb3.mono hbV))
  have HCL := Lib.hid hcl
  clear ho3 hrow3 hb3 C4 hBA3 HC3 HO2 HB2 HBA hcl hVV
  -- the first Write
  go_wp2_with fail
  refine (HC4.out).mono ?_
  rintro e w4 ⟨code4, size4, xs4, lA4, cl4, rfl, ho4, hf4, hs4, _⟩
  have hrow4 : w4.heap[V]? = some (.cells (nums .u8 (bs ++ [7, 7, 7])).toArray 5 (0, 0)) := (hf4.block V hV3 (by omega) (fun L e => by have := hL2 L e; omega)).trans HR3.out
  have hL4 : ∀ L, lA4 = some ⟨L, 0, none⟩ → w.heap.size ≤ L ∧ L ≠ V := fun L e => by
    rcases hs4 L e with h1 | h1
    · exact ⟨hbL L h1, by have := hL2 L h1; omega⟩
    · have := HB3.out.size
      exact ⟨by omega, by omega⟩
  have C5 := TW ho4 1 _ bs (n + 3) (HBA3.out w4 hrow4)
  rw [HNB.out] at C5
  have HC5 := Lib.hid C5
  have HB4 := Lib.hid (hf4.below HB3.out (Nat.le_refl _) hbD hbL)
  have HR4 := Lib.hid hrow4
  have hV4 : V < w4.heap.size := Nat.lt_of_lt_of_le hV3 hf4.size
  clear ho4 hrow4 hf4 hs4 C5 HC4 HO3 HR3 HB3 hV3
  -- the second Write
  go_wp2_with fail
  refine (HC5.out).mono ?_
  rintro e w5 ⟨code5, size, xs, lA, cl, rfl, ho5, hf5, hs5, _⟩
  have hrow5 : w5.heap[V]? = some (.cells (nums .u8 (bs ++ [7, 7, 7])).toArray 5 (0, 0)) := (hf5.block V hV4 (by omega) (fun L e => by have := (hL4 L e).2; omega)).trans HR4.out
  have hV5 : V < w5.heap.size := Nat.lt_of_lt_of_le hV4 hf5.size
  have HB5 := Lib.hid (hf5.below HB4.out (Nat.le_refl _) hbD (fun L e => (hL4 L e).1))
  have HO5 := Lib.hid ho5
  have HR5 := Lib.hid hrow5
  have C6 := Lib.hid (TR ho5 0 65536 (by decide))
  have hsm := ho5.small
  clear ho5 hrow5 hf5 hs5 HC5 HR4 HB4
  -- what is to be read
  go_wp2_with fail
  refine (C6.out).mono ?_
  rintro e w6 ⟨code6, A6, c6, b6, rfl, hA6, hA6n, hb6, ho6⟩
  obtain rfl : b6 = bytesAt xs 0 size := ho6.full hsm
  rw [bytesAt_length]
  have hrow6 := (hb6.block V hV5).trans HR5.out
  have HO6 := Lib.hid (HO5.out.below hb6)
  have HB6 := Lib.hid (HB5.out.trans (hb6.mono HB5.out.size))
  have HA6 := Lib.hid hA6
  have HA6n := Lib.hid hA6n
  have HR6 := Lib.hid hrow6
  have h56 := hb6.size
  have C7 := Lib.hid (Spoil_calls V n (n + 3) 1 _ w6 hrow6 HCL.out (by omega) (by omega))
  clear hA6 hA6n hb6 ho6 hrow6 HO5 HR5 C6
  -- what was handed in is written over
  go_wp2_with fail
  refine (C7.out).mono ?_
  rintro e w7 ⟨rfl, hg7, _⟩
  have ho7 : One w7 (fun k => k = V) D size xs lA cl := ⟨HO6.out.d.spoil HO6.out.ok HR6.out hg7, HO6.out.ok, HO6.out.top, HO6.out.small, fun k hk => by have := hg7.size; omega⟩
  have HA7 := Lib.hid (HA6.out.grown hg7 (fun g o e h => by have := HA6n.out g o e; injection h with h; omega))
  have HB7 := Lib.hid (HB6.out.grown hg7 HB6.out.size (fun k hk => by injection hk with hk; omega))
  have HO7 := Lib.hid ho7
  have C8 := Lib.hid (Extents2_calls D size xs lA cl w7 ho7.d ho7.ok ho7.top ho7.small)
  have hxl := ok_len' ho7.ok ho7.top
  clear ho7 hg7 HO6 HB6 HA6 HA6n HR6 C7
  -- the pieces
  go_wp2_with fail
  refine (C8.out).mono ?_
  rintro e w8 ⟨v8, rfl, hx8, hb8⟩
  obtain ⟨A8, c8, rfl⟩ := hx8.length
  have HS8 := Lib.hid hx8.spo
  have HB8 := Lib.hid hb8
  generalize hnx : xs.length = nx at *
  have HNX := Lib.hid hnx
  have hcx : nx ≤ c8 := by
    obtain ⟨l8, h1, _⟩ := hx8
    rcases h1.2 with ⟨e, h0⟩ | ⟨L, c', sp, e, hL, hnc, _⟩
    · injection e with _ _ e3
      omega
    · injection e with _ _ e3
      omega
  clear hx8 hb8 C8 hnx
  go_wp2_with fail
  go_loopw [12] (fun vi wr => ∃ i : Nat, vi = .int .i64 (i : Int) ∧ i ≤ nx ∧ Spo wr w7.heap.size A8 xs ∧ Below w7.heap.size w7 wr) (fun vi _ => nx - (RowKit.intOf vi).toNat)
  case atStart => exact ⟨0, rfl, Nat.zero_le _, HS8.out, HB8.out⟩
  case round =>
    clear HS8 HB8
    obtain ⟨i, rfl, hi, hsp, hbr⟩ := hrel
    by_cases hin : i < nx
    · have d0 : decide ((i : Int) < (nx : Int)) = true := by simp; omega
      obtain ⟨x, hxi⟩ : ∃ x, xs[i]? = some x := ⟨_, List.getElem?_eq_getElem (by have := HNX.out; omega)⟩
      obtain ⟨L, cs, g, ds, ca, rfl, hL, hc, hg, hgb, hlen, hnc, hm⟩ := hsp i x hxi
      have q1 : wr.cell? ⟨L, i * 2 + 1, none⟩ = some (.slice (some ⟨g, 0, none⟩) x.2.length ca) := by rw [Lib.cell_of_heap hL]; exact hc
      have C := Lib.hid (Spoil_calls g x.2.length ca 1 ds wr hgb hlen hnc hm)
      have HSP := Lib.hid hsp
      have HBR := Lib.hid hbr
      have HGB := Lib.hid hgb
      clear hxi hL hc hgb hsp hbr
      go_wp2_with fail
      refine (C.out).mono ?_
      rintro e wn ⟨rfl, hgn, ds', hd', hl'⟩
      have HS2 := Lib.hid (HSP.out.next HGB.out hlen hgn hd' hl')
      have HB2 := Lib.hid (HBR.out.grown hgn HBR.out.size (fun k hk => by injection hk with hk; omega))
      clear hgn hd' C HSP HBR HGB
      go_wp2_with fail
      go_roundw
      case rel => exact ⟨i + 1, by rw [Int.natCast_succ], hin, HS2.out, HB2.out⟩
      case measure => simp only [RowKit.intOf, Int.toNat_natCast]; omega
    · have d0 : decide ((i : Int) < (nx : Int)) = false := by simp; omega
      have hor := HO7.out.below hbr
      have C9 := Lib.hid (TRx hor 0 65536 (by decide))
      have HOR := Lib.hid hor
      have HAR := Lib.hid (HA7.out.keep hbr)
      have HBR := Lib.hid (HB7.out.trans (hbr.mono HB7.out.size))
      clear hsp hbr hor HO7 HB7 HA7
      go_wp2_with fail
      refine (C9.out).mono ?_
      rintro e w9 ⟨code9, A9, c9, b9, rfl, hA9, how9, hb9, ho9⟩
      obtain rfl : b9 = bytesAt xs 0 size := ho9.full hsm
      rw [bytesAt_length] at how9 ⊢
      have C10 := Rcopy_calls A9 c9 (bytesAt xs 0 size) w9 hA9 (by rw [bytesAt_length]; omega)
      rw [bytesAt_length] at C10
      have HC10 := Lib.hid C10
      have HOW9 := Lib.hid how9
      have HB9 := Lib.hid hb9
      clear hA9 how9 hb9 ho9 C10 C9
      go_wp2_with fail
      refine (HC10.out).mono ?_
      rintro e w10 ⟨v10, rfl, hown, hb10⟩
      obtain ⟨hz10, A10, c10, rfl, hA10, hn10⟩ := own_BA hown
      have how10 := HOW9.out.keep hb10
      have C11 := Lib.hid (Spoil_ow 1 how10)
      have HA10 := Lib.hid hA10
      have HN10 := Lib.hid hn10
      have HOW10 := Lib.hid how10
      have hb910 : Below wr.heap.size wr w10 := HB9.out.trans (hb10.mono HB9.out.size)
      have HB10 := Lib.hid hb910
      rw [bytesAt_length]
      clear hown hb10 how10 hA10 hn10 hb910 hz10 HC10
      go_wp2_with fail
      refine (C11.out).mono ?_
      rintro e w11 ⟨rfl, hg11, hge⟩
      have hb11 : Below wr.heap.size wr w11 := HB10.out.grown hg11 HB10.out.size hge
      have hA10' : BA w11 A10 c10 (bytesAt xs 0 size) := HA10.out.grown hg11 (fun g o e h => by
        have h1 := HN10.out g o e
        rcases HOW9.out with ⟨rfl, _⟩ | ⟨g', ds, rfl, _, hh, _⟩
        · cases h
        · simp only [Value.ownBlock, Option.some.injEq] at h
          have := (Array.getElem?_eq_some_iff.1 hh).1
          omega)
      have hAR' : BA w11 A6 c6 (bytesAt xs 0 size) := HAR.out.keep hb11
      have HA11 := Lib.hid hA10'
      have HW11 := Lib.hid hAR'
      have HB11 := Lib.hid (HBR.out.trans (hb11.mono HBR.out.size))
      have C12 := Lib.hid (TR (HOR.out.below hb11) 0 65536 (by decide))
      clear hg11 hge hb11 hA10' hAR' C11 HA10 HAR HB10 HOW9 HOW10 HB9
      go_wp2_with fail
      refine (C12.out).mono ?_
      rintro e w12 ⟨code12, A12, c12, b12, rfl, hA12, _, hb12, ho12⟩
      obtain rfl : b12 = bytesAt xs 0 size := ho12.full hsm
      rw [bytesAt_length]
      have HA12 := Lib.hid hA12
      have HW12 := Lib.hid (HW11.out.keep hb12)
      have HB12 := Lib.hid (HB11.out.trans (hb12.mono HB11.out.size))
      have C13 := Same_eq A10 A6 c10 c6 (bytesAt xs 0 size) w12 (HA11.out.keep hb12) HW12.out (by rw [bytesAt_length]; omega)
      rw [bytesAt_length] at C13
      have HC13 := Lib.hid C13
      clear hA12 hb12 ho12 C12 C13
      go_wp2_with fail
      refine (HC13.out).mono ?_
      rintro e w13 ⟨rfl, hb13⟩
      have C14 := Same_eq A12 A6 c12 c6 (bytesAt xs 0 size) w13 (HA12.out.keep hb13) (HW12.out.keep hb13) (by rw [bytesAt_length]; omega)
      rw [bytesAt_length] at C14
      have HC14 := Lib.hid C14
      have HB13 := Lib.hid (HB12.out.trans (hb13.mono HB12.out.size))
      clear hb13 C14 HC13
      go_wp2_with fail
      refine (HC14.out).mono ?_
      rintro e w14 ⟨rfl, hb14⟩
      have HB14 := Lib.hid (HB13.out.trans (hb14.mono HB13.out.size))
      clear hb14 HC14
      go_wp2_with fail
      refine (works_calls _).mono ?_
      rintro e w15 ⟨rfl, hb15⟩
      go_wp2
      go_ret
      exact ⟨rfl, HB14.out.trans (hb15.mono HB14.out.size)⟩
end Go.Proofs.Ytjochldpacgcgaa.U
