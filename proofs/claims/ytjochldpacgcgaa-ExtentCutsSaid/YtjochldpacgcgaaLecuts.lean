/- The law ExtentCuts: what is cut off, and grown again, is 0; what is ahead of the cut is as it was. -/
import Derived.Test.YtjochldpacgcgaaLeback
set_option linter.unusedVariables false
set_option linter.unusedSimpArgs false
namespace Go.Proofs.Ytjochldpacgcgaa.U
open Go.RowKit Go.Proofs Go.Lib Go.Proofs.YtjochldpacgcgaaW.PrintWords

theorem BA.take {w : World} {A : Option Addr} {c : Nat} {bs : List Int} (h : BA w A c bs) (k : Nat) : BA w A c (bs.take k) := by
  have hl : (bs.take k).length ≤ bs.length := by rw [List.length_take]; omega
  refine ⟨Nat.le_trans hl h.1, fun h0 => ?_⟩
  obtain ⟨g, o, rfl, hg, hc⟩ := h.2 (by omega)
  refine ⟨g, o, rfl, hg, fun j u hj => hc j u ?_⟩
  unfold nums at hj ⊢
  rw [List.getElem?_map] at hj ⊢
  obtain ⟨z, hz, rfl⟩ := Option.map_eq_some_iff.1 hj
  rw [List.getElem?_take] at hz
  split at hz
  · rw [hz]; rfl
  · cases hz
theorem bytesAt_take (xs : List Ext) (n k : Nat) (h : k ≤ n) : (bytesAt xs 0 n).take k = bytesAt xs 0 k := by
  apply List.ext_getElem?
  intro j
  rw [List.getElem?_take]
  by_cases hj : j < k
  · rw [if_pos hj, bytesAt_get _ _ _ _ (by omega), bytesAt_get _ _ _ _ hj]
  · rw [if_neg hj, List.getElem?_eq_none (by rw [bytesAt_length]; omega)]
/-- Cut off, and grown again. -/
theorem ct_twice {xs : List Ext} (hok : Ok 0 xs) (a b : Nat) (hab : a ≤ b) (i : Nat) (hi : i < b) : look (ct b (ct a xs)) i = if i < a then look xs i else none := by
  have h1 := ct_spec a xs 0 hok
  have h2 := ct_spec b (ct a xs) 0 h1.1
  rw [h2.2.1, if_pos hi, h1.2.1]
theorem ct_ahead {xs : List Ext} (hok : Ok 0 xs) (a b : Nat) (hab : a ≤ b) : bytesAt (ct b (ct a xs)) 0 a = bytesAt xs 0 a := by
  apply List.ext_getElem?
  intro j
  by_cases hj : j < a
  · rw [bytesAt_get _ _ _ _ hj, bytesAt_get _ _ _ _ hj, Nat.zero_add, ct_twice hok a b hab j (by omega), if_pos hj]
  · rw [List.getElem?_eq_none (by rw [bytesAt_length]; omega), List.getElem?_eq_none (by rw [bytesAt_length]; omega)]
theorem OneCut {w : World} {N : Nat → Prop} {D size : Nat} {xs : List Ext} {lA : Option Addr} {c : Nat} (h : One w N D size xs lA c) (a : Nat) (ha : a ≤ 65536) :
    Calls Try.prog 19 #[.pointer (some ⟨D, 0, none⟩), .int .i64 (a : Int)] w fun e w' => e = .returned (.int .i64 0) ∧ ∃ c', One w' N D a (ct a xs) lA c' ∧ Fr w w' D lA := by
  refine (TC h (a : Int)).mono ?_
  rintro e w' ⟨code, size', xs', c', rfl, h1, h2, ho⟩
  rcases ho with ⟨hb, _⟩ | ⟨_, _, rfl, rfl, rfl⟩
  · unfold CBad at hb; omega
  · exact ⟨rfl, c', h1, h2⟩
set_option maxHeartbeats 16000000 in
set_option maxRecDepth 1000000 in
theorem ExtentCuts_walk (A : Option Addr) (c : Nat) (l : List ActV) (s m : Int) (w : World) (h : AR w A l) (hl : l.length ≤ 140737488351232 ∧ ∀ a ∈ l, a.bs.length ≤ 140737488351232) :
    Calls Try.prog 7 #[.slice A l.length c, .int .i64 s, .int .i64 m] w fun e w' => e = .returned (.bool true) ∧ Below w.heap.size w w' := by
  have C1 := Lib.hid (played_calls A c l w h (by omega) (fun a ha => by have := hl.2 a ha; omega))
  clear h hl
  go_enter Try.func7, Try.ntmps7
  go_wp2_with fail
  refine (C1.out).mono ?_
  rintro e w1 ⟨D, R, rfl, ⟨size, xs, lA, cl, B, Z, vB, vZ, ht⟩, hb1⟩
  have HT := Lib.hid ht
  have HB := Lib.hid hb1
  have C2 := Lib.hid (TR ht.one 0 65536 (by decide))
  obtain ⟨n1, n2, n3, n4, n5⟩ := ht.ne
  have hsm := ht.small
  clear ht hb1 C1
  go_wp2_with fail
  refine (C2.out).mono ?_
  rintro e w2 ⟨code1, A2, c2, b2, rfl, hA2, hA2n, hb2, ho2⟩
  obtain rfl : b2 = bytesAt xs 0 size := ho2.full HT.out.small
  rw [bytesAt_length]
  have HA2 := Lib.hid hA2
  have HA2n := Lib.hid hA2n
  have HONE2 := Lib.hid (HT.out.one.below hb2)
  have HB12 := Lib.hid (HB.out.trans (hb2.mono HB.out.size))
  have HB2 := Lib.hid hb2
  clear hA2 hA2n hb2 ho2 C2
  by_cases hgood : 0 ≤ s ∧ s ≤ size ∧ s ≤ m ∧ m ≤ 65536
  · obtain ⟨g1, g2, g3, g4⟩ := hgood
    obtain ⟨a, rfl⟩ : ∃ a : Nat, s = (a : Int) := ⟨s.toNat, by omega⟩
    obtain ⟨b, rfl⟩ : ∃ b : Nat, m = (b : Int) := ⟨m.toNat, by omega⟩
    have hab : a ≤ b := by omega
    have has : a ≤ size := by omega
    have hb6 : b ≤ 65536 := by omega
    have d1 : decide ((a : Int) < 0) = false := by simp
    have d2 : decide ((size : Int) < (a : Int)) = false := by simp; omega
    have d3 : decide ((b : Int) < (a : Int)) = false := by simp; omega
    have d4 : decide ((65536 : Int) < (b : Int)) = false := by simp; omega
    have C3 := Lib.hid (OneCut HONE2.out a (by omega))
    go_wp2_with fail
    refine (C3.out).mono ?_
    rintro e w3 ⟨rfl, c3, hone3, hf3⟩
    have hD2 : ∀ g o, A2 = some ⟨g, o, none⟩ → g ≠ D ∧ ∀ L, lA = some ⟨L, 0, none⟩ → g ≠ L := fun g o e => by
      have h1 := HA2n.out g o e
      exact ⟨by omega, fun L e => by have := n3 L e; omega⟩
    have HA3 := Lib.hid (HA2.out.fr hf3 hD2)
    have HB3 := Lib.hid (hf3.below HB12.out (Nat.le_refl _) HT.out.bD HT.out.bL)
    have C4 := Lib.hid (OneCut hone3 b hb6)
    have HD2 := Lib.hid hD2
    clear hone3 hf3 hD2 C3
    go_wp2_with fail
    refine (C4.out).mono ?_
    rintro e w4 ⟨rfl, c4, hone4, hf4⟩
    have HA4 := Lib.hid (HA3.out.fr hf4 HD2.out)
    have HB4 := Lib.hid (hf4.below HB3.out (Nat.le_refl _) HT.out.bD HT.out.bL)
    have C5 := Lib.hid (TR hone4 0 65536 (by decide))
    clear hone4 hf4 C4
    go_wp2_with fail
    refine (C5.out).mono ?_
    rintro e w5 ⟨code2, A5, c5, b5, rfl, hA5, _, hb5, ho5⟩
    obtain rfl : b5 = bytesAt (ct b (ct a xs)) 0 b := ho5.full hb6
    rw [bytesAt_length]
    have HA5 := Lib.hid hA5
    have HA25 := Lib.hid (HA4.out.keep hb5)
    have HB5 := Lib.hid (HB4.out.trans (hb5.mono HB4.out.size))
    obtain ⟨i0, hi0, hz0, hz1, hz2⟩ := info_parts infoU8
    have hc5 : b ≤ c5 := by have := HA5.out.1; rw [bytesAt_length] at this; exact this
    have hc2 : size ≤ c2 := by have := HA25.out.1; rw [bytesAt_length] at this; exact this
    have hs1 := fun W => run_take1 29 5 A5 b c5 a Try.underlying29 hi0 hz1 hab hc5 W
    have hs2 := fun W => run_take1 29 5 A2 size c2 a Try.underlying29 hi0 hz1 has hc2 W
    have hbd : Below w5.heap.size w5 w5.drew := below_drew1 (Below.refl _ _)
    have e1 : (bytesAt (ct b (ct a xs)) 0 b).take a = bytesAt xs 0 a := by rw [bytesAt_take _ _ _ hab, ct_ahead HT.out.rel.ok a b hab]
    have e2 : (bytesAt xs 0 size).take a = bytesAt xs 0 a := bytesAt_take _ _ _ has
    have CSm := Same_eq A5 A2 c5 c2 (bytesAt xs 0 a) w5.drew (by have := HA5.out.take a; rw [e1] at this; exact this.keep hbd) (by have := HA25.out.take a; rw [e2] at this; exact this.keep hbd) (by rw [bytesAt_length]; omega)
    rw [bytesAt_length] at CSm
    have HCS := Lib.hid CSm
    have HBD := Lib.hid hbd
    clear CSm e1 e2 hbd hi0 hz0 hz1 hz2 hA5 hb5 ho5 C5 d1 d2 d3 d4
    go_wp2_with fail
    refine AnyL.start (fun _ => True) 99 (by kernel_rfl) trivial (fun hHeld => ?_)
    refine AnyL.take (i := 0) (v := ?vy0) rfl (by kernel_rfl) (by kernel_rfl) (by kernel_rfl) (by kernel_rfl) (fun _ _ _ h => h) (by assumption) (Or.inl ⟨by rfl, ?y0⟩) ?ry0
    case y0 => (intro w hSw; (try dsimp only at hSw); go_simp; try with_reducible rfl)
    try simp only [Act.put, List.setIfInBounds_toArray, List.set_cons_zero, List.set_cons_succ]
    refine AnyL.take (i := 1) (v := ?vy1) rfl (by kernel_rfl) (by kernel_rfl) (by kernel_rfl) (by kernel_rfl) (fun _ _ _ h => h) (by assumption) (Or.inl ⟨by rfl, ?y1⟩) ?ry1
    case y1 => (intro w hSw; (try dsimp only at hSw); go_simp; try with_reducible rfl)
    try simp only [Act.put, List.setIfInBounds_toArray, List.set_cons_zero, List.set_cons_succ]
    refine AnyL.take (i := 2) (v := ?vy2) rfl (by kernel_rfl) (by kernel_rfl) (by kernel_rfl) (by kernel_rfl) (fun _ _ _ h => h) (by assumption) (Or.inl ⟨by rfl, ?y2⟩) ?ry2
    case y2 => (intro w hSw; (try dsimp only at hSw); go_simp; try with_reducible rfl)
    try simp only [Act.put, List.setIfInBounds_toArray, List.set_cons_zero, List.set_cons_succ]
    refine AnyL.take (i := 3) (v := ?vy3) rfl (by kernel_rfl) (by kernel_rfl) (by kernel_rfl) (by kernel_rfl) (fun _ _ _ h => h) (by assumption) (Or.inl ⟨by rfl, ?y3⟩) ?ry3
    case y3 => (intro w hSw; (try dsimp only at hSw); go_simp; try with_reducible rfl)
    try simp only [Act.put, List.setIfInBounds_toArray, List.set_cons_zero, List.set_cons_succ]
    refine AnyL.take (i := 4) (v := ?vy4) rfl (by kernel_rfl) (by kernel_rfl) (by kernel_rfl) (by kernel_rfl) (fun _ _ _ h => h) (by assumption) (Or.inl ⟨by rfl, ?y4⟩) ?ry4
    case y4 => (intro w hSw; (try dsimp only at hSw); go_simp; try with_reducible rfl)
    try simp only [Act.put, List.setIfInBounds_toArray, List.set_cons_zero, List.set_cons_succ]
    refine AnyL.take (i := 5) (v := ?vy5) rfl (by kernel_rfl) (by kernel_rfl) (by kernel_rfl) (by kernel_rfl) (fun _ _ _ h => h) (by assumption) (Or.inl ⟨by rfl, ?y5⟩) ?ry5
    case y5 => (intro w hSw; (try dsimp only at hSw); go_simp; try with_reducible rfl)
    try simp only [Act.put, List.setIfInBounds_toArray, List.set_cons_zero, List.set_cons_succ]
    refine AnyL.take (i := 6) (v := ?vy6) rfl (by kernel_rfl) (by kernel_rfl) (by kernel_rfl) (by kernel_rfl) (fun _ _ _ h => h) (by assumption) (Or.inl ⟨by rfl, ?y6⟩) ?ry6
    case y6 => (intro w hSw; (try dsimp only at hSw); go_simp; try with_reducible rfl)
    try simp only [Act.put, List.setIfInBounds_toArray, List.set_cons_zero, List.set_cons_succ]
    refine AnyL.take (i := 7) (v := ?vy7) rfl (by kernel_rfl) (by kernel_rfl) (by kernel_rfl) (by kernel_rfl) (fun _ _ _ h => h) (by assumption) (Or.inl ⟨by rfl, ?y7⟩) ?ry7
    case y7 => (intro w hSw; (try dsimp only at hSw); go_simp; try with_reducible rfl)
    try simp only [Act.put, List.setIfInBounds_toArray, List.set_cons_zero, List.set_cons_succ]
    refine AnyL.take (i := 8) (v := ?vy8) rfl (by kernel_rfl) (by kernel_rfl) (by kernel_rfl) (by kernel_rfl) (fun _ _ _ h => h) (by assumption) (Or.inl ⟨by rfl, ?y8⟩) ?ry8
    case y8 => (intro w hSw; (try dsimp only at hSw); go_simp; try with_reducible rfl)
    try simp only [Act.put, List.setIfInBounds_toArray, List.set_cons_zero, List.set_cons_succ]
    refine AnyL.take (i := 9) (v := ?vy9) rfl (by kernel_rfl) (by kernel_rfl) (by kernel_rfl) (by kernel_rfl) (fun _ _ _ h => h) (by assumption) (Or.inl ⟨by rfl, ?y9⟩) ?ry9
    case y9 => (intro w hSw; (try dsimp only at hSw); go_simp; try with_reducible rfl)
    try simp only [Act.put, List.setIfInBounds_toArray, List.set_cons_zero, List.set_cons_succ]
    refine AnyL.take (i := 10) (v := ?vy10) rfl (by kernel_rfl) (by kernel_rfl) (by kernel_rfl) (by kernel_rfl) (fun _ _ _ h => h) (by assumption) (Or.inl ⟨by rfl, ?y10⟩) ?ry10
    case y10 => (intro w hSw; (try dsimp only at hSw); go_simp; try with_reducible rfl)
    try simp only [Act.put, List.setIfInBounds_toArray, List.set_cons_zero, List.set_cons_succ]
    refine AnyL.take (i := 11) (v := ?vy11) rfl (by kernel_rfl) (by kernel_rfl) (by kernel_rfl) (by kernel_rfl) (fun _ _ _ h => h) (by assumption) (Or.inl ⟨by rfl, ?y11⟩) ?ry11
    case y11 => (intro w hSw; (try dsimp only at hSw); go_simp; try with_reducible rfl)
    try simp only [Act.put, List.setIfInBounds_toArray, List.set_cons_zero, List.set_cons_succ]
    refine AnyL.take (i := 12) (v := ?vy12) rfl (by kernel_rfl) (by kernel_rfl) (by kernel_rfl) (by kernel_rfl) (fun _ _ _ h => h) (by assumption) (Or.inl ⟨by rfl, ?y12⟩) ?ry12
    case y12 => (intro w hSw; (try dsimp only at hSw); go_simp; try with_reducible rfl)
    try simp only [Act.put, List.setIfInBounds_toArray, List.set_cons_zero, List.set_cons_succ]
    refine AnyL.take (i := 13) (v := ?vy13) rfl (by kernel_rfl) (by kernel_rfl) (by kernel_rfl) (by kernel_rfl) (fun _ _ _ h => h) (by assumption) (Or.inl ⟨by rfl, ?y13⟩) ?ry13
    case y13 => (intro w hSw; (try dsimp only at hSw); go_simp; try with_reducible rfl)
    try simp only [Act.put, List.setIfInBounds_toArray, List.set_cons_zero, List.set_cons_succ]
    refine AnyL.take (i := 14) (v := ?vy14) rfl (by kernel_rfl) (by kernel_rfl) (by kernel_rfl) (by kernel_rfl) (fun _ _ _ h => h) (by assumption) (Or.inl ⟨by rfl, ?y14⟩) ?ry14
    case y14 => (intro w hSw; (try dsimp only at hSw); go_simp; try with_reducible rfl)
    try simp only [Act.put, List.setIfInBounds_toArray, List.set_cons_zero, List.set_cons_succ]
    refine AnyL.take (i := 15) (v := ?vy15) rfl (by kernel_rfl) (by kernel_rfl) (by kernel_rfl) (by kernel_rfl) (fun _ _ _ h => h) (by assumption) (Or.inl ⟨by rfl, ?y15⟩) ?ry15
    case y15 => (intro w hSw; (try dsimp only at hSw); go_simp; try with_reducible rfl)
    try simp only [Act.put, List.setIfInBounds_toArray, List.set_cons_zero, List.set_cons_succ]
    refine AnyL.take (i := 16) (v := ?vy16) rfl (by kernel_rfl) (by kernel_rfl) (by kernel_rfl) (by kernel_rfl) (fun _ _ _ h => h) (by assumption) (Or.inl ⟨by rfl, ?y16⟩) ?ry16
    case y16 => (intro w hSw; (try dsimp only at hSw); go_simp; try with_reducible rfl)
    try simp only [Act.put, List.setIfInBounds_toArray, List.set_cons_zero, List.set_cons_succ]
    refine AnyL.take (i := 17) (v := ?vy17) rfl (by kernel_rfl) (by kernel_rfl) (by kernel_rfl) (by kernel_rfl) (fun _ _ _ h => h) (by assumption) (Or.inl ⟨by rfl, ?y17⟩) ?ry17
    case y17 => (intro w hSw; (try dsimp only at hSw); go_simp; try with_reducible rfl)
    try simp only [Act.put, List.setIfInBounds_toArray, List.set_cons_zero, List.set_cons_succ]
    refine AnyL.take (i := 18) (v := ?vy18) rfl (by kernel_rfl) (by kernel_rfl) (by kernel_rfl) (by kernel_rfl) (fun _ _ _ h => h) (by assumption) (Or.inl ⟨by rfl, ?y18⟩) ?ry18
    case y18 => (intro w hSw; (try dsimp only at hSw); go_simp; try with_reducible rfl)
    try simp only [Act.put, List.setIfInBounds_toArray, List.set_cons_zero, List.set_cons_succ]
    refine AnyL.one (i := 19) (by kernel_rfl) rfl (fun K hK => ?_)
    go_simp
    refine (HCS.out).mono ?_
    rintro e w6 ⟨rfl, hb7⟩
    refine hK.out _ _ (.inr trivial) ?_
    clear hK K
    try simp only [Act.put, List.setIfInBounds_toArray, List.set_cons_zero, List.set_cons_succ]
    refine AnyL.take (i := 20) (v := ?vz20) rfl (by kernel_rfl) (by kernel_rfl) (by kernel_rfl) (by kernel_rfl) (fun _ _ _ h => h) (by assumption) (Or.inl ⟨by rfl, ?z20⟩) ?rz20
    case z20 => (intro w hSw; (try dsimp only at hSw); go_simp; try with_reducible rfl)
    try simp only [Act.put, List.setIfInBounds_toArray, List.set_cons_zero, List.set_cons_succ]
    refine AnyL.take (i := 21) (v := ?vz21) rfl (by kernel_rfl) (by kernel_rfl) (by kernel_rfl) (by kernel_rfl) (fun _ _ _ h => h) (by assumption) (Or.inl ⟨by rfl, ?z21⟩) ?rz21
    case z21 => (intro w hSw; (try dsimp only at hSw); go_simp; try with_reducible rfl)
    try simp only [Act.put, List.setIfInBounds_toArray, List.set_cons_zero, List.set_cons_succ]
    refine AnyL.done (by kernel_rfl) ?_ _
    have hb67 := HBD.out.trans (hb7.mono HBD.out.size)
    have HB6 := Lib.hid (HB5.out.trans (hb67.mono HB5.out.size))
    have HA6 := Lib.hid (HA5.out.keep hb67)
    clear hb7 hb67 hs1 hs2 HCS hHeld
    go_wp2_with fail
    go_loopg [16] (b - a) (fun g v16 wr => ∃ i : Nat, v16 = .int .i64 (i : Int) ∧ a ≤ i ∧ i + g = b ∧ wr = w6)
    case atStart => exact ⟨a, rfl, Nat.le_refl _, by omega, rfl⟩
    case round =>
      obtain ⟨i, rfl, hai, hig, rfl⟩ := hrel
      have HIG := Lib.hid hig
      clear hig
      by_cases hin : i < b
      · have d3 : decide ((i : Int) < (b : Int)) = true := by simp; omega
        have i1 : (i : Int) < (b : Int) := by omega
        obtain ⟨g6, o6, rfl, hg6, q6⟩ := HA6.out.at_ (bytesAt_get _ 0 b i hin)
        rw [Nat.zero_add, ct_twice HT.out.rel.ok a b hab i hin, if_neg (by omega)] at q6
        have q7 : wr.cell? ⟨g6, o6 + i, none⟩ = some (.int .u8 0) := q6
        clear q6
        go_wp2_with fail
        go_roundg (gk - 1)
        case measure => have := HIG.out; omega
        case rel => exact ⟨i + 1, by rw [Int.natCast_succ], by omega, by have := HIG.out; omega, rfl⟩
      · have hin2 : i = b := by have := HIG.out; omega
        subst hin2
        have d3 : decide ((i : Int) < (i : Int)) = false := by simp
        go_wp2_with fail
        refine (works_calls _).mono ?_
        rintro e w7 ⟨rfl, hb7⟩
        go_wp2
        go_ret
        exact ⟨rfl, HB6.out.trans (hb7.mono HB6.out.size)⟩
  · have hc : (s < 0) ∨ (0 ≤ s ∧ (size : Int) < s) ∨ (0 ≤ s ∧ s ≤ size ∧ m < s) ∨ (0 ≤ s ∧ s ≤ size ∧ s ≤ m ∧ 65536 < m) := by omega
    clear hgood
    rcases hc with h1 | ⟨h1, h2⟩ | ⟨h1, h2, h3⟩ | ⟨h1, h2, h3, h4⟩
    case' inl =>
      have d1 : decide (s < 0) = true := by simpa using h1
      go_wp2_with fail
    case' inr.inl =>
      have d1 : decide (s < 0) = false := by simp; omega
      have d2 : decide ((size : Int) < s) = true := by simp; omega
      go_wp2_with fail
    case' inr.inr.inl =>
      have d1 : decide (s < 0) = false := by simp; omega
      have d2 : decide ((size : Int) < s) = false := by simp; omega
      have d3 : decide (m < s) = true := by simp; omega
      go_wp2_with fail
    case' inr.inr.inr =>
      have d1 : decide (s < 0) = false := by simp; omega
      have d2 : decide ((size : Int) < s) = false := by simp; omega
      have d3 : decide (m < s) = false := by simp; omega
      have d4 : decide ((65536 : Int) < m) = true := by simp; omega
      go_wp2_with fail
    all_goals
      refine (works_calls _).mono ?_
      rintro e w7 ⟨rfl, hb7⟩
      go_wp2
      go_ret
      exact ⟨rfl, HB12.out.trans (hb7.mono HB12.out.size)⟩
end Go.Proofs.Ytjochldpacgcgaa.U
