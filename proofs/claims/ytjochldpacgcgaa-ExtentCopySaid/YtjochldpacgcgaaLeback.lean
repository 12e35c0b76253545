/- The law ExtentBack: what was written is read, and nothing else has changed. -/
import Derived.Test.YtjochldpacgcgaaLeapart
set_option linter.unusedVariables false
set_option linter.unusedSimpArgs false
namespace Go.Proofs.Ytjochldpacgcgaa.U
open Go.RowKit Go.Proofs Go.Lib Go.Proofs.YtjochldpacgcgaaW.PrintWords

theorem BA.fr {w w' : World} {D : Nat} {lA : Option Addr} {A : Option Addr} {c : Nat} {bs : List Int} (h : BA w A c bs) (hf : Fr w w' D lA) (hne : ∀ g o, A = some ⟨g, o, none⟩ → g ≠ D ∧ ∀ L, lA = some ⟨L, 0, none⟩ → g ≠ L) : BA w' A c bs := by
  refine ⟨h.1, fun h0 => ?_⟩
  obtain ⟨g, o, rfl, hg, hc⟩ := h.2 h0
  refine ⟨g, o, rfl, Nat.lt_of_lt_of_le hg hf.size, fun j u hj => ?_⟩
  rw [← hc j u hj, Addr.add_lit]
  exact World.cell?_of_block (a := ⟨g, o + j, none⟩) (hf.block g hg (hne g o rfl).1 (hne g o rfl).2)
/-- A cell of bytes that are read. -/
theorem BA.at_ {w : World} {A : Option Addr} {c : Nat} {bs : List Int} (h : BA w A c bs) {i : Nat} {b : Int} (hb : bs[i]? = some b) : ∃ g o, A = some ⟨g, o, none⟩ ∧ g < w.heap.size ∧ w.cell? ⟨g, o + i, none⟩ = some (.int .u8 b) := by
  have hi := (List.getElem?_eq_some_iff.1 hb).1
  obtain ⟨g, o, rfl, hg, hc⟩ := h.2 (by omega)
  have := hc i (.int .u8 b) (by unfold nums; rw [List.getElem?_map, hb]; rfl)
  rw [Addr.add_lit] at this
  exact ⟨g, o, rfl, hg, this⟩
set_option maxHeartbeats 16000000 in
set_option maxRecDepth 1000000 in
theorem ExtentBack_walk (A : Option Addr) (c : Nat) (l : List ActV) (p : Int) (Ab : Option Addr) (cb : Nat) (bs : List Int) (w : World) (h : AR w A l) (hl : l.length ≤ 140737488351232 ∧ ∀ a ∈ l, a.bs.length ≤ 140737488351232) (hb : BA w Ab cb bs) (hbl : bs.length ≤ 140737488351232) :
    Calls Try.prog 5 #[.slice A l.length c, .int .i64 p, .slice Ab bs.length cb] w fun e w' => e = .returned (.bool true) ∧ Below w.heap.size w w' := by
  have C1 := Lib.hid (played_calls A c l w h (by omega) (fun a ha => by have := hl.2 a ha; omega))
  have HBA := Lib.hid hb
  obtain ⟨n, hn⟩ : ∃ n, bs.length = n := ⟨_, rfl⟩
  have HNB := Lib.hid hn
  rw [hn] at hbl ⊢
  clear h hl hb hn
  go_enter Try.func5, Try.ntmps5
  go_wp2_with fail
  refine (C1.out).mono ?_
  rintro e w1 ⟨D, R, rfl, ⟨size, xs, lA, cl, B, Z, vB, vZ, ht⟩, hb1⟩
  have HT := Lib.hid ht
  have HB := Lib.hid hb1
  have C2 := Lib.hid (TR ht.one 0 65536 (by decide))
  obtain ⟨n1, n2, n3, n4, n5⟩ := ht.ne
  clear ht hb1 C1
  go_wp2_with fail
  refine (C2.out).mono ?_
  rintro e w2 ⟨code1, A2, c2, b2, rfl, hA2, hA2n, hb2, ho2⟩
  obtain rfl : b2 = bytesAt xs 0 size := ho2.full HT.out.small
  rw [bytesAt_length]
  have hb12 := HB.out.trans (hb2.mono HB.out.size)
  have hone2 := HT.out.one.below hb2
  have hba2 : BA w2 Ab cb bs := HBA.out.keep hb12
  have C3 := TW hone2 p Ab bs cb hba2
  rw [HNB.out] at C3
  have HC3 := Lib.hid C3
  have HA2 := Lib.hid hA2
  have HA2n := Lib.hid hA2n
  have HONE2 := Lib.hid hone2
  have HB12 := Lib.hid hb12
  have HB2 := Lib.hid hb2
  clear hA2 hA2n hone2 hb12 hb2 hba2 C3 C2 ho2
  go_wp2_with fail
  refine (HC3.out).mono ?_
  rintro e w3 ⟨code, size', xs', lA', c', rfl, hone3, hf3, _, ho3⟩
  have hD2 : ∀ g o, A2 = some ⟨g, o, none⟩ → g ≠ D ∧ ∀ L, lA = some ⟨L, 0, none⟩ → g ≠ L := fun g o e => by
    have h1 := HA2n.out g o e
    exact ⟨by omega, fun L e => by have := n3 L e; omega⟩
  have hA3 := HA2.out.fr hf3 hD2
  have hb3 := hf3.below HB12.out (Nat.le_refl _) HT.out.bD HT.out.bL
  have HA3 := Lib.hid hA3
  have HONE3 := Lib.hid hone3
  have HB3 := Lib.hid hb3
  have HO3 := Lib.hid ho3
  have C4 := Lib.hid (TR hone3 0 65536 (by decide))
  clear hA3 hone3 hb3 hf3 hD2 ho3 HC3
  go_wp2_with fail
  refine (C4.out).mono ?_
  rintro e w4 ⟨code2, A4, c4, b4, rfl, hA4, _, hb4, ho4⟩
  obtain rfl : b4 = bytesAt xs' 0 size' := ho4.full HONE3.out.small
  rw [bytesAt_length]
  have HA4 := Lib.hid hA4
  have HA34 := Lib.hid (HA3.out.keep hb4)
  have HB4 := Lib.hid (HB3.out.trans (hb4.mono HB3.out.size))
  have HONE4 := Lib.hid (HONE3.out.below hb4)
  have hsm := HT.out.small
  clear hA4 hb4 ho4 C4
  have hcase := HO3.out
  rcases hcase with ⟨hbad, rfl, rfl⟩ | ⟨h1, h2, h3, rfl, rfl, rfl⟩
  · rw [HNB.out] at hbad
    have CSm := Same_eq A2 A4 c2 c4 (bytesAt xs' 0 size') w4 HA34.out HA4.out (by rw [bytesAt_length]; omega)
    rw [bytesAt_length] at CSm
    have HCSm := Lib.hid CSm
    have hc : (∃ _ : code ≠ 0, True) ∨ (code = 0 ∧ n = 0) := by
      unfold WBad at hbad
      by_cases h0 : code = 0
      · right; omega
      · exact .inl ⟨h0, trivial⟩
    clear CSm hbad
    rcases hc with ⟨hc, _⟩ | ⟨rfl, rfl⟩
    case' inl =>
      have d1 : (code == 0) = false := by simpa using hc
      have d1' : (code != 0) = true := by simpa using hc
      go_wp2_with fail
      clear d1 d1'
    case' inr =>
      go_wp2_with fail
    all_goals
      refine (HCSm.out).mono ?_
      rintro e w5 ⟨rfl, hb5⟩
      have HB5 := Lib.hid (HB4.out.trans (hb5.mono HB4.out.size))
      clear hb5
      go_wp2_with fail
      refine (works_calls _).mono ?_
      rintro e w6 ⟨rfl, hb6⟩
      go_wp2
      go_ret
      exact ⟨rfl, HB5.out.trans (hb6.mono HB5.out.size)⟩
  · obtain ⟨k, rfl⟩ : ∃ k : Nat, p = (k : Int) := ⟨p.toNat, by omega⟩
    rw [HNB.out] at h2 h3
    obtain ⟨sz, hsz⟩ : ∃ sz, max size (k + n) = sz := ⟨_, rfl⟩
    have hsz2 : max size ((k : Int).toNat + bs.length) = sz := by rw [Int.toNat_natCast, HNB.out]; exact hsz
    rw [hsz2] at HA4 HONE4 ⊢
    rw [Int.toNat_natCast] at HA4 HONE4
    have hmx : max (size : Int) ((k : Int) + (n : Int)) = (sz : Int) := by omega
    have hif : (if (size : Int) < (k : Int) + (n : Int) then (k : Int) + (n : Int) else (size : Int)) = (sz : Int) := by split <;> omega
    have d2 : ((n : Int) == 0) = false := by simp; omega
    have CS := Lib.hid (Size_calls D sz _ _ _ w4 HONE4.out.d)
    have HSZ := Lib.hid hsz
    have hsz1 : size ≤ sz := by omega
    have hsz3 : k + n ≤ sz := by omega
    have hsz4 : sz ≤ 65536 := by omega
    have hk : (k : Int) + (n : Int) ≤ 65536 := by omega
    clear hsz hsz2 h1 h3
    go_wp2_with fail
    refine (CS.out).mono ?_
    rintro e w5 ⟨rfl, rfl⟩
    clear CS
    go_wp2_with fail
    clear hmx hif
    go_loopg [15] sz (fun g v15 wr => ∃ i : Nat, v15 = .int .i64 (i : Int) ∧ i + g = sz ∧ wr = w5)
    case atStart => exact ⟨0, rfl, Nat.zero_add _, rfl⟩
    case round =>
      obtain ⟨i, rfl, hig, rfl⟩ := hrel
      have HIG := Lib.hid hig
      clear hig
      by_cases hin : i < sz
      · have d3 : decide ((i : Int) < (sz : Int)) = true := by simp; omega
        have i1 : (i : Int) < (sz : Int) := by omega
        have hspec := (wr_spec k bs (by rw [HNB.out]; exact h2) xs 0 HT.out.rel.ok (Nat.zero_le _)).2 i
        rw [HNB.out] at hspec
        obtain ⟨g4, o4, rfl, hg4, q4⟩ := HA4.out.at_ (bytesAt_get _ 0 sz i hin)
        rw [Nat.zero_add] at q4
        obtain ⟨u, hu⟩ : ∃ u, (look xs i).getD 0 = u := ⟨_, rfl⟩
        obtain ⟨v, hv⟩ : ∃ v, (look (U.wr k bs xs) i).getD 0 = v := ⟨_, rfl⟩
        rw [hv] at q4
        have HU := Lib.hid hu
        have HV := Lib.hid hv
        have HSP := Lib.hid hspec
        clear hspec hu hv
        go_upto_if 76 with fail
        go_cut [16] (fun v16 wx => v16 = .int .u8 u ∧ wx = wr)
        case first =>
          by_cases his : i < size
          · have i2 : (i : Int) < (size : Int) := by omega
            obtain ⟨g2, o2, rfl, hg2, q2⟩ := HA34.out.at_ (bytesAt_get xs 0 size i his)
            rw [Nat.zero_add, HU.out] at q2
            go_wp2_with fail
            go_meet
            exact ⟨rfl, rfl⟩
          · have i2 : (size : Int) ≤ (i : Int) := by omega
            have h0 : u = 0 := by
              rw [← HU.out, look_end xs 0 size i HT.out.rel.ok HT.out.rel.top (by omega)]
              rfl
            have H0 := Lib.hid h0
            clear h0
            go_wp2_with fail
            go_meet
            rw [H0.out]
            exact ⟨rfl, rfl⟩
        case rest =>
          obtain ⟨rfl, rfl⟩ := hcut
          go_upto_region 15 with fail
          go_cut [16, 91] (fun v16 v91 wx => ((k ≤ i ∧ i < k + n) ∧ v91 = .bool true ∨ ¬ (k ≤ i ∧ i < k + n) ∧ v91 = .bool false) ∧ v16 = .int .u8 u ∧ wx = wc)
          case first =>
            by_cases hki : k ≤ i
            · have i3 : (k : Int) ≤ (i : Int) := by omega
              by_cases hkn : i < k + n
              · have i4 : (i : Int) - (k : Int) < (n : Int) := by omega
                go_wp2_with fail
                go_meet
                exact ⟨.inl ⟨⟨hki, hkn⟩, rfl⟩, rfl, rfl⟩
              · have i4 : (n : Int) ≤ (i : Int) - (k : Int) := by omega
                have d4 : decide ((i : Int) - (k : Int) < (n : Int)) = false := by simp; omega
                go_wp2_with fail
                go_meet
                exact ⟨.inr ⟨by omega, rfl⟩, rfl, rfl⟩
            · have i3 : (i : Int) < (k : Int) := by omega
              go_wp2_with fail
              go_meet
              exact ⟨.inr ⟨by omega, rfl⟩, rfl, rfl⟩
          case rest =>
            obtain ⟨hc, rfl, rfl⟩ := hcut
            go_upto_if 91 with fail
            go_cut [16] (fun v16 wx => v16 = .int .u8 v ∧ wx = wc)
            case first =>
              rcases hc with ⟨hc, rfl⟩ | ⟨hc, rfl⟩
              · have hsp := HSP.out
                rw [if_pos hc] at hsp
                obtain ⟨b, hb⟩ : ∃ b, bs[i - k]? = some b := ⟨_, List.getElem?_eq_getElem (by rw [HNB.out]; omega)⟩
                have hvb : v = b := by rw [← HV.out, hsp, hb]; rfl
                subst hvb
                have hbac : BA wc Ab cb bs := HBA.out.keep HB4.out
                obtain ⟨gb, ob, rfl, hgb, qb⟩ := hbac.at_ hb
                have i5 : (k : Int) ≤ (i : Int) := by omega
                have i6 : (i : Int) - (k : Int) < (n : Int) := by omega
                have i7 : ((i : Int) - (k : Int)).toNat = i - k := by omega
                have i8 : (0 : Int) ≤ (i : Int) - (k : Int) := by omega
                clear hsp hb hbac hc
                go_wp2_with fail
                go_meet
                exact ⟨rfl, rfl⟩
              · have hsp := HSP.out
                rw [if_neg hc] at hsp
                have hvu : v = u := by rw [← HV.out, hsp]; exact HU.out
                have HVU := Lib.hid hvu
                clear hvu hsp hc
                go_wp2_with fail
                go_meet
                rw [HVU.out]
                exact ⟨rfl, rfl⟩
            case rest =>
              obtain ⟨rfl, rfl⟩ := hcut
              clear hc
              go_wp2_with fail
              go_roundg (gk - 1)
              case measure => have := HIG.out; omega
              case rel => exact ⟨i + 1, by rw [Int.natCast_succ], by have := HIG.out; omega, rfl⟩
      · have hin2 : i = sz := by have := HIG.out; omega
        subst hin2
        have d3 : decide ((i : Int) < (i : Int)) = false := by simp
        go_wp2_with fail
        refine (works_calls _).mono ?_
        rintro e w6 ⟨rfl, hb6⟩
        go_wp2
        go_ret
        exact ⟨rfl, HB4.out.trans (hb6.mono HB4.out.size)⟩
end Go.Proofs.Ytjochldpacgcgaa.U
