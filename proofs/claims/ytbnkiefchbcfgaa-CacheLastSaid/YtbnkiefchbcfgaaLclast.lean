/- The law CacheLast: what is read behind a write that was kept is it, and all else as it was. -/
import Derived.Test.YtbnkiefchbcfgaaClawk
set_option linter.unusedVariables false
set_option linter.unusedSimpArgs false
namespace Go.Proofs.Ytbnkiefchbcfgaa.U
open Go.RowKit Go.Proofs Go.Lib Go.Proofs.YtbnkiefchbcfgaaW.PrintWords

/-- One known byte. -/
theorem read_one {s : St} {n : Nat} (g : Good s n) (hl : 0 < s.lvl) {q : Nat} {v : Int} (h : look s.xs q = some v) : stOk s (q : Int) 1 = true ∧ stB s (q : Int) 1 = [v] := by
  have hq : q + 1 ≤ s.size := by
    rcases Nat.lt_or_ge q s.size with h1 | h1
    · exact h1
    · rw [look_end s.xs 0 s.size q g.fit.ok g.fit.top h1] at h
      cases h
  have hk : knB s.xs q 1 = true := by
    rw [knB_iff]
    intro j hj
    obtain rfl : j = 0 := by omega
    rw [Nat.add_zero, h]
    simp
  have e1 : (1 : Int).toNat = 1 := rfl
  have e : rdOk s.lvl s.size s.xs (q : Int) 1 = true := by
    unfold rdOk
    rw [Int.toNat_natCast, e1, hk, Bool.and_true, decide_eq_true_iff]
    omega
  refine ⟨e, ?_⟩
  unfold stB rdB
  rw [if_pos e, Int.toNat_natCast, e1]
  unfold bytesAt
  rw [show List.range 1 = [0] from rfl, List.map_cons, List.map_nil, Nat.add_zero, h]
  rfl
/-- What was written is read. -/
theorem read_wr {s : St} {n : Nat} (g : Good s n) {p : Nat} {bs : List Int} (h : wrOk s.lvl s.size (p : Int) bs.length = true) : stOk (stW s (p : Int) bs).2 (p : Int) (bs.length : Int) = true ∧ stB (stW s (p : Int) bs).2 (p : Int) (bs.length : Int) = bs := by
  obtain ⟨h1, h2, h3, h4, h5⟩ := wrOk_iff.1 h
  unfold stW
  rw [if_pos h]
  obtain ⟨r1, r2⟩ := wr_spec p bs h2 s.xs 0 g.fit.ok (Nat.zero_le _)
  have hk : knB (wr p bs s.xs) p bs.length = true := by
    rw [knB_iff]
    intro j hj
    rw [r2, if_pos ⟨by omega, by omega⟩, Nat.add_sub_cancel_left, List.getElem?_eq_getElem hj]
    simp
  have e : rdOk s.lvl s.size (wr p bs s.xs) (p : Int) (bs.length : Int) = true := by
    unfold rdOk
    rw [Int.toNat_natCast, Int.toNat_natCast, hk, Bool.and_true, decide_eq_true_iff]
    omega
  refine ⟨e, ?_⟩
  show rdB s.lvl s.size (wr p bs s.xs) (p : Int) (bs.length : Int) = bs
  unfold rdB
  rw [if_pos e, Int.toNat_natCast, Int.toNat_natCast]
  apply List.ext_getElem?
  intro j
  unfold bytesAt
  rw [List.getElem?_map]
  by_cases hj : j < bs.length
  · rw [List.getElem?_range hj, Option.map_some, r2, if_pos ⟨by omega, by omega⟩, Nat.add_sub_cancel_left, List.getElem?_eq_getElem hj]
    rfl
  · rw [List.getElem?_eq_none (by simp; omega), List.getElem?_eq_none (by omega)]
    rfl
set_option maxHeartbeats 8000000 in
set_option maxRecDepth 1000000 in
theorem CacheLast_bad (lvl : Nat) (size : Int) (A : Option Addr) (c k : Nat) (p : Int) (b : Value) (w : World) (hbad : NBad lvl size) :
    Calls Try.prog 6 #[.int .u8 (lvl : Int), .int .i64 size, .slice A k c, .int .i64 p, b] w fun e w' => e = .returned (.bool true) ∧ Below w.heap.size w w' := by
  have C1 := Lib.hid (played_bad lvl size A k c w hbad)
  clear hbad
  go_enter Try.func6, Try.ntmps6
  go_wp2_with fail
  refine (C1.out).mono ?_
  rintro e w1 ⟨rfl, hb1⟩
  have HB1 := Lib.hid hb1
  clear hb1 C1
  go_wp2_with fail
  refine (Pieces_off _ w1 (.inl rfl)).mono ?_
  rintro e w2 ⟨rfl, rfl⟩
  go_wp2_with fail
  refine (Open_off _ w2 (.inl rfl)).mono ?_
  rintro e w3 ⟨rfl, rfl⟩
  go_wp2_with fail
  refine (Write_off _ p _ w3 (.inl rfl)).mono ?_
  rintro e w4 ⟨rfl, rfl⟩
  go_wp2_with fail
  refine (Pieces_off _ w4 (.inl rfl)).mono ?_
  rintro e w5 ⟨rfl, rfl⟩
  go_wp2_with fail
  refine (Ext_same 0 0 _ _ [] w5 (NewX.nil _ _) (NewX.nil _ _) (by simp) (fun x hx => by cases hx)).mono ?_
  rintro e w6 ⟨rfl, hb6⟩
  have HB6 := Lib.hid (HB1.out.trans (hb6.mono HB1.out.size))
  clear hb6
  go_wp2_with fail
  refine (Open_off _ w6 (.inl rfl)).mono ?_
  rintro e w7 ⟨rfl, rfl⟩
  go_wp2_with fail
  refine (works_calls _).mono ?_
  rintro e w10 ⟨rfl, hb10⟩
  go_wp2
  go_ret
  exact ⟨rfl, HB6.out.trans (hb10.mono HB6.out.size)⟩
set_option maxHeartbeats 16000000 in
set_option maxRecDepth 1000000 in
theorem CacheLast_walk (lvl : Nat) (size : Int) (A : Option Addr) (c : Nat) (l : List ActV) (p : Int) (Ab : Option Addr) (cb : Nat) (bs : List Int) (w : World) (h : AR w A l) (hl : l.length ≤ 140737488351232) (hb : BA w Ab cb bs) (hbl : bs.length ≤ 140737488351232) :
    Calls Try.prog 6 #[.int .u8 (lvl : Int), .int .i64 size, .slice A l.length c, .int .i64 p, .slice Ab bs.length cb] w fun e w' => e = .returned (.bool true) ∧ Below w.heap.size w w' := by
  by_cases hbad : NBad lvl size
  · exact CacheLast_bad lvl size A c l.length p _ w hbad
  · obtain ⟨a, b, ha, rfl, hlv, hsz⟩ := NBad.not hbad (by omega)
    obtain rfl : lvl = a := by omega
    have C1 := Lib.hid (played_calls lvl b A c l w hlv hsz h (by omega))
    have HBA := Lib.hid hb
    obtain ⟨m, hm⟩ : ∃ m, bs.length = m := ⟨_, rfl⟩
    have HMB := Lib.hid hm
    rw [hm] at hbl ⊢
    clear h hl hbad ha hb hm
    go_enter Try.func6, Try.ntmps6
    go_wp2_with fail
    refine (C1.out).mono ?_
    rintro e w1 ⟨C, R, rfl, hp⟩
    obtain ⟨s, lA, cl, oA, oc, ha⟩ := Al.of hp
    have HA := Lib.hid ha
    clear ha hp C1
    go_wp2_with fail
    refine (LP HA.out).mono ?_
    rintro e w2 ⟨v2, rfl, hn2, hb2, ha2⟩
    have HN2 := Lib.hid hn2.toX
    have HA2 := Lib.hid ha2
    have HLT := Lib.hid HA.out.lt
    obtain ⟨A2, c2, rfl⟩ := hn2.toX.length
    obtain ⟨n, hn⟩ : ∃ n, s.xs.length = n := ⟨_, rfl⟩
    obtain ⟨on, hon⟩ : ∃ on, s.os.length = on := ⟨_, rfl⟩
    rw [hn] at HN2 ⊢
    have hn9 : n ≤ 1000000000 := by rw [← hn]; exact ha2.fits.1
    have hon9 : on ≤ 60 := by rw [← hon]; exact ha2.g.few
    have HLN := Lib.hid hn
    have HON := Lib.hid hon
    clear hn2 hb2 ha2 HA hn hon
    go_wp2_with fail
    refine (LOpen HA2.out).mono ?_
    rintro e w3 ⟨rfl, rfl⟩
    simp only [HON.out]
    obtain ⟨N, h1⟩ := HA2.out.d
    have hba3 : BA w3 Ab cb bs := HBA.out.keep HA2.out.b
    have cW := TW h1 HA2.out.g (by decide) p Ab bs cb hba3 (fun h0 g o e => by
      obtain ⟨g2, o2, e2, hg2, _⟩ := HBA.out.2 h0
      rw [e2] at e
      injection e with e
      injection e with e
      have h5 := HA2.out.bC
      exact ⟨by omega, fun o3 e3 => by have := HA2.out.bL g o3 e3; omega⟩)
    have hg' := HA2.out.g.w p bs
    rw [HMB.out] at cW
    have CW := Lib.hid cW
    have HG0 := Lib.hid HA2.out.g
    clear h1 cW hba3
    go_wp2_with fail
    refine (CW.out).mono ?_
    rintro e w4 ⟨rfl, hs4⟩
    have hfar : NewX w4 w1.heap.size (.slice A2 n c2) s.xs := by
      obtain ⟨_, _, _, _, _, hf, _⟩ := hs4
      exact HN2.out.far (hf.far HLT.out.1 HLT.out.2.1 HLT.out.2.2)
    cases hk : wrOk s.lvl s.size p bs.length with
    | false =>
      have e1 : stW s p bs = (false, s) := by unfold stW; rw [hk]; rfl
      rw [e1] at hs4 ⊢
      obtain ⟨⟨lA4, cl4, oA4, oc4, ha4⟩, _⟩ := HA2.out.step HA2.out.g hs4
      have HA4 := Lib.hid ha4
      have HFAR := Lib.hid hfar
      have HFIT := Lib.hid HA2.out.fits
      clear hs4 hfar ha4 CW HN2 HA2 HLT hk e1 hg'
      go_wp2_with fail
      refine (LP HA4.out).mono ?_
      rintro e w5 ⟨v5, rfl, hn5, hb5, ha5⟩
      have CE := Lib.hid (Ext_same _ _ v5 _ s.xs w5 hn5.toX (HFAR.out.below hb5) HFIT.out.1 HFIT.out.2)
      have HA5 := Lib.hid ha5
      clear hn5 hb5 ha5 HA4 HFAR
      go_wp2_with fail
      refine (CE.out).mono ?_
      rintro e w6 ⟨rfl, hb6⟩
      have HA6 := Lib.hid (HA5.out.below hb6)
      clear hb6 CE HA5
      go_wp2_with fail
      refine (LOpen HA6.out).mono ?_
      rintro e w7 ⟨rfl, rfl⟩
      simp only [HON.out]
      go_wp2_with fail
      refine (works_calls _).mono ?_
      rintro e w11 ⟨rfl, hb11⟩
      go_wp2
      go_ret
      exact ⟨rfl, HA6.out.b.trans (hb11.mono HA6.out.b.size)⟩
    | true =>
      obtain ⟨k1, k2, k3, k4, k5⟩ := wrOk_iff.1 hk
      obtain ⟨q, rfl⟩ : ∃ q : Nat, p = (q : Int) := ⟨p.toNat, by omega⟩
      have hq9 : q ≤ 65536 := by have := HG0.out.small; omega
      obtain ⟨r1, r2⟩ := read_wr HG0.out hk
      have e1 : (stW s (q : Int) bs).1 = true := by unfold stW; rw [hk]; rfl
      have e2 : (stW s (q : Int) bs).2.os.length = on + 1 := by
        unfold stW
        rw [hk, if_pos rfl]
        show (s.os ++ [_]).length = on + 1
        rw [List.length_append, List.length_singleton, HON.out]
      have e3 : (stW s (q : Int) bs).2.xs = wr q bs s.xs := by unfold stW; rw [hk, if_pos rfl]; rfl
      have e4 : (stW s (q : Int) bs).2.lvl = s.lvl := by unfold stW; rw [hk, if_pos rfl]
      rw [e1]
      obtain ⟨s', hs'⟩ : ∃ s', (stW s (q : Int) bs).2 = s' := ⟨_, rfl⟩
      rw [hs'] at r1 r2 e2 e3 e4 hg' hs4
      rw [HMB.out] at r1 r2 k2 k5
      have hst : ∃ lA' c' oA' oc' N', One w4 N' C s' lA' c' oA' oc' ∧ Below w.heap.size w w4 := by
        obtain ⟨lA', c', oA', oc', q1, q2, q3, q4⟩ := hs4
        exact ⟨lA', c', oA', oc', N, q1, q2.below HA2.out.b (Nat.le_refl _) HA2.out.bC HA2.out.bL HA2.out.bO⟩
      obtain ⟨lA4, cl4, oA4, oc4, N4, ho4, hb4⟩ := hst
      have hspec := (wr_spec q bs (by rw [HMB.out]; exact k2) s.xs 0 HG0.out.fit.ok (Nat.zero_le _)).2
      rw [← e3, HMB.out] at hspec
      have HSP := Lib.hid hspec
      have HE2 := Lib.hid e2
      have HLV := Lib.hid e4
      have HG := Lib.hid hg'
      have HR := Lib.hid (And.intro r1 r2)
      have HO4 := Lib.hid ho4
      have HB4 := Lib.hid hb4
      have HFAR := Lib.hid hfar
      have HL0 : Hid (0 < s'.lvl) := Lib.hid (by rw [e4]; omega)
      clear hs4 hfar ho4 hb4 CW HN2 HA2 HLT hk e1 e2 e3 e4 r1 r2 hs' hg' hspec N k4
      go_wp2_with fail
      refine (TR HO4.out HG.out (q : Int) (m : Int)).mono ?_
      rintro e w5 ⟨A5, c5, rfl, ha5⟩
      rw [HR.out.1, HR.out.2, HMB.out]
      have hbr5 := ha5.1
      rw [HR.out.2] at hbr5
      have hb5 := ha5.2.2.2
      have cE := Same_eq A5 Ab c5 cb bs w5 hbr5.ba (HBA.out.keep (HB4.out.trans (hb5.mono HB4.out.size))) (by rw [HMB.out]; omega)
      rw [HMB.out] at cE
      have CE := Lib.hid cE
      have HB5 := Lib.hid hb5
      clear ha5 hbr5 hb5 cE
      go_wp2_with fail
      refine (CE.out).mono ?_
      rintro e w6 ⟨rfl, hb6⟩
      have hb46 := HB5.out.trans (hb6.mono HB5.out.size)
      have HO6 := Lib.hid (HO4.out.below hb46)
      have HB6 := Lib.hid (HB4.out.trans (hb46.mono HB4.out.size))
      have HN6 := Lib.hid (HFAR.out.below hb46)
      clear hb6 hb46 CE HO4 HB4 HFAR HB5
      go_wp2_with fail
      refine (Open_calls HO6.out.d).mono ?_
      rintro e w7 ⟨rfl, rfl⟩
      simp only [HE2.out]
      go_wp2_with fail
      go_loopg [18] n (fun g v18 wr => ∃ i : Nat, v18 = .int .i64 (i : Int) ∧ i + g = n ∧ Below w7.heap.size w7 wr)
      case atStart => exact ⟨0, rfl, Nat.zero_add _, Below.refl _ _⟩
      case round =>
        obtain ⟨i, rfl, hig, hbw⟩ := hrel
        obtain ⟨gko, hgko⟩ : ∃ x, x = gk := ⟨_, rfl⟩
        subst hgko
        have HIG := Lib.hid hig
        have HBW := Lib.hid hbw
        clear hig
        by_cases hin : i < n
        · have d1 : decide ((i : Int) < (n : Int)) = true := by simp; omega
          have i1 : (i : Int) < (n : Int) := by omega
          obtain ⟨x, hx⟩ : ∃ x, s.xs[i]? = some x := ⟨_, List.getElem?_eq_getElem (by rw [HLN.out]; exact hin)⟩
          have hmem := List.mem_of_getElem? hx
          obtain ⟨L, k1', B1, d1', ee1, _, _, hLw, q1, q2, rr1, _⟩ := (HN6.out.below hbw).at_ hx
          injection ee1 with ee1 f1 g1
          clear f1 g1
          subst ee1
          have h0 := (HG0.out.fit.ok.mem x hmem).2
          have ht := HG0.out.fit.top x hmem
          have hsm := HG0.out.small
          have ex : en x = x.1 + x.2.length := rfl
          obtain ⟨gb, ob, csb, fzb, rfl, hgb, hcb⟩ := rr1.2 h0
          obtain ⟨xl, hxl⟩ : ∃ xl, x.2.length = xl := ⟨_, rfl⟩
          have hlook : ∀ j v, x.2[j]? = some v → look s.xs (x.1 + j) = some v := fun j v hj => by
            have hjl := (List.getElem?_eq_some_iff.1 hj).1
            rw [look_mem s.xs 0 HG0.out.fit.ok x hmem (x.1 + j) (by omega) (by omega), Nat.add_sub_cancel_left]
            exact hj
          have HLK := Lib.hid hlook
          have HXL := Lib.hid hxl
          have hxs : x.1 + xl ≤ 65536 := by omega
          rw [hxl] at q2
          have hcap : xl ≤ d1' := by rw [← hxl]; exact rr1.1
          have hcell : ∀ (w' : World), Below wr.heap.size wr w' → w'.cell? ⟨L, i * 2, none⟩ = some (.int .i64 (x.1 : Int)) ∧ w'.cell? ⟨L, i * 2 + 1, none⟩ = some (.slice (some ⟨gb, ob, none⟩) xl d1') ∧ ∀ j v, x.2[j]? = some v → w'.cell? ⟨gb, ob + j, none⟩ = some (.int .u8 v) := fun w' hb => by
            refine ⟨(hb.cell (p := ⟨L, i * 2, none⟩) hLw).trans q1, (hb.cell (p := ⟨L, i * 2 + 1, none⟩) hLw).trans q2, fun j v hj => ?_⟩
            rw [Lib.cell_of_heap (kept_below hb _ _ hgb)]
            exact hcb j v hj
          have KS := Lib.hid hcell
          clear hx hmem q1 q2 rr1 hgb hcb hlook hcell hxl ex ht h0 hbw
          go_wp2_with fail
          go_loopg [19] xl (fun g v19 wi => ∃ k : Nat, v19 = .int .i64 (k : Int) ∧ k + g = xl ∧ Below wr.heap.size wr wi)
          case atStart => exact ⟨0, rfl, Nat.zero_add _, Below.refl _ _⟩
          case round =>
            obtain ⟨k, rfl, hkx, hbi⟩ := hrel
            have HBI := Lib.hid hbi
            have HKX := Lib.hid hkx
            obtain ⟨q1, q2, q3⟩ := KS.out _ hbi
            clear hbi
            by_cases hkn : k < xl
            · have d2 : decide ((k : Int) < (xl : Int)) = true := by simp; omega
              have i2 : (k : Int) < (xl : Int) := by omega
              obtain ⟨v, hv⟩ : ∃ v, x.2[k]? = some v := ⟨_, List.getElem?_eq_getElem (by rw [HXL.out]; exact hkn)⟩
              have q4 := q3 k v hv
              have hlk := HLK.out k v hv
              obtain ⟨z, hz⟩ : ∃ z, x.1 + k = z := ⟨_, rfl⟩
              rw [hz] at hlk
              have hzl : z ≤ 65536 := by omega
              have hspz := HSP.out z
              obtain ⟨u, hu, huv⟩ : ∃ u, look s'.xs z = some u ∧ ((z < q ∨ q + m ≤ z) → u = v) := by
                by_cases hin2 : q ≤ z ∧ z < q + m
                · rw [if_pos hin2] at hspz
                  have hlt : z - q < bs.length := by rw [HMB.out]; omega
                  exact ⟨bs[z - q], by rw [hspz, List.getElem?_eq_getElem hlt], fun h => by omega⟩
                · rw [if_neg hin2, hlk] at hspz
                  exact ⟨v, hspz, fun _ => rfl⟩
              obtain ⟨r1, r2⟩ := read_one HG.out HL0.out hu
              have HR1 := Lib.hid (And.intro r1 r2)
              have hwz : (x.1 : Int) + (k : Int) = (z : Int) := by omega
              have CR := TR (HO6.out.below (HBW.out.trans (HBI.out.mono HBW.out.size))) HG.out (z : Int) 1
              rw [r1, r2] at CR
              have HCR := Lib.hid CR
              have HUV := Lib.hid huv
              have HV := Lib.hid hv
              clear q3 hv hlk hspz hu huv r1 r2 CR hz
              go_wp2_with fail
              refine (HCR.out).mono ?_
              rintro e w8 ⟨A8, c8, rfl, ha8⟩
              have hb8 := ha8.2.2.2
              have hb68 := HBI.out.trans (hb8.mono HBI.out.size)
              obtain ⟨q1', q2', q3'⟩ := KS.out _ hb68
              obtain ⟨g8, o8, cs8, fz8, rfl, hh8, hc8⟩ := ha8.1.2 (by simp)
              have q5 : w8.cell? ⟨g8, o8, none⟩ = some (.int .u8 u) := by
                have := hc8 0 u rfl
                rw [Nat.add_zero] at this
                rw [Lib.cell_of_heap hh8]
                exact this
              have HB68 := Lib.hid hb68
              have q6 := q3' k v HV.out
              have hwr : IntKind.i64.wrap ((z : Int) - (q : Int)) = (z : Int) - (q : Int) := by rw [IntKind.wrap_i64]; omega
              have huv := HUV.out
              clear ha8 hb8 hb68 q3' hh8 hc8 HCR q1 q2 q4
              by_cases z1 : z < q
              · obtain rfl := huv (.inl z1)
                clear huv
                go_wp2_with fail
                go_quiet (fail)
                go_wp2_with fail
                go_roundg (gk - 1)
                case measure => have := HKX.out; omega
                case rel => exact ⟨k + 1, by rw [Int.natCast_succ], by have := HKX.out; omega, HB68.out.trans (drewN_b _ _)⟩
              · by_cases z2 : q + m ≤ z
                · obtain rfl := huv (.inr z2)
                  have d3 : decide ((m : Int) ≤ (z : Int) - (q : Int)) = true := by simp; omega
                  clear huv
                  go_wp2_with fail
                  go_quiet (fail)
                  go_wp2_with fail
                  go_roundg (gk - 1)
                  case measure => have := HKX.out; omega
                  case rel => exact ⟨k + 1, by rw [Int.natCast_succ], by have := HKX.out; omega, HB68.out.trans (drewN_b _ _)⟩
                · have d3 : decide ((m : Int) ≤ (z : Int) - (q : Int)) = false := by simp; omega
                  clear huv
                  go_wp2_with fail
                  go_quiet (fail)
                  go_wp2_with fail
                  go_roundg (gk - 1)
                  case measure => have := HKX.out; omega
                  case rel => exact ⟨k + 1, by rw [Int.natCast_succ], by have := HKX.out; omega, HB68.out.trans (drewN_b _ _)⟩
            · have d2 : decide ((k : Int) < (xl : Int)) = false := by simp; omega
              clear q3
              go_wp2_with fail
              go_roundg (gko - 1)
              case measure => have := HIG.out; omega
              case rel => exact ⟨i + 1, by rw [Int.natCast_succ], by have := HIG.out; omega, HBW.out.trans (HBI.out.mono HBW.out.size)⟩
        · have d1 : decide ((i : Int) < (n : Int)) = false := by simp; omega
          have HF := Lib.hid (HB6.out.trans (hbw.mono HB6.out.size))
          clear hbw
          go_wp2_with fail
          refine (works_calls _).mono ?_
          rintro e w11 ⟨rfl, hb11⟩
          go_wp2
          go_ret
          exact ⟨rfl, HF.out.trans (hb11.mono HF.out.size)⟩
end Go.Proofs.Ytbnkiefchbcfgaa.U
