/- The law CacheOpen: what was written and not settled comes out again, in order. -/
import Derived.Test.YtbnkiefchbcfgaaCop
set_option linter.unusedVariables false
set_option linter.unusedSimpArgs false
namespace Go.Proofs.Ytbnkiefchbcfgaa.U
open Go.RowKit Go.Proofs Go.Lib Go.Proofs.YtbnkiefchbcfgaaW.PrintWords

set_option maxHeartbeats 16000000 in
set_option maxRecDepth 1000000 in
theorem CacheOpen_walk (Ab : Option Addr) (cb : Nat) (bs : List Int) (A : Option Addr) (c : Nat) (l : List ExtV) (w : World) (hb : BA w Ab cb bs) (hbl : bs.length ≤ 140737488351232) (h : ER w A l) (hl : l.length ≤ 140737488351232 ∧ ∀ a ∈ l, a.bs.length ≤ 140737488351232) :
    Calls Try.prog 3 #[.slice Ab bs.length cb, .slice A l.length c] w fun e w' => e = .returned (.bool true) ∧ Below w.heap.size w w' := by
  obtain ⟨m, hm⟩ : ∃ m, (bs.take 65536).length = m := ⟨_, rfl⟩
  obtain ⟨b2, hb2⟩ : ∃ b2, bs.take 65536 = b2 := ⟨_, rfl⟩
  obtain ⟨n0, hn0⟩ : ∃ n0, bs.length = n0 := ⟨_, rfl⟩
  obtain ⟨n, hn⟩ : ∃ n, l.length = n := ⟨_, rfl⟩
  have hm0 : m = min 65536 n0 := by rw [← hm, List.length_take, hn0]
  have hbc : n0 ≤ cb := by rw [← hn0]; exact hb.1
  have hba := hb.take 65536
  rw [hb2] at hm hba
  have HBA := Lib.hid hba
  have HM := Lib.hid hm
  have HM0 := Lib.hid hm0
  have HER := Lib.hid h
  have HN := Lib.hid hn
  have HLE := Lib.hid hl.2
  have hn9 : n ≤ 140737488351232 := by rw [← hn]; exact hl.1
  have hm9 : m ≤ 65536 := by omega
  have hmn : m ≤ n0 := by omega
  rw [hn0, hn]
  rw [hn0] at hbl
  have C1 := Lib.hid (New_ok (N := fun _ => False) 2 m w (by decide) hm9)
  have i1 : (0 : Int) ≤ (m : Int) := by omega
  have i2 : (m : Int) ≤ (cb : Int) := by omega
  have hmin : min (n0 : Int) 65536 = (m : Int) := by omega
  clear h hl hb hba hm hm0 hn hn0 hb2
  go_enter Try.func3, Try.ntmps3
  go_wp2_with fail
  refine (C1.out).mono ?_
  rintro e w1 ⟨rfl, hd1, hb1⟩
  have ho1 : One w1 (fun _ => False) w.heap.size ⟨2, m, [], []⟩ none 0 none 0 := ⟨hd1, fun k hk => hk.elim⟩
  obtain ⟨p1, p2⟩ := Pu.start m b2 HM.out hm9
  have cF := TF ho1 (Good.new 0 (by decide) hm9) (by decide) 0 Ab b2 cb (HBA.out.keep hb1)
  rw [p1, HM.out] at cF
  obtain ⟨s0, hs0⟩ : ∃ s0, (stF ⟨2, m, [], []⟩ 0 b2).2 = s0 := ⟨_, rfl⟩
  have hg0 := (Good.new (lvl := 2) (size := m) 0 (by decide) hm9).f 0 b2
  rw [hs0] at p2 cF hg0
  have CF := Lib.hid cF
  have HG0 := Lib.hid hg0
  have HP0 := Lib.hid p2
  have HB1 := Lib.hid hb1
  clear C1 hd1 hb1 ho1 p1 p2 cF hs0 hg0
  go_wp2_with fail
  refine (CF.out).mono ?_
  rintro e w2 ⟨rfl, hs2⟩
  obtain ⟨hb2, hst⟩ := Op.start HB1.out HG0.out hs2
  have cC := Rcopy_calls Ab cb b2 w2 (HBA.out.keep hb2) (by rw [HM.out]; omega)
  rw [HM.out] at cC
  have CC := Lib.hid cC
  have HST := Lib.hid hst
  clear CF hs2 hb2 hst cC HB1
  go_wp2_with fail
  refine (CC.out).mono ?_
  rintro e w3 ⟨vW, rfl, hown3, hb3⟩
  obtain ⟨AW, cW, rfl, hcW, hAW⟩ := own_slice_form hown3
  have hop3 := HST.out _ w3 b2 (by rw [HM.out]; exact hown3) hb3
  obtain ⟨D, hD⟩ : ∃ D, w.heap.size = D := ⟨_, rfl⟩
  rw [hD] at hop3 ⊢
  have HD := Lib.hid hD
  have HOP3 := Lib.hid hop3
  have HAW := Lib.hid hAW
  clear hown3 hb3 CC HST hop3 hD hAW
  go_wp2_with fail
  go_loopg [9, 10] n (fun g v9 v10 wr => ∃ i : Nat, v10 = .int .i64 (i : Int) ∧ i + g = n ∧ i ≤ 20 ∧ ∃ s W ks, Good s i ∧ Pu m s W ks i ∧ (∀ a ∈ ks, a ∈ l) ∧ Op w wr D (.slice AW m cW) v9 s W ks)
  case atStart => exact ⟨0, rfl, Nat.zero_add _, Nat.zero_le _, s0, b2, [], HG0.out, HP0.out, fun a ha => (by cases ha), HOP3.out⟩
  case round =>
    obtain ⟨i, rfl, hig, hi20, s, W, ks, hg, hp, hks, hop⟩ := hrel
    obtain ⟨gko, hgko⟩ : ∃ x, x = gk := ⟨_, rfl⟩
    subst hgko
    obtain ⟨A9, c9, hv9⟩ := hop.slice
    obtain ⟨kn, hkn⟩ : ∃ kn, ks.length = kn := ⟨_, rfl⟩
    rw [hkn] at hv9
    subst hv9
    have HKN := Lib.hid hkn
    clear hkn
    have HIG := Lib.hid hig
    have HG := Lib.hid hg
    have HP := Lib.hid hp
    have HKS := Lib.hid hks
    have HOP := Lib.hid hop
    have hWm : W.length = m := hp.rel.bl
    have HWM := Lib.hid hWm
    clear hg hp hks hop hWm HOP3 HP0 HG0
    by_cases hgo : i < n ∧ i < 20
    · obtain ⟨hin, hi2⟩ := hgo
      have d1 : decide ((i : Int) < (n : Int)) = true := by simp; omega
      have d2 : decide ((i : Int) < 20) = true := by simp; omega
      have i3 : (i : Int) < (n : Int) := by omega
      obtain ⟨g, o, rfl, hgw, hcell⟩ := HER.out (by rw [HN.out]; omega)
      obtain ⟨a, ha⟩ : ∃ a, l[i]? = some a := ⟨_, List.getElem?_eq_getElem (by rw [HN.out]; exact hin)⟩
      obtain ⟨r1, r2, r3⟩ := hcell i a ha
      have hKS : ∀ w', Below w.heap.size w w' → w'.cell? ⟨g, o + i * 2, none⟩ = some (.int .i64 a.p) ∧ w'.cell? ⟨g, o + i * 2 + 1, none⟩ = some (.slice a.A a.bs.length a.ca) := fun w' hb =>
        ⟨(hb.cell (p := ⟨g, o + i * 2, none⟩) hgw).trans r1, (hb.cell (p := ⟨g, o + i * 2 + 1, none⟩) hgw).trans r2⟩
      obtain ⟨aA, haA⟩ : ∃ aA, a.A = aA := ⟨_, rfl⟩
      have hmem := List.mem_of_getElem? ha
      have hal := HLE.out a hmem
      obtain ⟨al, hal2⟩ : ∃ al, a.bs.length = al := ⟨_, rfl⟩
      have hopd := HOP.out.below (below_drew1 (Below.refl wr.heap.size wr))
      have hS0 := hKS _ hopd.frame
      obtain ⟨lA, oA, cl, oc, hoc⟩ := hopd
      have cW0 := TW hoc.one HG.out (by omega) a.p a.A a.bs a.ca (r3.keep hoc.b) (fun h0 g2 o2 e => by
        obtain ⟨g3, o3, e3, hg3, _⟩ := r3.2 h0
        rw [e3] at e
        injection e with e
        injection e with e
        have h5 := hoc.bC
        exact ⟨by omega, fun o3 e3 => by have := hoc.bL g2 o3 e3; omega⟩)
      have hst : ∀ (s' : St) (w' : World), StepC wr.drew (fun k => (Value.slice AW m cW).ownBlock = some k) D lA oA s' w' → Op w w' D (.slice AW m cW) (.slice A9 kn c9) s' W ks := fun s' w' hs => hoc.step hs
      obtain ⟨ok, hok⟩ : ∃ ok, (stW s a.p a.bs).1 = ok := ⟨_, rfl⟩
      obtain ⟨s', hs'⟩ : ∃ s', (stW s a.p a.bs).2 = s' := ⟨_, rfl⟩
      rw [hok, hs', hal2, haA] at cW0
      rw [hal2, haA] at hKS hS0
      rw [haA] at r3
      have HAA := Lib.hid haA
      have CW := Lib.hid cW0
      have HST := Lib.hid hst
      have KS := Lib.hid hKS
      have HAL := Lib.hid hal2
      have HR3 := Lib.hid r3
      have HOK := Lib.hid (And.intro hok hs')
      have HMEM := Lib.hid hmem
      have HGW := Lib.hid hgw
      have hal9 : al ≤ 140737488351232 := by omega
      clear hcell ha haA r1 r2 r3 hmem hal hoc cW0 hst hok hs' hKS hal2 hgw hig
      go_wp2_with fail
      refine AnyL.start (fun w' => w'.cell? ⟨g, o + i * 2, none⟩ = some (.int .i64 a.p) ∧ w'.cell? ⟨g, o + i * 2 + 1, none⟩ = some (.slice aA al a.ca)) 99 (by kernel_rfl) hS0 (fun hHeld => ?_)
      refine AnyL.take (i := 0) (v := ?vy0) rfl (by kernel_rfl) (by kernel_rfl) (by kernel_rfl) (by kernel_rfl) (fun _ _ _ h => h) (by assumption) (Or.inl ⟨by rfl, ?y0⟩) ?ry0
      case y0 => (intro w hSw; (try dsimp only at hSw); go_simp; try with_reducible rfl)
      try simp only [Act.put, List.setIfInBounds_toArray, List.set_cons_zero, List.set_cons_succ]
      refine AnyL.take (i := 1) (v := ?vy1) rfl (by kernel_rfl) (by kernel_rfl) (by kernel_rfl) (by kernel_rfl) (fun _ _ _ h => h) (by assumption) (Or.inl ⟨by rfl, ?y1⟩) ?ry1
      case y1 => (intro w hSw; (try dsimp only at hSw); go_simp; try with_reducible rfl)
      try simp only [Act.put, List.setIfInBounds_toArray, List.set_cons_zero, List.set_cons_succ]
      refine AnyL.take (i := 2) (v := ?vy2) rfl (by kernel_rfl) (by kernel_rfl) (by kernel_rfl) (by kernel_rfl) (fun _ _ _ h => h) (by assumption) (Or.inl ⟨by rfl, ?y2⟩) ?ry2
      case y2 => (intro w hSw; (try dsimp only at hSw); go_simp; try with_reducible rfl)
      try simp only [Act.put, List.setIfInBounds_toArray, List.set_cons_zero, List.set_cons_succ]
      refine AnyL.take (i := 3) (v := ?vy3) rfl (by kernel_rfl) (by kernel_rfl) (by kernel_rfl) (by kernel_rfl) (fun _ _ _ h => h) (by assumption) (Or.inl ⟨by rfl, ?y3⟩) ?ry3
      case y3 => (intro w hSw; (try dsimp only at hSw); go_simp; try with_reducible rfl)
      try simp only [Act.put, List.setIfInBounds_toArray, List.set_cons_zero, List.set_cons_succ]
      refine AnyL.take (i := 4) (v := ?vy4) rfl (by kernel_rfl) (by kernel_rfl) (by kernel_rfl) (by kernel_rfl) (fun _ _ _ h => h) (by assumption) (Or.inl ⟨by rfl, ?y4⟩) ?ry4
      case y4 => (intro w hSw; (try dsimp only at hSw); go_simp; try with_reducible rfl)
      try simp only [Act.put, List.setIfInBounds_toArray, List.set_cons_zero, List.set_cons_succ]
      refine AnyL.take (i := 5) (v := ?vy5) rfl (by kernel_rfl) (by kernel_rfl) (by kernel_rfl) (by kernel_rfl) (fun _ _ _ h => h) (by assumption) (Or.inl ⟨by rfl, ?y5⟩) ?ry5
      case y5 => (intro w hSw; (try dsimp only at hSw); go_simp; try with_reducible rfl)
      try simp only [Act.put, List.setIfInBounds_toArray, List.set_cons_zero, List.set_cons_succ]
      refine AnyL.take (i := 6) (v := ?vy6) rfl (by kernel_rfl) (by kernel_rfl) (by kernel_rfl) (by kernel_rfl) (fun _ _ _ h => h) (by assumption) (Or.inl ⟨by rfl, ?y6⟩) ?ry6
      case y6 => (intro w hSw; (try dsimp only at hSw); go_simp; try with_reducible rfl)
      try simp only [Act.put, List.setIfInBounds_toArray, List.set_cons_zero, List.set_cons_succ]
      refine AnyL.take (i := 7) (v := ?vy7) rfl (by kernel_rfl) (by kernel_rfl) (by kernel_rfl) (by kernel_rfl) (fun _ _ _ h => h) (by assumption) (Or.inl ⟨by rfl, ?y7⟩) ?ry7
      case y7 => (intro w hSw; (try dsimp only at hSw); go_simp; try with_reducible rfl)
      try simp only [Act.put, List.setIfInBounds_toArray, List.set_cons_zero, List.set_cons_succ]
      refine AnyL.take (i := 8) (v := ?vy8) rfl (by kernel_rfl) (by kernel_rfl) (by kernel_rfl) (by kernel_rfl) (fun _ _ _ h => h) (by assumption) (Or.inl ⟨by rfl, ?y8⟩) ?ry8
      case y8 => (intro w hSw; (try dsimp only at hSw); go_simp; try with_reducible rfl)
      try simp only [Act.put, List.setIfInBounds_toArray, List.set_cons_zero, List.set_cons_succ]
      refine AnyL.take (i := 9) (v := ?vy9) rfl (by kernel_rfl) (by kernel_rfl) (by kernel_rfl) (by kernel_rfl) (fun _ _ _ h => h) (by assumption) (Or.inl ⟨by rfl, ?y9⟩) ?ry9
      case y9 => (intro w hSw; (try dsimp only at hSw); go_simp; try with_reducible rfl)
      try simp only [Act.put, List.setIfInBounds_toArray, List.set_cons_zero, List.set_cons_succ]
      refine AnyL.take (i := 10) (v := ?vy10) rfl (by kernel_rfl) (by kernel_rfl) (by kernel_rfl) (by kernel_rfl) (fun _ _ _ h => h) (by assumption) (Or.inl ⟨by rfl, ?y10⟩) ?ry10
      case y10 => (intro w hSw; (try dsimp only at hSw); go_simp; try with_reducible rfl)
      try simp only [Act.put, List.setIfInBounds_toArray, List.set_cons_zero, List.set_cons_succ]
      refine AnyL.one (i := 11) (by kernel_rfl) rfl (fun K hK => ?_)
      go_simp
      refine (CW.out).mono ?_
      rintro e w5 ⟨rfl, hs5⟩
      have hop5 := HST.out _ _ hs5
      refine hK.out _ _ (.inr (KS.out _ hop5.frame)) ?_
      clear hHeld hK K
      have hHeld := KS.out _ hop5.frame
      try simp only [Act.put, List.setIfInBounds_toArray, List.set_cons_zero, List.set_cons_succ]
      refine AnyL.take (i := 12) (v := ?vz12) rfl (by kernel_rfl) (by kernel_rfl) (by kernel_rfl) (by kernel_rfl) (fun _ _ _ h => h) (by assumption) (Or.inl ⟨by rfl, ?z12⟩) ?rz12
      case z12 => (intro w hSw; (try dsimp only at hSw); go_simp; try with_reducible rfl)
      try simp only [Act.put, List.setIfInBounds_toArray, List.set_cons_zero, List.set_cons_succ]
      refine AnyL.done (by kernel_rfl) ?_ _
      have HOP5 := Lib.hid hop5
      clear CW HST hs5 hop5 hS0
      cases ok with
      | false =>
        obtain ⟨hok, hs'⟩ := HOK.out
        rw [stW_false hok] at hs'
        subst hs'
        clear hok
        go_wp2_with fail
        go_roundg (gko - 1)
        case measure => have := HIG.out; omega
        case rel => exact ⟨i + 1, by rw [Int.natCast_succ], by have := HIG.out; omega, by omega, s, W, ks, HG.out.mono (Nat.le_succ _), HP.out.next (Nat.le_succ _), HKS.out, HOP5.out⟩
      | true =>
        obtain ⟨hok, hs'⟩ := HOK.out
        have hk := stW_true hok
        obtain ⟨k1, k2, k3, k4, k5⟩ := wrOk_iff.1 hk
        rw [HAL.out] at k2 k5
        rw [HP.out.size] at k4 k5
        obtain ⟨q, hq⟩ : ∃ q : Nat, a.p = (q : Int) := ⟨a.p.toNat, by omega⟩
        have hp6 := HP.out.write a hq hk
        have hg6 := HG.out.w a.p a.bs
        rw [hs'] at hp6 hg6
        have HP6 := Lib.hid hp6
        have HG6 := Lib.hid hg6
        have HQ := Lib.hid hq
        have hqm : q + al ≤ m := by omega
        obtain ⟨gb, ob, rfl, hgb, hcb⟩ := HR3.out.2 (by rw [HAL.out]; omega)
        have HGB := Lib.hid hgb
        have HCB := Lib.hid hcb
        have hbv : Below w5.heap.size w5 (w5.alloc (.cells #[.int .i64 a.p, .slice (some ⟨gb, ob, none⟩) al a.ca] 32)) := (Below.refl _ _).alloc (Nat.le_refl _) _
        have hV := heap_alloc_new w5 (.cells #[.int .i64 a.p, .slice (some ⟨gb, ob, none⟩) al a.ca] 32)
        obtain ⟨wv, hwv⟩ : ∃ wv, w5.alloc (.cells #[.int .i64 a.p, .slice (some ⟨gb, ob, none⟩) al a.ca] 32) = wv := ⟨_, rfl⟩
        rw [hwv] at hbv hV
        rw [← HAL.out, ← HAA.out] at hV
        obtain ⟨v8, w8, r1, hop8⟩ := (HOP5.out.below hbv).app (cV := 1) 23 a hV (by have := HP.out.few; omega)
        have HR1 := Lib.hid r1
        have HOP8 := Lib.hid hop8
        have hak : ∀ b ∈ ks ++ [a], b ∈ l := fun b hb => by
          rcases List.mem_append.1 hb with hb | hb
          · exact HKS.out b hb
          · rw [List.mem_singleton.1 hb]
            exact HMEM.out
        have HAK := Lib.hid hak
        clear hok hs' hk k1 k3 k4 k5 hp6 hg6 hbv hV r1 hop8 hak hq hgb hcb
        go_wp2_with (at_builtin; refine Lib.wpList_append_run _ rfl _ _ _ _ rfl _ _ rfl rfl _ _ HR1.out ?_)
        clear hwv hHeld HOP5 HR1
        go_wp2_with fail
        go_loopg [11] al (fun g v11 wi => ∃ k : Nat, v11 = .int .i64 (k : Int) ∧ k + g = al ∧ Op w wi D (.slice AW m cW) v8 s' (rput q (a.bs.take k) W) (ks ++ [a]))
        case atStart => exact ⟨0, rfl, Nat.zero_add _, by rw [List.take_zero, rput_nil]; exact HOP8.out⟩
        case round =>
          obtain ⟨k, rfl, hkg, hopi⟩ := hrel
          have HKG := Lib.hid hkg
          have HOPI := Lib.hid hopi
          obtain ⟨q1, q2⟩ := KS.out _ hopi.frame
          clear hopi hkg HOP8
          by_cases hkl : k < al
          · have d3 : decide ((k : Int) < (al : Int)) = true := by simp; omega
            have j1 : (k : Int) < (al : Int) := by omega
            have hm0 : 0 < m := by omega
            rcases HAW.out with ⟨_, e2⟩ | ⟨gW, rfl⟩
            · omega
            obtain ⟨b, hbk⟩ : ∃ b, a.bs[k]? = some b := ⟨_, List.getElem?_eq_getElem (by rw [HAL.out]; exact hkl)⟩
            have hlen : (rput q (a.bs.take k) W).length = m := by rw [rput_length (by rw [List.length_take, HWM.out]; omega)]; exact HWM.out
            have q3' : ∀ w', Below w.heap.size w w' → w'.cell? ⟨gb, ob + k, none⟩ = some (.int .u8 b) := fun w' hb => by
              have h1 := HCB.out k (.int .u8 b) (by unfold nums; rw [List.getElem?_map, hbk]; rfl)
              rw [Addr.add_lit] at h1
              exact (hb.cell (p := ⟨gb, ob + k, none⟩) HGB.out).trans h1
            have q3 := q3' _ HOPI.out.frame
            have hown := (HOPI.out).own
            rw [hlen] at hown
            obtain ⟨ub, hub⟩ : ∃ ub, (nums .u8 (rput q (a.bs.take k) W))[q + k]? = some ub := ⟨_, List.getElem?_eq_getElem (by rw [nums_len, hlen]; omega)⟩
            have q4 : wr.cell? ⟨gW, q + k, none⟩ = some ub := (hown.cellAt (q + k) (by omega)).trans hub
            have f4 : wr.frozen? ⟨gW, q + k, none⟩ = false := hown.frozenAt (q + k)
            have hop9 := (HOPI.out).store HG6.out hlen.symm (q + k) b
            rw [rput_step q a.bs W k b hbk (by rw [HWM.out]; omega)] at hop9
            obtain ⟨w9, hw9⟩ : ∃ w9, wr.setCell ⟨gW, q + k, none⟩ (.int .u8 b) = w9 := ⟨_, rfl⟩
            rw [hw9] at hop9
            have HOP9 := Lib.hid (hop9.below (below_drew1 (Below.refl _ _)))
            have j2 : (0 : Int) ≤ (q : Int) + (k : Int) := by omega
            have j3 : (q : Int) + (k : Int) < (m : Int) := by omega
            have w2e : IntKind.i64.wrap (a.p + (k : Int)) = (q : Int) + (k : Int) := by rw [HQ.out]; exact wrap_small _ (by omega) (by omega)
            have j5 : ((q : Int) + (k : Int)).toNat = q + k := by omega
            clear hbk q3' hown hub hop9 hlen
            go_wp2_with fail
            refine AnyL.start (fun w' => w'.cell? ⟨g, o + i * 2, none⟩ = some (.int .i64 a.p) ∧ w'.cell? ⟨g, o + i * 2 + 1, none⟩ = some (.slice (some ⟨gb, ob, none⟩) al a.ca) ∧ w'.cell? ⟨gb, ob + k, none⟩ = some (.int .u8 b)) 17 (by kernel_rfl) ⟨q1, q2, q3⟩ (fun hHeld => ?_)
            refine AnyL.take (i := 0) (v := ?vx0) rfl (by kernel_rfl) (by kernel_rfl) (by kernel_rfl) (by kernel_rfl) (fun _ _ _ h => h) (by assumption) (Or.inl ⟨by rfl, ?x0⟩) ?rx0
            case x0 => (intro w hSw; (try dsimp only at hSw); go_simp; try with_reducible rfl)
            try simp only [Act.put, List.setIfInBounds_toArray, List.set_cons_zero, List.set_cons_succ]
            refine AnyL.take (i := 1) (v := ?vx1) rfl (by kernel_rfl) (by kernel_rfl) (by kernel_rfl) (by kernel_rfl) (fun _ _ _ h => h) (by assumption) (Or.inl ⟨by rfl, ?x1⟩) ?rx1
            case x1 => (intro w hSw; (try dsimp only at hSw); go_simp; try with_reducible rfl)
            try simp only [Act.put, List.setIfInBounds_toArray, List.set_cons_zero, List.set_cons_succ]
            refine AnyL.take (i := 2) (v := ?vx2) rfl (by kernel_rfl) (by kernel_rfl) (by kernel_rfl) (by kernel_rfl) (fun _ _ _ h => h) (by assumption) (Or.inl ⟨by rfl, ?x2⟩) ?rx2
            case x2 => (intro w hSw; (try dsimp only at hSw); go_simp; try with_reducible rfl)
            try simp only [Act.put, List.setIfInBounds_toArray, List.set_cons_zero, List.set_cons_succ]
            refine AnyL.take (i := 3) (v := ?vx3) rfl (by kernel_rfl) (by kernel_rfl) (by kernel_rfl) (by kernel_rfl) (fun _ _ _ h => h) (by assumption) (Or.inl ⟨by rfl, ?x3⟩) ?rx3
            case x3 => (intro w hSw; (try dsimp only at hSw); go_simp; try with_reducible rfl)
            try simp only [Act.put, List.setIfInBounds_toArray, List.set_cons_zero, List.set_cons_succ]
            refine AnyL.take (i := 4) (v := ?vx4) rfl (by kernel_rfl) (by kernel_rfl) (by kernel_rfl) (by kernel_rfl) (fun _ _ _ h => h) (by assumption) (Or.inl ⟨by rfl, ?x4⟩) ?rx4
            case x4 => (intro w hSw; (try dsimp only at hSw); go_simp; try with_reducible rfl)
            try simp only [Act.put, List.setIfInBounds_toArray, List.set_cons_zero, List.set_cons_succ]
            refine AnyL.take (i := 5) (v := ?vx5) rfl (by kernel_rfl) (by kernel_rfl) (by kernel_rfl) (by kernel_rfl) (fun _ _ _ h => h) (by assumption) (Or.inl ⟨by rfl, ?x5⟩) ?rx5
            case x5 => (intro w hSw; (try dsimp only at hSw); go_simp; try with_reducible rfl)
            try simp only [Act.put, List.setIfInBounds_toArray, List.set_cons_zero, List.set_cons_succ]
            refine AnyL.take (i := 6) (v := ?vx6) rfl (by kernel_rfl) (by kernel_rfl) (by kernel_rfl) (by kernel_rfl) (fun _ _ _ h => h) (by assumption) (Or.inl ⟨by rfl, ?x6⟩) ?rx6
            case x6 => (intro w hSw; (try dsimp only at hSw); go_simp; try with_reducible rfl)
            try simp only [Act.put, List.setIfInBounds_toArray, List.set_cons_zero, List.set_cons_succ]
            refine AnyL.take (i := 7) (v := ?vx7) rfl (by kernel_rfl) (by kernel_rfl) (by kernel_rfl) (by kernel_rfl) (fun _ _ _ h => h) (by assumption) (Or.inl ⟨by rfl, ?x7⟩) ?rx7
            case x7 => (intro w hSw; (try dsimp only at hSw); go_simp; try with_reducible rfl)
            try simp only [Act.put, List.setIfInBounds_toArray, List.set_cons_zero, List.set_cons_succ]
            refine AnyL.take (i := 8) (v := ?vx8) rfl (by kernel_rfl) (by kernel_rfl) (by kernel_rfl) (by kernel_rfl) (fun _ _ _ h => h) (by assumption) (Or.inl ⟨by rfl, ?x8⟩) ?rx8
            case x8 => (intro w hSw; (try dsimp only at hSw); go_simp; try with_reducible rfl)
            try simp only [Act.put, List.setIfInBounds_toArray, List.set_cons_zero, List.set_cons_succ]
            refine AnyL.take (i := 9) (v := ?vx9) rfl (by kernel_rfl) (by kernel_rfl) (by kernel_rfl) (by kernel_rfl) (fun _ _ _ h => h) (by assumption) (Or.inl ⟨by rfl, ?x9⟩) ?rx9
            case x9 => (intro w hSw; (try dsimp only at hSw); go_simp; try with_reducible rfl)
            try simp only [Act.put, List.setIfInBounds_toArray, List.set_cons_zero, List.set_cons_succ]
            refine AnyL.take (i := 10) (v := ?vx10) rfl (by kernel_rfl) (by kernel_rfl) (by kernel_rfl) (by kernel_rfl) (fun _ _ _ h => h) (by assumption) (Or.inl ⟨by rfl, ?x10⟩) ?rx10
            case x10 => (intro w hSw; (try dsimp only at hSw); go_simp; try with_reducible rfl)
            try simp only [Act.put, List.setIfInBounds_toArray, List.set_cons_zero, List.set_cons_succ]
            refine AnyL.take (i := 11) (v := ?vx11) rfl (by kernel_rfl) (by kernel_rfl) (by kernel_rfl) (by kernel_rfl) (fun _ _ _ h => h) (by assumption) (Or.inl ⟨by rfl, ?x11⟩) ?rx11
            case x11 => (intro w hSw; (try dsimp only at hSw); go_simp; try with_reducible rfl)
            try simp only [Act.put, List.setIfInBounds_toArray, List.set_cons_zero, List.set_cons_succ]
            refine AnyL.take (i := 12) (v := ?vx12) rfl (by kernel_rfl) (by kernel_rfl) (by kernel_rfl) (by kernel_rfl) (fun _ _ _ h => h) (by assumption) (Or.inl ⟨by rfl, ?x12⟩) ?rx12
            case x12 => (intro w hSw; (try dsimp only at hSw); go_simp; try with_reducible rfl)
            try simp only [Act.put, List.setIfInBounds_toArray, List.set_cons_zero, List.set_cons_succ]
            refine AnyL.take (i := 13) (v := ?vx13) rfl (by kernel_rfl) (by kernel_rfl) (by kernel_rfl) (by kernel_rfl) (fun _ _ _ h => h) (by assumption) (Or.inl ⟨by rfl, ?x13⟩) ?rx13
            case x13 => (intro w hSw; (try dsimp only at hSw); go_simp; try with_reducible rfl)
            try simp only [Act.put, List.setIfInBounds_toArray, List.set_cons_zero, List.set_cons_succ]
            refine AnyL.take (i := 14) (v := ?vx14) rfl (by kernel_rfl) (by kernel_rfl) (by kernel_rfl) (by kernel_rfl) (fun _ _ _ h => h) (by assumption) (Or.inl ⟨by rfl, ?x14⟩) ?rx14
            case x14 => (intro w hSw; (try dsimp only at hSw); go_simp; try with_reducible rfl)
            try simp only [Act.put, List.setIfInBounds_toArray, List.set_cons_zero, List.set_cons_succ]
            refine AnyL.take (i := 15) (v := ?vx15) rfl (by kernel_rfl) (by kernel_rfl) (by kernel_rfl) (by kernel_rfl) (fun _ _ _ h => h) (by assumption) (Or.inl ⟨by rfl, ?x15⟩) ?rx15
            case x15 => (intro w hSw; (try dsimp only at hSw); go_simp; try with_reducible rfl)
            try simp only [Act.put, List.setIfInBounds_toArray, List.set_cons_zero, List.set_cons_succ]
            refine AnyL.take (i := 16) (v := ?vx16) rfl (by kernel_rfl) (by kernel_rfl) (by kernel_rfl) (by kernel_rfl) (fun _ _ _ h => h) (by assumption) (Or.inl ⟨by rfl, ?x16⟩) ?rx16
            case x16 => (intro w hSw; (try dsimp only at hSw); go_simp; try with_reducible rfl)
            try simp only [Act.put, List.setIfInBounds_toArray, List.set_cons_zero, List.set_cons_succ]
            refine AnyL.one (i := 17) (by kernel_rfl) rfl (fun K hK => ?_)
            go_simp
            refine hK.out _ _ (.inl rfl) ?_
            clear hHeld hK K
            refine AnyL.done (by kernel_rfl) ?_ _
            clear hw9 q1 q2 q3 q4 f4
            go_wp2_with fail
            go_roundg (gk - 1)
            case measure => have := HKG.out; omega
            case rel => exact ⟨k + 1, by rw [Int.natCast_succ], by have := HKG.out; omega, HOP9.out⟩
          · obtain rfl : k = al := by have := HKG.out; omega
            have d3 : decide ((k : Int) < (k : Int)) = false := by simp
            have e1 : a.bs.take k = a.bs := List.take_of_length_le (by rw [HAL.out]; exact Nat.le_refl _)
            have hopf := HOPI.out
            rw [e1] at hopf
            have HOPF := Lib.hid hopf
            clear e1 hopf
            go_wp2_with fail
            go_roundg (gko - 1)
            case measure => have := HIG.out; omega
            case rel => exact ⟨i + 1, by rw [Int.natCast_succ], by have := HIG.out; omega, by omega, s', _, ks ++ [a], HG6.out, HP6.out, HAK.out, HOPF.out⟩
    · --TAIL
      by_cases hin : i < n
      · have d1 : decide ((i : Int) < (n : Int)) = true := by simp; omega
        have d2 : decide ((i : Int) < 20) = false := by simp; omega
        rcases Nat.eq_zero_or_pos m with hm0 | hm0
        · obtain ⟨lA, oA, cl, oc, hoc⟩ := HOP.out
          have cR := TR hoc.one HG.out 0 (m : Int)
          subst hm0
          obtain ⟨e1, e2⟩ := HP.out.read0
          have hW0 : W = [] := List.eq_nil_of_length_eq_zero HWM.out
          have e3 : stB s 0 ((0 : Nat) : Int) = [] := e2
          have e4 : stOk s 0 ((0 : Nat) : Int) = false := e1
          rw [e4, e3] at cR
          have hon : s.os.length = kn := by rw [HP.out.os, List.length_map, HKN.out]
          have HON := Lib.hid hon
          have hk20 : kn ≤ 20 := by have := HP.out.few; rw [HKN.out] at this; omega
          have CR := Lib.hid cR
          clear hoc cR e1 e2 hon
          go_wp2_with fail
          refine (CR.out).mono ?_
          rintro e w5 ⟨A5, c5, rfl, ha5⟩
          have hop5 := HOP.out.below ha5.2.2.2
          have HOP6 := Lib.hid hop5
          clear ha5 hop5 CR
          obtain ⟨lA6, oA6, cl6, oc6, hoc6⟩ := HOP6.out
          have cO := Open_calls hoc6.one.d
          rw [HON.out] at cO
          have CO := Lib.hid cO
          clear hoc6 cO
          go_wp2_with fail
          refine (CO.out).mono ?_
          rintro e w7 ⟨rfl, rfl⟩
          clear CO
          go_wp2_with fail
          go_loopg [14] kn (fun g v14 wr => ∃ j : Nat, v14 = .int .i64 (j : Int) ∧ j + g = kn ∧ ∃ s2, Good s2 20 ∧ s2.os = (ks.drop j).map (fun a => (a.p.toNat, a.bs)) ∧ Op w wr D (.slice AW 0 cW) (.slice A9 kn c9) s2 W ks)
          case atStart => exact ⟨0, rfl, Nat.zero_add _, s, HG.out.mono hi20, by rw [List.drop_zero]; exact HP.out.os, HOP6.out⟩
          case round =>
            obtain ⟨j, rfl, hjg, s2, hg2, hos2, hop⟩ := hrel
            have HJG := Lib.hid hjg
            have HG2 := Lib.hid hg2
            have HOPJ := Lib.hid hop
            clear hjg hop HOP6
            by_cases hjn : j < kn
            · have d5 : decide ((j : Int) < (kn : Int)) = true := by simp; omega
              have j1 : (j : Int) < (kn : Int) := by omega
              obtain ⟨a, ha⟩ : ∃ a, ks[j]? = some a := ⟨_, List.getElem?_eq_getElem (by rw [HKN.out]; exact hjn)⟩
              have hmem := List.mem_of_getElem? ha
              rw [drop_map ha] at hos2
              have hpos := HP.out.pos a hmem
              have hba := HER.out.ba (HKS.out a hmem)
              have hal := HLE.out a (HKS.out a hmem)
              obtain ⟨al, hal2⟩ : ∃ al, a.bs.length = al := ⟨_, rfl⟩
              rw [hal2] at hal
              obtain ⟨lA, oA, cl, oc, hoc⟩ := HOPJ.out
              have cF : Calls Try.prog 18 #[.pointer (some ⟨D, 0, none⟩)] wr fun e w' => ∃ A ca, e = .returned (.tuple #[.int .i64 ((a.p.toNat : Nat) : Int), .slice A a.bs.length ca, .bool true]) ∧ Ans wr w' A ca a.bs := by
                have := TFi hoc.one hg2
                rw [stFi_cons hos2] at this
                exact this
              rw [Int.toNat_of_nonneg hpos, hal2] at cF
              have CF := Lib.hid cF
              have HAT : Hid (∀ w', Op w w' D (.slice AW 0 cW) (.slice A9 kn c9) s2 W ks → ∃ L, A9 = some ⟨L, 0, none⟩ ∧ w'.cell? ⟨L, j * 2, none⟩ = some (.int .i64 a.p) ∧ w'.cell? ⟨L, j * 2 + 1, none⟩ = some (.slice a.A al a.ca)) := Lib.hid fun w' h' => by
                have := h'.at_ ha
                rw [hal2] at this
                exact this
              have HBAA := Lib.hid hba
              have HAL := Lib.hid hal2
              have HOS := Lib.hid hos2
              clear ha hmem hos2 hpos hba hal2 hoc cF hg2
              go_wp2_with fail
              refine (CF.out).mono ?_
              rintro e w8 ⟨A8, c8, rfl, ha8⟩
              have hop8 := HOPJ.out.below ha8.2.2.2
              obtain ⟨L, rfl, q1, q2⟩ := HAT.out _ hop8
              have cS := Same_eq A8 a.A c8 a.ca a.bs w8 ha8.1.ba (HBAA.out.keep hop8.frame) (by rw [HAL.out]; omega)
              rw [HAL.out] at cS
              have CS2 := Lib.hid cS
              have HOP8 := Lib.hid hop8
              clear ha8 hop8 cS CF HOPJ
              go_wp2_with fail
              refine (CS2.out).mono ?_
              rintro e w9 ⟨rfl, hb9⟩
              have HOP9 := Lib.hid (HOP8.out.below hb9)
              obtain ⟨lA9, oA9, cl9, oc9, hoc9⟩ := HOP9.out
              have cT := TS hoc9.one
              rw [stS_cons HOS.out] at cT
              have hst : ∀ (w' : World), StepC w9 (fun k => (Value.slice AW 0 cW).ownBlock = some k) D lA9 oA9 ⟨s2.lvl, s2.size, s2.xs, (ks.drop (j + 1)).map (fun a => (a.p.toNat, a.bs))⟩ w' → Op w w' D (.slice AW 0 cW) (.slice (some ⟨L, 0, none⟩) kn c9) ⟨s2.lvl, s2.size, s2.xs, (ks.drop (j + 1)).map (fun a => (a.p.toNat, a.bs))⟩ W ks := fun w' hs => hoc9.step hs
              have hg3 := HG2.out.s
              rw [stS_cons HOS.out] at hg3
              obtain ⟨s3, hs3⟩ : ∃ s3 : St, (⟨s2.lvl, s2.size, s2.xs, (ks.drop (j + 1)).map (fun a => (a.p.toNat, a.bs))⟩ : St) = s3 := ⟨_, rfl⟩
              have hos3 : s3.os = (ks.drop (j + 1)).map (fun a => (a.p.toNat, a.bs)) := by rw [← hs3]
              rw [hs3] at cT hst hg3
              have CT := Lib.hid cT
              have HST := Lib.hid hst
              have HG3 := Lib.hid hg3
              have HOS3 := Lib.hid hos3
              clear hb9 hoc9 cT hst hg3 hos3 hs3 CS2 HOP8 q1 q2
              go_wp2_with fail
              refine (CT.out).mono ?_
              rintro e w10 ⟨rfl, hs10⟩
              have HOP10 := Lib.hid (HST.out _ hs10)
              clear hs10 CT HST HOP9
              go_wp2_with fail
              go_roundg (gk - 1)
              case measure => have := HJG.out; omega
              case rel => exact ⟨j + 1, by rw [Int.natCast_succ], by have := HJG.out; omega, s3, HG3.out, HOS3.out, HOP10.out⟩
            · obtain rfl : j = kn := by have := HJG.out; omega
              have d5 : decide ((j : Int) < (j : Int)) = false := by simp
              have e0 : s2.os = [] := by rw [hos2, List.drop_eq_nil_of_le (by rw [HKN.out]; exact Nat.le_refl _), List.map_nil]
              obtain ⟨lA, oA, cl, oc, hoc⟩ := HOPJ.out
              have cF : Calls Try.prog 18 #[.pointer (some ⟨D, 0, none⟩)] wr fun e w' => ∃ A ca, e = .returned (.tuple #[.int .i64 0, .slice A 0 ca, .bool false]) ∧ Ans wr w' A ca [] := by
                have := TFi hoc.one hg2
                rw [stFi_none e0] at this
                exact this
              have CF := Lib.hid cF
              have HE0 := Lib.hid e0
              clear hos2 hoc cF hg2 e0
              go_wp2_with fail
              refine (CF.out).mono ?_
              rintro e w8 ⟨A8, c8, rfl, ha8⟩
              have hop8 := HOPJ.out.below ha8.2.2.2
              obtain ⟨lA9, oA9, cl9, oc9, hoc9⟩ := hop8
              have cT := TS hoc9.one
              rw [stS_none HE0.out] at cT
              have hst : ∀ (w' : World), StepC w8 (fun k => (Value.slice AW 0 cW).ownBlock = some k) D lA9 oA9 s2 w' → Below w.heap.size w w' := fun w' hs => (hoc9.step hs).frame
              have CT := Lib.hid cT
              have HST := Lib.hid hst
              clear ha8 hoc9 cT hst CF HOPJ
              go_wp2_with fail
              refine (CT.out).mono ?_
              rintro e w10 ⟨rfl, hs10⟩
              have HB10 := Lib.hid (HST.out _ hs10)
              clear hs10 CT HST
              go_wp2_with fail
              refine (works_calls _).mono ?_
              rintro e w11 ⟨rfl, hb11⟩
              go_wp2
              go_ret
              exact ⟨rfl, HB10.out.trans (hb11.mono HB10.out.size)⟩
        · obtain ⟨lA, oA, cl, oc, hoc⟩ := HOP.out
          have cR := TR hoc.one HG.out 0 (m : Int)
          obtain ⟨e1, e2⟩ := HP.out.read hm0
          have i4 : (0 : Int) < (m : Int) := by omega
          rw [e1, e2, HWM.out] at cR
          have hon : s.os.length = kn := by rw [HP.out.os, List.length_map, HKN.out]
          have HON := Lib.hid hon
          have hk20 : kn ≤ 20 := by have := HP.out.few; rw [HKN.out] at this; omega
          have CR := Lib.hid cR
          clear hoc cR e1 e2 hon
          go_wp2_with fail
          refine (CR.out).mono ?_
          rintro e w5 ⟨A5, c5, rfl, ha5⟩
          have hop5 := HOP.out.below ha5.2.2.2
          have hwn := hop5.own
          rw [HWM.out] at hwn
          have cS := Same_eq A5 AW c5 cW W w5 ha5.1.ba (own_BR hwn HWM.out.symm).ba (by rw [HWM.out]; omega)
          rw [HWM.out] at cS
          have CS := Lib.hid cS
          have HOP5 := Lib.hid hop5
          clear ha5 hop5 CR cS hwn
          go_wp2_with fail
          refine (CS.out).mono ?_
          rintro e w6 ⟨rfl, hb6⟩
          have HOP6 := Lib.hid (HOP5.out.below hb6)
          clear hb6 CS HOP5
          obtain ⟨lA6, oA6, cl6, oc6, hoc6⟩ := HOP6.out
          have cO := Open_calls hoc6.one.d
          rw [HON.out] at cO
          have CO := Lib.hid cO
          clear hoc6 cO
          go_wp2_with fail
          refine (CO.out).mono ?_
          rintro e w7 ⟨rfl, rfl⟩
          clear CO
          go_wp2_with fail
          go_loopg [14] kn (fun g v14 wr => ∃ j : Nat, v14 = .int .i64 (j : Int) ∧ j + g = kn ∧ ∃ s2, Good s2 20 ∧ s2.os = (ks.drop j).map (fun a => (a.p.toNat, a.bs)) ∧ Op w wr D (.slice AW m cW) (.slice A9 kn c9) s2 W ks)
          case atStart => exact ⟨0, rfl, Nat.zero_add _, s, HG.out.mono hi20, by rw [List.drop_zero]; exact HP.out.os, HOP6.out⟩
          case round =>
            obtain ⟨j, rfl, hjg, s2, hg2, hos2, hop⟩ := hrel
            have HJG := Lib.hid hjg
            have HG2 := Lib.hid hg2
            have HOPJ := Lib.hid hop
            clear hjg hop HOP6
            by_cases hjn : j < kn
            · have d5 : decide ((j : Int) < (kn : Int)) = true := by simp; omega
              have j1 : (j : Int) < (kn : Int) := by omega
              obtain ⟨a, ha⟩ : ∃ a, ks[j]? = some a := ⟨_, List.getElem?_eq_getElem (by rw [HKN.out]; exact hjn)⟩
              have hmem := List.mem_of_getElem? ha
              rw [drop_map ha] at hos2
              have hpos := HP.out.pos a hmem
              have hba := HER.out.ba (HKS.out a hmem)
              have hal := HLE.out a (HKS.out a hmem)
              obtain ⟨al, hal2⟩ : ∃ al, a.bs.length = al := ⟨_, rfl⟩
              rw [hal2] at hal
              obtain ⟨lA, oA, cl, oc, hoc⟩ := HOPJ.out
              have cF : Calls Try.prog 18 #[.pointer (some ⟨D, 0, none⟩)] wr fun e w' => ∃ A ca, e = .returned (.tuple #[.int .i64 ((a.p.toNat : Nat) : Int), .slice A a.bs.length ca, .bool true]) ∧ Ans wr w' A ca a.bs := by
                have := TFi hoc.one hg2
                rw [stFi_cons hos2] at this
                exact this
              rw [Int.toNat_of_nonneg hpos, hal2] at cF
              have CF := Lib.hid cF
              have HAT : Hid (∀ w', Op w w' D (.slice AW m cW) (.slice A9 kn c9) s2 W ks → ∃ L, A9 = some ⟨L, 0, none⟩ ∧ w'.cell? ⟨L, j * 2, none⟩ = some (.int .i64 a.p) ∧ w'.cell? ⟨L, j * 2 + 1, none⟩ = some (.slice a.A al a.ca)) := Lib.hid fun w' h' => by
                have := h'.at_ ha
                rw [hal2] at this
                exact this
              have HBAA := Lib.hid hba
              have HAL := Lib.hid hal2
              have HOS := Lib.hid hos2
              clear ha hmem hos2 hpos hba hal2 hoc cF hg2
              go_wp2_with fail
              refine (CF.out).mono ?_
              rintro e w8 ⟨A8, c8, rfl, ha8⟩
              have hop8 := HOPJ.out.below ha8.2.2.2
              obtain ⟨L, rfl, q1, q2⟩ := HAT.out _ hop8
              have cS := Same_eq A8 a.A c8 a.ca a.bs w8 ha8.1.ba (HBAA.out.keep hop8.frame) (by rw [HAL.out]; omega)
              rw [HAL.out] at cS
              have CS2 := Lib.hid cS
              have HOP8 := Lib.hid hop8
              clear ha8 hop8 cS CF HOPJ
              go_wp2_with fail
              refine (CS2.out).mono ?_
              rintro e w9 ⟨rfl, hb9⟩
              have HOP9 := Lib.hid (HOP8.out.below hb9)
              obtain ⟨lA9, oA9, cl9, oc9, hoc9⟩ := HOP9.out
              have cT := TS hoc9.one
              rw [stS_cons HOS.out] at cT
              have hst : ∀ (w' : World), StepC w9 (fun k => (Value.slice AW m cW).ownBlock = some k) D lA9 oA9 ⟨s2.lvl, s2.size, s2.xs, (ks.drop (j + 1)).map (fun a => (a.p.toNat, a.bs))⟩ w' → Op w w' D (.slice AW m cW) (.slice (some ⟨L, 0, none⟩) kn c9) ⟨s2.lvl, s2.size, s2.xs, (ks.drop (j + 1)).map (fun a => (a.p.toNat, a.bs))⟩ W ks := fun w' hs => hoc9.step hs
              have hg3 := HG2.out.s
              rw [stS_cons HOS.out] at hg3
              obtain ⟨s3, hs3⟩ : ∃ s3 : St, (⟨s2.lvl, s2.size, s2.xs, (ks.drop (j + 1)).map (fun a => (a.p.toNat, a.bs))⟩ : St) = s3 := ⟨_, rfl⟩
              have hos3 : s3.os = (ks.drop (j + 1)).map (fun a => (a.p.toNat, a.bs)) := by rw [← hs3]
              rw [hs3] at cT hst hg3
              have CT := Lib.hid cT
              have HST := Lib.hid hst
              have HG3 := Lib.hid hg3
              have HOS3 := Lib.hid hos3
              clear hb9 hoc9 cT hst hg3 hos3 hs3 CS2 HOP8 q1 q2
              go_wp2_with fail
              refine (CT.out).mono ?_
              rintro e w10 ⟨rfl, hs10⟩
              have HOP10 := Lib.hid (HST.out _ hs10)
              clear hs10 CT HST HOP9
              go_wp2_with fail
              go_roundg (gk - 1)
              case measure => have := HJG.out; omega
              case rel => exact ⟨j + 1, by rw [Int.natCast_succ], by have := HJG.out; omega, s3, HG3.out, HOS3.out, HOP10.out⟩
            · obtain rfl : j = kn := by have := HJG.out; omega
              have d5 : decide ((j : Int) < (j : Int)) = false := by simp
              have e0 : s2.os = [] := by rw [hos2, List.drop_eq_nil_of_le (by rw [HKN.out]; exact Nat.le_refl _), List.map_nil]
              obtain ⟨lA, oA, cl, oc, hoc⟩ := HOPJ.out
              have cF : Calls Try.prog 18 #[.pointer (some ⟨D, 0, none⟩)] wr fun e w' => ∃ A ca, e = .returned (.tuple #[.int .i64 0, .slice A 0 ca, .bool false]) ∧ Ans wr w' A ca [] := by
                have := TFi hoc.one hg2
                rw [stFi_none e0] at this
                exact this
              have CF := Lib.hid cF
              have HE0 := Lib.hid e0
              clear hos2 hoc cF hg2 e0
              go_wp2_with fail
              refine (CF.out).mono ?_
              rintro e w8 ⟨A8, c8, rfl, ha8⟩
              have hop8 := HOPJ.out.below ha8.2.2.2
              obtain ⟨lA9, oA9, cl9, oc9, hoc9⟩ := hop8
              have cT := TS hoc9.one
              rw [stS_none HE0.out] at cT
              have hst : ∀ (w' : World), StepC w8 (fun k => (Value.slice AW m cW).ownBlock = some k) D lA9 oA9 s2 w' → Below w.heap.size w w' := fun w' hs => (hoc9.step hs).frame
              have CT := Lib.hid cT
              have HST := Lib.hid hst
              clear ha8 hoc9 cT hst CF HOPJ
              go_wp2_with fail
              refine (CT.out).mono ?_
              rintro e w10 ⟨rfl, hs10⟩
              have HB10 := Lib.hid (HST.out _ hs10)
              clear hs10 CT HST
              go_wp2_with fail
              refine (works_calls _).mono ?_
              rintro e w11 ⟨rfl, hb11⟩
              go_wp2
              go_ret
              exact ⟨rfl, HB10.out.trans (hb11.mono HB10.out.size)⟩
      · have d1 : decide ((i : Int) < (n : Int)) = false := by simp; omega
        rcases Nat.eq_zero_or_pos m with hm0 | hm0
        · obtain ⟨lA, oA, cl, oc, hoc⟩ := HOP.out
          have cR := TR hoc.one HG.out 0 (m : Int)
          subst hm0
          obtain ⟨e1, e2⟩ := HP.out.read0
          have hW0 : W = [] := List.eq_nil_of_length_eq_zero HWM.out
          have e3 : stB s 0 ((0 : Nat) : Int) = [] := e2
          have e4 : stOk s 0 ((0 : Nat) : Int) = false := e1
          rw [e4, e3] at cR
          have hon : s.os.length = kn := by rw [HP.out.os, List.length_map, HKN.out]
          have HON := Lib.hid hon
          have hk20 : kn ≤ 20 := by have := HP.out.few; rw [HKN.out] at this; omega
          have CR := Lib.hid cR
          clear hoc cR e1 e2 hon
          go_wp2_with fail
          refine (CR.out).mono ?_
          rintro e w5 ⟨A5, c5, rfl, ha5⟩
          have hop5 := HOP.out.below ha5.2.2.2
          have HOP6 := Lib.hid hop5
          clear ha5 hop5 CR
          obtain ⟨lA6, oA6, cl6, oc6, hoc6⟩ := HOP6.out
          have cO := Open_calls hoc6.one.d
          rw [HON.out] at cO
          have CO := Lib.hid cO
          clear hoc6 cO
          go_wp2_with fail
          refine (CO.out).mono ?_
          rintro e w7 ⟨rfl, rfl⟩
          clear CO
          go_wp2_with fail
          go_loopg [14] kn (fun g v14 wr => ∃ j : Nat, v14 = .int .i64 (j : Int) ∧ j + g = kn ∧ ∃ s2, Good s2 20 ∧ s2.os = (ks.drop j).map (fun a => (a.p.toNat, a.bs)) ∧ Op w wr D (.slice AW 0 cW) (.slice A9 kn c9) s2 W ks)
          case atStart => exact ⟨0, rfl, Nat.zero_add _, s, HG.out.mono hi20, by rw [List.drop_zero]; exact HP.out.os, HOP6.out⟩
          case round =>
            obtain ⟨j, rfl, hjg, s2, hg2, hos2, hop⟩ := hrel
            have HJG := Lib.hid hjg
            have HG2 := Lib.hid hg2
            have HOPJ := Lib.hid hop
            clear hjg hop HOP6
            by_cases hjn : j < kn
            · have d5 : decide ((j : Int) < (kn : Int)) = true := by simp; omega
              have j1 : (j : Int) < (kn : Int) := by omega
              obtain ⟨a, ha⟩ : ∃ a, ks[j]? = some a := ⟨_, List.getElem?_eq_getElem (by rw [HKN.out]; exact hjn)⟩
              have hmem := List.mem_of_getElem? ha
              rw [drop_map ha] at hos2
              have hpos := HP.out.pos a hmem
              have hba := HER.out.ba (HKS.out a hmem)
              have hal := HLE.out a (HKS.out a hmem)
              obtain ⟨al, hal2⟩ : ∃ al, a.bs.length = al := ⟨_, rfl⟩
              rw [hal2] at hal
              obtain ⟨lA, oA, cl, oc, hoc⟩ := HOPJ.out
              have cF : Calls Try.prog 18 #[.pointer (some ⟨D, 0, none⟩)] wr fun e w' => ∃ A ca, e = .returned (.tuple #[.int .i64 ((a.p.toNat : Nat) : Int), .slice A a.bs.length ca, .bool true]) ∧ Ans wr w' A ca a.bs := by
                have := TFi hoc.one hg2
                rw [stFi_cons hos2] at this
                exact this
              rw [Int.toNat_of_nonneg hpos, hal2] at cF
              have CF := Lib.hid cF
              have HAT : Hid (∀ w', Op w w' D (.slice AW 0 cW) (.slice A9 kn c9) s2 W ks → ∃ L, A9 = some ⟨L, 0, none⟩ ∧ w'.cell? ⟨L, j * 2, none⟩ = some (.int .i64 a.p) ∧ w'.cell? ⟨L, j * 2 + 1, none⟩ = some (.slice a.A al a.ca)) := Lib.hid fun w' h' => by
                have := h'.at_ ha
                rw [hal2] at this
                exact this
              have HBAA := Lib.hid hba
              have HAL := Lib.hid hal2
              have HOS := Lib.hid hos2
              clear ha hmem hos2 hpos hba hal2 hoc cF hg2
              go_wp2_with fail
              refine (CF.out).mono ?_
              rintro e w8 ⟨A8, c8, rfl, ha8⟩
              have hop8 := HOPJ.out.below ha8.2.2.2
              obtain ⟨L, rfl, q1, q2⟩ := HAT.out _ hop8
              have cS := Same_eq A8 a.A c8 a.ca a.bs w8 ha8.1.ba (HBAA.out.keep hop8.frame) (by rw [HAL.out]; omega)
              rw [HAL.out] at cS
              have CS2 := Lib.hid cS
              have HOP8 := Lib.hid hop8
              clear ha8 hop8 cS CF HOPJ
              go_wp2_with fail
              refine (CS2.out).mono ?_
              rintro e w9 ⟨rfl, hb9⟩
              have HOP9 := Lib.hid (HOP8.out.below hb9)
              obtain ⟨lA9, oA9, cl9, oc9, hoc9⟩ := HOP9.out
              have cT := TS hoc9.one
              rw [stS_cons HOS.out] at cT
              have hst : ∀ (w' : World), StepC w9 (fun k => (Value.slice AW 0 cW).ownBlock = some k) D lA9 oA9 ⟨s2.lvl, s2.size, s2.xs, (ks.drop (j + 1)).map (fun a => (a.p.toNat, a.bs))⟩ w' → Op w w' D (.slice AW 0 cW) (.slice (some ⟨L, 0, none⟩) kn c9) ⟨s2.lvl, s2.size, s2.xs, (ks.drop (j + 1)).map (fun a => (a.p.toNat, a.bs))⟩ W ks := fun w' hs => hoc9.step hs
              have hg3 := HG2.out.s
              rw [stS_cons HOS.out] at hg3
              obtain ⟨s3, hs3⟩ : ∃ s3 : St, (⟨s2.lvl, s2.size, s2.xs, (ks.drop (j + 1)).map (fun a => (a.p.toNat, a.bs))⟩ : St) = s3 := ⟨_, rfl⟩
              have hos3 : s3.os = (ks.drop (j + 1)).map (fun a => (a.p.toNat, a.bs)) := by rw [← hs3]
              rw [hs3] at cT hst hg3
              have CT := Lib.hid cT
              have HST := Lib.hid hst
              have HG3 := Lib.hid hg3
              have HOS3 := Lib.hid hos3
              clear hb9 hoc9 cT hst hg3 hos3 hs3 CS2 HOP8 q1 q2
              go_wp2_with fail
              refine (CT.out).mono ?_
              rintro e w10 ⟨rfl, hs10⟩
              have HOP10 := Lib.hid (HST.out _ hs10)
              clear hs10 CT HST HOP9
              go_wp2_with fail
              go_roundg (gk - 1)
              case measure => have := HJG.out; omega
              case rel => exact ⟨j + 1, by rw [Int.natCast_succ], by have := HJG.out; omega, s3, HG3.out, HOS3.out, HOP10.out⟩
            · obtain rfl : j = kn := by have := HJG.out; omega
              have d5 : decide ((j : Int) < (j : Int)) = false := by simp
              have e0 : s2.os = [] := by rw [hos2, List.drop_eq_nil_of_le (by rw [HKN.out]; exact Nat.le_refl _), List.map_nil]
              obtain ⟨lA, oA, cl, oc, hoc⟩ := HOPJ.out
              have cF : Calls Try.prog 18 #[.pointer (some ⟨D, 0, none⟩)] wr fun e w' => ∃ A ca, e = .returned (.tuple #[.int .i64 0, .slice A 0 ca, .bool false]) ∧ Ans wr w' A ca [] := by
                have := TFi hoc.one hg2
                rw [stFi_none e0] at this
                exact this
              have CF := Lib.hid cF
              have HE0 := Lib.hid e0
              clear hos2 hoc cF hg2 e0
              go_wp2_with fail
              refine (CF.out).mono ?_
              rintro e w8 ⟨A8, c8, rfl, ha8⟩
              have hop8 := HOPJ.out.below ha8.2.2.2
              obtain ⟨lA9, oA9, cl9, oc9, hoc9⟩ := hop8
              have cT := TS hoc9.one
              rw [stS_none HE0.out] at cT
              have hst : ∀ (w' : World), StepC w8 (fun k => (Value.slice AW 0 cW).ownBlock = some k) D lA9 oA9 s2 w' → Below w.heap.size w w' := fun w' hs => (hoc9.step hs).frame
              have CT := Lib.hid cT
              have HST := Lib.hid hst
              clear ha8 hoc9 cT hst CF HOPJ
              go_wp2_with fail
              refine (CT.out).mono ?_
              rintro e w10 ⟨rfl, hs10⟩
              have HB10 := Lib.hid (HST.out _ hs10)
              clear hs10 CT HST
              go_wp2_with fail
              refine (works_calls _).mono ?_
              rintro e w11 ⟨rfl, hb11⟩
              go_wp2
              go_ret
              exact ⟨rfl, HB10.out.trans (hb11.mono HB10.out.size)⟩
        · obtain ⟨lA, oA, cl, oc, hoc⟩ := HOP.out
          have cR := TR hoc.one HG.out 0 (m : Int)
          obtain ⟨e1, e2⟩ := HP.out.read hm0
          have i4 : (0 : Int) < (m : Int) := by omega
          rw [e1, e2, HWM.out] at cR
          have hon : s.os.length = kn := by rw [HP.out.os, List.length_map, HKN.out]
          have HON := Lib.hid hon
          have hk20 : kn ≤ 20 := by have := HP.out.few; rw [HKN.out] at this; omega
          have CR := Lib.hid cR
          clear hoc cR e1 e2 hon
          go_wp2_with fail
          refine (CR.out).mono ?_
          rintro e w5 ⟨A5, c5, rfl, ha5⟩
          have hop5 := HOP.out.below ha5.2.2.2
          have hwn := hop5.own
          rw [HWM.out] at hwn
          have cS := Same_eq A5 AW c5 cW W w5 ha5.1.ba (own_BR hwn HWM.out.symm).ba (by rw [HWM.out]; omega)
          rw [HWM.out] at cS
          have CS := Lib.hid cS
          have HOP5 := Lib.hid hop5
          clear ha5 hop5 CR cS hwn
          go_wp2_with fail
          refine (CS.out).mono ?_
          rintro e w6 ⟨rfl, hb6⟩
          have HOP6 := Lib.hid (HOP5.out.below hb6)
          clear hb6 CS HOP5
          obtain ⟨lA6, oA6, cl6, oc6, hoc6⟩ := HOP6.out
          have cO := Open_calls hoc6.one.d
          rw [HON.out] at cO
          have CO := Lib.hid cO
          clear hoc6 cO
          go_wp2_with fail
          refine (CO.out).mono ?_
          rintro e w7 ⟨rfl, rfl⟩
          clear CO
          go_wp2_with fail
          go_loopg [14] kn (fun g v14 wr => ∃ j : Nat, v14 = .int .i64 (j : Int) ∧ j + g = kn ∧ ∃ s2, Good s2 20 ∧ s2.os = (ks.drop j).map (fun a => (a.p.toNat, a.bs)) ∧ Op w wr D (.slice AW m cW) (.slice A9 kn c9) s2 W ks)
          case atStart => exact ⟨0, rfl, Nat.zero_add _, s, HG.out.mono hi20, by rw [List.drop_zero]; exact HP.out.os, HOP6.out⟩
          case round =>
            obtain ⟨j, rfl, hjg, s2, hg2, hos2, hop⟩ := hrel
            have HJG := Lib.hid hjg
            have HG2 := Lib.hid hg2
            have HOPJ := Lib.hid hop
            clear hjg hop HOP6
            by_cases hjn : j < kn
            · have d5 : decide ((j : Int) < (kn : Int)) = true := by simp; omega
              have j1 : (j : Int) < (kn : Int) := by omega
              obtain ⟨a, ha⟩ : ∃ a, ks[j]? = some a := ⟨_, List.getElem?_eq_getElem (by rw [HKN.out]; exact hjn)⟩
              have hmem := List.mem_of_getElem? ha
              rw [drop_map ha] at hos2
              have hpos := HP.out.pos a hmem
              have hba := HER.out.ba (HKS.out a hmem)
              have hal := HLE.out a (HKS.out a hmem)
              obtain ⟨al, hal2⟩ : ∃ al, a.bs.length = al := ⟨_, rfl⟩
              rw [hal2] at hal
              obtain ⟨lA, oA, cl, oc, hoc⟩ := HOPJ.out
              have cF : Calls Try.prog 18 #[.pointer (some ⟨D, 0, none⟩)] wr fun e w' => ∃ A ca, e = .returned (.tuple #[.int .i64 ((a.p.toNat : Nat) : Int), .slice A a.bs.length ca, .bool true]) ∧ Ans wr w' A ca a.bs := by
                have := TFi hoc.one hg2
                rw [stFi_cons hos2] at this
                exact this
              rw [Int.toNat_of_nonneg hpos, hal2] at cF
              have CF := Lib.hid cF
              have HAT : Hid (∀ w', Op w w' D (.slice AW m cW) (.slice A9 kn c9) s2 W ks → ∃ L, A9 = some ⟨L, 0, none⟩ ∧ w'.cell? ⟨L, j * 2, none⟩ = some (.int .i64 a.p) ∧ w'.cell? ⟨L, j * 2 + 1, none⟩ = some (.slice a.A al a.ca)) := Lib.hid fun w' h' => by
                have := h'.at_ ha
                rw [hal2] at this
                exact this
              have HBAA := Lib.hid hba
              have HAL := Lib.hid hal2
              have HOS := Lib.hid hos2
              clear ha hmem hos2 hpos hba hal2 hoc cF hg2
              go_wp2_with fail
              refine (CF.out).mono ?_
              rintro e w8 ⟨A8, c8, rfl, ha8⟩
              have hop8 := HOPJ.out.below ha8.2.2.2
              obtain ⟨L, rfl, q1, q2⟩ := HAT.out _ hop8
              have cS := Same_eq A8 a.A c8 a.ca a.bs w8 ha8.1.ba (HBAA.out.keep hop8.frame) (by rw [HAL.out]; omega)
              rw [HAL.out] at cS
              have CS2 := Lib.hid cS
              have HOP8 := Lib.hid hop8
              clear ha8 hop8 cS CF HOPJ
              go_wp2_with fail
              refine (CS2.out).mono ?_
              rintro e w9 ⟨rfl, hb9⟩
              have HOP9 := Lib.hid (HOP8.out.below hb9)
              obtain ⟨lA9, oA9, cl9, oc9, hoc9⟩ := HOP9.out
              have cT := TS hoc9.one
              rw [stS_cons HOS.out] at cT
              have hst : ∀ (w' : World), StepC w9 (fun k => (Value.slice AW m cW).ownBlock = some k) D lA9 oA9 ⟨s2.lvl, s2.size, s2.xs, (ks.drop (j + 1)).map (fun a => (a.p.toNat, a.bs))⟩ w' → Op w w' D (.slice AW m cW) (.slice (some ⟨L, 0, none⟩) kn c9) ⟨s2.lvl, s2.size, s2.xs, (ks.drop (j + 1)).map (fun a => (a.p.toNat, a.bs))⟩ W ks := fun w' hs => hoc9.step hs
              have hg3 := HG2.out.s
              rw [stS_cons HOS.out] at hg3
              obtain ⟨s3, hs3⟩ : ∃ s3 : St, (⟨s2.lvl, s2.size, s2.xs, (ks.drop (j + 1)).map (fun a => (a.p.toNat, a.bs))⟩ : St) = s3 := ⟨_, rfl⟩
              have hos3 : s3.os = (ks.drop (j + 1)).map (fun a => (a.p.toNat, a.bs)) := by rw [← hs3]
              rw [hs3] at cT hst hg3
              have CT := Lib.hid cT
              have HST := Lib.hid hst
              have HG3 := Lib.hid hg3
              have HOS3 := Lib.hid hos3
              clear hb9 hoc9 cT hst hg3 hos3 hs3 CS2 HOP8 q1 q2
              go_wp2_with fail
              refine (CT.out).mono ?_
              rintro e w10 ⟨rfl, hs10⟩
              have HOP10 := Lib.hid (HST.out _ hs10)
              clear hs10 CT HST HOP9
              go_wp2_with fail
              go_roundg (gk - 1)
              case measure => have := HJG.out; omega
              case rel => exact ⟨j + 1, by rw [Int.natCast_succ], by have := HJG.out; omega, s3, HG3.out, HOS3.out, HOP10.out⟩
            · obtain rfl : j = kn := by have := HJG.out; omega
              have d5 : decide ((j : Int) < (j : Int)) = false := by simp
              have e0 : s2.os = [] := by rw [hos2, List.drop_eq_nil_of_le (by rw [HKN.out]; exact Nat.le_refl _), List.map_nil]
              obtain ⟨lA, oA, cl, oc, hoc⟩ := HOPJ.out
              have cF : Calls Try.prog 18 #[.pointer (some ⟨D, 0, none⟩)] wr fun e w' => ∃ A ca, e = .returned (.tuple #[.int .i64 0, .slice A 0 ca, .bool false]) ∧ Ans wr w' A ca [] := by
                have := TFi hoc.one hg2
                rw [stFi_none e0] at this
                exact this
              have CF := Lib.hid cF
              have HE0 := Lib.hid e0
              clear hos2 hoc cF hg2 e0
              go_wp2_with fail
              refine (CF.out).mono ?_
              rintro e w8 ⟨A8, c8, rfl, ha8⟩
              have hop8 := HOPJ.out.below ha8.2.2.2
              obtain ⟨lA9, oA9, cl9, oc9, hoc9⟩ := hop8
              have cT := TS hoc9.one
              rw [stS_none HE0.out] at cT
              have hst : ∀ (w' : World), StepC w8 (fun k => (Value.slice AW m cW).ownBlock = some k) D lA9 oA9 s2 w' → Below w.heap.size w w' := fun w' hs => (hoc9.step hs).frame
              have CT := Lib.hid cT
              have HST := Lib.hid hst
              clear ha8 hoc9 cT hst CF HOPJ
              go_wp2_with fail
              refine (CT.out).mono ?_
              rintro e w10 ⟨rfl, hs10⟩
              have HB10 := Lib.hid (HST.out _ hs10)
              clear hs10 CT HST
              go_wp2_with fail
              refine (works_calls _).mono ?_
              rintro e w11 ⟨rfl, hb11⟩
              go_wp2
              go_ret
              exact ⟨rfl, HB10.out.trans (hb11.mono HB10.out.size)⟩
end Go.Proofs.Ytbnkiefchbcfgaa.U
