/- The law DirRenames: a name that is renamed keeps its number, and no other one changes. -/
import Derived.Test.YtkdjkndnilmjmaaDoorLdback
set_option linter.unusedVariables false
set_option linter.unusedSimpArgs false
namespace Go.Proofs.YtkdjkndnilmjmaaDoor.U
open Go.RowKit Go.Proofs Go.Lib Go.Proofs.YtkdjkndnilmjmaaDoorW.PrintWords

theorem ren_fail {L : List Ent} {s t : ByteArray} (h : (renR L s t).2 ≠ 0) : (renR L s t).1 = L := by
  unfold renR at h ⊢
  split
  · rename_i hh
    rw [if_pos hh] at h
    cases hf : fnd L s with
    | none => rfl
    | some x =>
      rw [hf] at h
      dsimp only at h ⊢
      split
      · rfl
      · rename_i hc
        rw [if_neg hc] at h
        exact absurd rfl h
  · rfl
theorem ren_ok {L : List Ent} {s t : ByteArray} (h : (renR L s t).2 = 0) : okT s = true ∧ okT t = true ∧ ∃ x, fnd L s = some x ∧ ((fnd L t).isSome = true → al x.name t = true) ∧ (renR L s t).1 = put (cut L s) t x.n := by
  unfold renR at h ⊢
  split at h
  · rename_i hh
    rw [if_pos hh]
    cases hf : fnd L s with
    | none => rw [hf] at h; exact absurd (show (7 : Int) = 0 from h) (by decide)
    | some x =>
      rw [hf] at h
      dsimp only at h ⊢
      split at h
      · exact absurd (show (8 : Int) = 0 from h) (by decide)
      · rename_i hc
        refine ⟨hh.1, hh.2, x, rfl, fun hi => ?_, by rw [if_neg hc]⟩
        cases ha : al x.name t with
        | true => rfl
        | false => exact absurd ⟨hi, ha⟩ hc
  · exact absurd (show (5 : Int) = 0 from h) (by decide)
theorem fi_zero {L : List Ent} {s : ByteArray} (h : fiE L s = 0) : okT s = true ∧ ∃ y, fnd L s = some y := by
  unfold fiE errFnd at h
  split at h
  · rename_i hh
    refine ⟨hh, ?_⟩
    cases hf : fnd L s with
    | none => rw [hf] at h; exact absurd h (by decide)
    | some y => exact ⟨y, rfl⟩
  · exact absurd h (by decide)
theorem al_of {a b c : ByteArray} (h1 : al a b = true) (h2 : al a c = true) : al b c = true := al_trans (al_symm h1) h2
theorem fnd_ren {L : List Ent} (hr : Rise L) {s t o : ByteArray} {x y : Ent} {n : Int} (hs : fnd L s = some x) (ho : fnd L o = some y) (hos : al o s = false) (ht : (fnd L t).isSome = true → al x.name t = true) : fnd (put (cut L s) t n) o = some y := by
  have hxs := (fnd_some hs).2
  have hyo := (fnd_some ho).2
  have hxo : al x.name o = false := by
    cases h : al x.name o with
    | false => rfl
    | true => rw [al_of h hxs] at hos; cases hos
  have hto : al t o = false := by
    cases h : al t o with
    | false => rfl
    | true =>
      have h1 : (fnd L t).isSome = true := by
        cases hf : fnd L t with
        | some z => rfl
        | none =>
          have h2 := fnd_none hf y (fnd_some ho).1
          rw [al_trans hyo (al_symm h)] at h2
          cases h2
      rw [al_trans (ht h1) h] at hxo
      cases hxo
  have hc : fnd (cut L s) o = some y := by
    have hl := split_at (fnd_at hr hs)
    unfold fnd at ho ⊢
    rw [hl, List.find?_append, List.find?_cons_of_neg (p := fun z : Ent => al z.name o) (by rw [hxo]; decide), ← List.find?_append] at ho
    exact ho
  unfold put
  unfold fnd at hc ⊢
  rw [List.find?_append, List.find?_cons_of_neg (p := fun z : Ent => al z.name o) (by rw [hto]; decide), ← List.find?_append, List.take_append_drop]
  exact hc
set_option maxHeartbeats 8000000 in
set_option maxRecDepth 1000000 in
theorem DirRenames_walk (A : Option Addr) (c : Nat) (l : List ActV) (s t o : ByteArray) (w : World) (h : AR w A l) (hl : l.length ≤ 1048576) (hz : AOk l) (hs : s.size ≤ 1048576) (ht : t.size ≤ 1048576) (ho : o.size ≤ 1048576) (hT : Tabs w) :
    Calls Tryd.prog 7 #[.slice A l.length c, .string s, .string t, .string o] w fun e w' => e = .returned (.bool true) ∧ Below w.heap.size w w' := by
  have C1 := Lib.hid (played_calls A c l w h (by omega) hz hT)
  clear h hl hz hT
  go_enter Tryd.func7, Tryd.ntmps7
  go_wp2_with fail
  refine (C1.out).mono ?_
  rintro e w1 ⟨D, R, rfl, M, L, hx, he⟩
  have hg := hx.1.good
  have C2 := Lib.hid (DFind hx.1 (by omega) he s hs)
  have C3 := Lib.hid (fun W (hW : Below w1.heap.size w1 W) => DFind (hx.1.below hW) (by omega) (he.on hW) o ho)
  have C4 := Lib.hid (fun W (hW : Below w1.heap.size w1 W) => DFind (hx.1.below hW) (by omega) (he.on hW) t ht)
  have C5 := Lib.hid (fun W (hW : Below w1.heap.size w1 W) => DRename (hx.1.below hW) (by omega) (he.on hW) s t hs ht)
  have HE := Lib.hid he
  have HG := Lib.hid hg
  obtain ⟨n1, hn1⟩ : ∃ v, fiN L s = v := ⟨_, rfl⟩
  obtain ⟨o1, ho1⟩ : ∃ v, fiO L s = v := ⟨_, rfl⟩
  obtain ⟨e1, he1⟩ : ∃ v, fiE L s = v := ⟨_, rfl⟩
  obtain ⟨n2, hn2⟩ : ∃ v, fiN L o = v := ⟨_, rfl⟩
  obtain ⟨o2, ho2⟩ : ∃ v, fiO L o = v := ⟨_, rfl⟩
  obtain ⟨e2, he2⟩ : ∃ v, fiE L o = v := ⟨_, rfl⟩
  obtain ⟨n3, hn3⟩ : ∃ v, fiN L t = v := ⟨_, rfl⟩
  obtain ⟨o3, ho3⟩ : ∃ v, fiO L t = v := ⟨_, rfl⟩
  obtain ⟨e3, he3⟩ : ∃ v, fiE L t = v := ⟨_, rfl⟩
  obtain ⟨g, hgg⟩ : ∃ v, (renR L s t).2 = v := ⟨_, rfl⟩
  rw [hn1, ho1, he1] at C2
  rw [hn2, ho2, he2] at C3
  rw [hn3, ho3, he3] at C4
  rw [hgg] at C5
  have H1 := Lib.hid (And.intro hn1 (And.intro ho1 he1))
  have H2 := Lib.hid (And.intro hn2 (And.intro ho2 he2))
  have H3 := Lib.hid (And.intro hn3 (And.intro ho3 he3))
  have HGG := Lib.hid hgg
  clear hx he hg C1 hn1 ho1 he1 hn2 ho2 he2 hn3 ho3 he3 hgg
  go_wp2_with fail
  refine (C2.out).mono ?_
  rintro e w2 ⟨rfl, hb2⟩
  have HB2 := Lib.hid hb2
  clear hb2 C2
  go_wp2_with fail
  refine (C3.out _ HB2.out).mono ?_
  rintro e w3 ⟨rfl, hb3⟩
  have HB3 := Lib.hid (HB2.out.trans (hb3.mono HB2.out.size))
  clear hb3 C3
  go_wp2_with fail
  refine (C4.out _ HB3.out).mono ?_
  rintro e w4 ⟨rfl, hb4⟩
  have HB4 := Lib.hid (HB3.out.trans (hb4.mono HB3.out.size))
  clear hb4 C4
  go_wp2_with fail
  refine (C5.out _ HB4.out).mono ?_
  rintro e w5 ⟨rfl, hp5, _, hb5⟩
  have HE5 := Lib.hid ((HE.out.on HB4.out).step hb5)
  have HP5 := Lib.hid hp5
  clear hp5 hb5 C5
  by_cases hg0 : g = 0
  · subst hg0
    obtain ⟨oks, okt, x, hfs, hth, hL1⟩ := ren_ok HGG.out
    have hnt : fnd (cut L s) t = none := by
      by_cases hq : (fnd L t).isSome = true
      · exact fnd_cut HG.out.rise hfs (hth hq)
      · exact fnd_sub (fun y hy => cut_mem hy) (isSome_none hq)
    have hp5 := HP5.out
    rw [hL1] at hp5
    have hft := fnd_put (n := x.n) hnt (al_self t)
    have c6 := DFind hp5 (by omega) HE5.out t ht
    obtain ⟨f1, f2, f3⟩ := fi_ok okt hft
    rw [f1, f2, f3] at c6
    have C6 := Lib.hid c6
    obtain ⟨f4, f5, f6⟩ := fi_ok oks hfs
    obtain rfl : n1 = x.n := by rw [← H1.out.1, f4]
    obtain rfl : e1 = 0 := by rw [← H1.out.2.2, f6]
    have HX := Lib.hid (And.intro hfs (And.intro hth hft))
    have HP6 := Lib.hid hp5
    have HOKT := Lib.hid okt
    clear oks okt hfs hth hL1 hnt hp5 hft c6 f1 f2 f3 f4 f5 f6
    go_wp2_with fail
    refine (C6.out).mono ?_
    rintro e w6 ⟨rfl, hb6⟩
    have HB6 := Lib.hid hb6
    clear hb6 C6
    go_upto_region 10 with fail
    go_cut [117] (fun v117 wx => v117 = .bool false ∧ Below w5.heap.size w5 wx)
    case first =>
      cases hq : (fnd L t).isSome with
      | true =>
        obtain rfl : e3 = 0 := by
          rw [← H3.out.2.2]
          unfold fiE errFnd
          rw [if_pos HOKT.out, hq]
          rfl
        have c7 := Alike_calls s t w6 (by omega) (by omega)
        rw [show alikeB s.data.toList t.data.toList = true from al_of (fnd_some HX.out.1).2 (HX.out.2.1 hq)] at c7
        have C7 := Lib.hid c7
        clear c7 hq
        go_wp2_with fail
        refine (C7.out).mono ?_
        rintro e w7 ⟨rfl, hb7⟩
        have HB7 := Lib.hid (HB6.out.trans (hb7.mono HB6.out.size))
        clear hb7 C7
        go_wp2_with fail
        go_meet
        exact ⟨rfl, HB7.out⟩
      | false =>
        obtain rfl : e3 = 7 := by
          rw [← H3.out.2.2]
          unfold fiE errFnd
          rw [if_pos HOKT.out, hq]
          rfl
        clear hq
        go_wp2_with fail
        go_meet
        exact ⟨rfl, HB6.out⟩
    case rest =>
      obtain ⟨rfl, hbc⟩ := hcut
      have HBC := Lib.hid hbc
      clear hbc
      by_cases he20 : e2 = 0
      · subst he20
        obtain ⟨oko, y, hfo⟩ := fi_zero H2.out.2.2
        obtain ⟨f1, f2, _⟩ := fi_ok oko hfo
        obtain rfl : n2 = y.n := by rw [← H2.out.1, f1]
        obtain rfl : o2 = y.name := by rw [← H2.out.2.1, f2]
        have c7 := Alike_calls o s wc (by omega) (by omega)
        obtain ⟨b, hb⟩ : ∃ b, al o s = b := ⟨_, rfl⟩
        rw [show alikeB o.data.toList s.data.toList = b from hb] at c7
        have C7 := Lib.hid c7
        have HO := Lib.hid (And.intro oko (And.intro hfo hb))
        clear c7 oko hfo f1 f2 hb
        cases b with
        | true =>
          go_wp2_with fail
          refine (C7.out).mono ?_
          rintro e w7 ⟨rfl, hb7⟩
          have HEF := Lib.hid (HE5.out.on (HBC.out.trans (hb7.mono HBC.out.size)))
          clear hb7 C7
          go_wp2_with fail
          refine (works_calls _ HEF.out.tab).mono ?_
          rintro e w9 ⟨rfl, hb9⟩
          go_wp2
          go_ret
          exact ⟨rfl, HEF.out.below.trans (hb9.mono HEF.out.base)⟩
        | false =>
          go_wp2_with fail
          refine (C7.out).mono ?_
          rintro e w7 ⟨rfl, hb7⟩
          have hb57 := HBC.out.trans (hb7.mono HBC.out.size)
          have c8 := DFind (HP6.out.below hb57) (by omega) (HE5.out.on hb57) o ho
          obtain ⟨f1, f2, f3⟩ := fi_ok HO.out.1 (fnd_ren (n := x.n) HG.out.rise HX.out.1 HO.out.2.1 HO.out.2.2 HX.out.2.1)
          rw [f1, f2, f3] at c8
          have C8 := Lib.hid c8
          have HE7 := Lib.hid (HE5.out.on hb57)
          clear hb7 hb57 c8 f1 f2 f3 C7
          go_wp2_with fail
          refine (C8.out).mono ?_
          rintro e w8 ⟨rfl, hb8⟩
          have HEF := Lib.hid (HE7.out.on hb8)
          clear hb8 C8
          go_wp2_with fail
          refine (works_calls _ HEF.out.tab).mono ?_
          rintro e w9 ⟨rfl, hb9⟩
          go_wp2
          go_ret
          exact ⟨rfl, HEF.out.below.trans (hb9.mono HEF.out.base)⟩
      · have d1 : (e2 == 0) = false := by simpa using he20
        have d2 : (e2 != 0) = true := by simpa using he20
        have HEF := Lib.hid (HE5.out.on HBC.out)
        clear he20
        go_wp2_with fail
        refine (works_calls _ HEF.out.tab).mono ?_
        rintro e w9 ⟨rfl, hb9⟩
        go_wp2
        go_ret
        exact ⟨rfl, HEF.out.below.trans (hb9.mono HEF.out.base)⟩
  · have hL1 := ren_fail (L := L) (s := s) (t := t) (by rw [HGG.out]; exact hg0)
    have hp5 := HP5.out
    rw [hL1] at hp5
    have c6 := DFind hp5 (by omega) HE5.out s hs
    rw [H1.out.1, H1.out.2.1, H1.out.2.2] at c6
    have C6 := Lib.hid c6
    have d1 : (g == 0) = false := by simpa using hg0
    have d2 : (g != 0) = true := by simpa using hg0
    clear hL1 hp5 c6 hg0
    go_wp2_with fail
    refine (C6.out).mono ?_
    rintro e w6 ⟨rfl, hb6⟩
    have HEF := Lib.hid (HE5.out.on hb6)
    clear hb6 C6
    by_cases he10 : e1 = 0
    · subst he10
      go_wp2_with fail
      refine (works_calls _ HEF.out.tab).mono ?_
      rintro e w9 ⟨rfl, hb9⟩
      go_wp2
      go_ret
      exact ⟨rfl, HEF.out.below.trans (hb9.mono HEF.out.base)⟩
    · have d3 : (e1 == 0) = false := by simpa using he10
      have d4 : (e1 != 0) = true := by simpa using he10
      clear he10
      go_wp2_with fail
      refine (works_calls _ HEF.out.tab).mono ?_
      rintro e w9 ⟨rfl, hb9⟩
      go_wp2
      go_ret
      exact ⟨rfl, HEF.out.below.trans (hb9.mono HEF.out.base)⟩
end Go.Proofs.YtkdjkndnilmjmaaDoor.U
