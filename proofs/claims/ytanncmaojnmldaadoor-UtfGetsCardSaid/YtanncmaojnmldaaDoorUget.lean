/- utf.Get: the text of bytes, or its error; for bytes of at most 2^45. -/
import Derived.Test.YtanncmaojnmldaaDoorUends
import Derived.Test.YtanncmaojnmldaaDoorUput
set_option linter.unusedVariables false
set_option linter.unusedSimpArgs false
namespace Go.Proofs.YtanncmaojnmldaaDoor.U
open Go.RowKit Go.Proofs Go.Lib Go.Proofs.YtanncmaojnmldaaDoorW.PrintWords

/-- Letters of units; h: a high one that waits. -/
def getRun : Option Nat → List Nat → Option (List Nat)
  | none, [] => some []
  | some _, [] => none
  | h, u :: us =>
    if 56320 ≤ u ∧ u < 57344 then (match h with
      | some hi => (getRun none us).map fun l => (65536 + (hi - 55296) * 1024 + (u - 56320)) :: l
      | none => none)
    else (match h with
      | some _ => none
      | none => if 55296 ≤ u ∧ u < 56320 then getRun (some u) us else (getRun none us).map fun l => u :: l)
def pairs : List Int → List Nat
  | x :: y :: t => (x + 256 * y).toNat :: pairs t
  | _ => []
def getLetters (b : List Int) : Option (List Nat) := if b.length % 2 = 0 then getRun none (pairs b) else none
def getText (b : List Int) : List UInt8 := match getLetters b with
  | some ns => ns.flatMap enc
  | none => []
def getErr (b : List Int) : Int := match getLetters b with
  | some _ => 0
  | none => 5

/-- Bytes that are read. -/
def Rd (w : World) (A : Option Addr) (c : Nat) (xs : List Int) : Prop :=
  xs.length ≤ c ∧ c ≤ 9223372036854775807 ∧ (∀ x ∈ xs, 0 ≤ x ∧ x ≤ 255) ∧ (0 < xs.length → ∃ g off, A = some ⟨g, off, none⟩ ∧ g < w.heap.size ∧ ∀ j, j < xs.length → w.cell? ⟨g, off + j, none⟩ = some (.int .u8 (xs.getD j 0)))
theorem Rd.below {w w' : World} {A : Option Addr} {c : Nat} {xs : List Int} (h : Rd w A c xs) (hb : Below w.heap.size w w') : Rd w' A c xs := by
  obtain ⟨h1, h2, h3, h4⟩ := h
  refine ⟨h1, h2, h3, fun h0 => ?_⟩
  obtain ⟨g, off, e, hg, hc⟩ := h4 h0
  exact ⟨g, off, e, Nat.lt_of_lt_of_le hg hb.size, fun j hj => (hb.cell (p := ⟨g, off + j, none⟩) hg).trans (hc j hj)⟩

theorem encode_letter (n : Nat) (h : IsLetter n) : Lib.runeCells (n : Int) = Lib.byteCells (enc n) := by
  unfold IsLetter at h
  unfold Lib.runeCells Lib.byteCells enc
  by_cases h1 : n < 128
  · rw [if_pos h1, Lib.encodeRuneZ_one (by omega) (by omega)]
    simp
    omega
  · by_cases h2 : n < 2048
    · rw [if_neg h1, if_pos h2, Lib.encodeRuneZ_two (by omega) (by omega)]
      simp
      omega
    · by_cases h3 : n < 65536
      · rw [if_neg h1, if_neg h2, if_pos h3, Lib.encodeRuneZ_three (by omega)]
        simp
        omega
      · rw [if_neg h1, if_neg h2, if_neg h3, if_pos (by omega), Lib.encodeRuneZ_four (by omega) (by omega)]
        simp
        omega
theorem pairs_drop (b : List Int) : ∀ (i : Nat), 2 * i + 1 < b.length → pairs (b.drop (2 * i)) = (b.getD (2 * i) 0 + 256 * b.getD (2 * i + 1) 0).toNat :: pairs (b.drop (2 * (i + 1))) := by
  intro i hi
  have e1 : b.drop (2 * i) = b.getD (2 * i) 0 :: b.getD (2 * i + 1) 0 :: b.drop (2 * (i + 1)) := by
    have h1 := List.drop_eq_getElem_cons (l := b) (i := 2 * i) (by omega)
    have h2 := List.drop_eq_getElem_cons (l := b) (i := 2 * i + 1) (by omega)
    have h3 : b.getD (2 * i) 0 = b[2 * i]'(by omega) := by rw [List.getD_eq_getElem?_getD, List.getElem?_eq_getElem (by omega)]; rfl
    have h4 : b.getD (2 * i + 1) 0 = b[2 * i + 1]'(by omega) := by rw [List.getD_eq_getElem?_getD, List.getElem?_eq_getElem (by omega)]; rfl
    rw [h1, h2, h3, h4]
    rfl
  rw [e1]
  rfl
theorem pairs_end (b : List Int) (i : Nat) (h : b.length ≤ 2 * i + 1) : pairs (b.drop (2 * i)) = [] := by
  rcases hd : b.drop (2 * i) with _ | ⟨x, _ | ⟨y, t⟩⟩
  · rfl
  · rfl
  · have := congrArg List.length hd
    simp at this
    omega
theorem getRun_none_len (us : List Nat) : ∀ (h : Option Nat) (l : List Nat), getRun h us = some l → l.length ≤ us.length := by
  induction us with
  | nil =>
    intro h l e
    cases h with
    | none => simp [getRun] at e; subst e; simp
    | some x => simp [getRun] at e
  | cons u us ih =>
    intro h l e
    cases h with
    | none =>
      simp only [getRun] at e
      split at e
      · cases e
      · split at e
        · have := ih _ _ e; simp; omega
        · rw [Option.map_eq_some_iff] at e
          obtain ⟨l', e1, rfl⟩ := e
          have := ih _ _ e1
          simp; omega
    | some x =>
      simp only [getRun] at e
      split at e
      · rw [Option.map_eq_some_iff] at e
        obtain ⟨l', e1, rfl⟩ := e
        have := ih _ _ e1
        simp; omega
      · cases e
theorem enc_len (n : Nat) : 1 ≤ (enc n).length ∧ (enc n).length ≤ 4 := by
  unfold enc
  repeat' split
  all_goals simp only [List.length_cons, List.length_nil]
  all_goals omega
theorem flat_enc_len (ns : List Nat) : (ns.flatMap enc).length ≤ 4 * ns.length := by
  induction ns with
  | nil => simp
  | cons n ns ih =>
    have := enc_len n
    simp only [List.flatMap_cons, List.length_append, List.length_cons]
    omega

/-- What the loop holds: 'at' = 2 i, the high unit that waits, the letters that have been laid. -/
def HighIs : Option Nat → Int → Prop
  | none, z => z = -1
  | some u, z => z = u ∧ 55296 ≤ u ∧ u < 56320
def GetAt (w : World) (xs : List Int) (R : Option (List Nat)) (i : Nat) (h : Option Nat) (hz : Int) (ns : List Nat) (v : Value) (wr : World) : Prop :=
  HighIs h hz ∧ wr.ownsRow w.heap.size 5 1 v (Lib.byteCells (ns.flatMap enc)).length (Lib.byteCells (ns.flatMap enc)) ∧ Below w.heap.size w wr ∧ (getRun h (pairs (xs.drop (2 * i)))).map (ns ++ ·) = R ∧ ns.length ≤ i

/-- What is answered. -/
def GetDone (w : World) (xs : List Int) (e : Ending) (w' : World) : Prop :=
  e = .returned (.tuple #[.string ⟨(getText xs).toArray⟩, .int .i64 (getErr xs)]) ∧ Below w.heap.size w w'
theorem done_bad {w w' : World} {xs : List Int} (h : getLetters xs = none) (hb : Below w.heap.size w w') : GetDone w xs (.returned (.tuple #[.string ⟨#[]⟩, .int .i64 5])) w' := by
  unfold GetDone getText getErr
  rw [h]
  exact ⟨rfl, hb⟩
theorem done_good {w w' : World} {xs : List Int} {ns : List Nat} (h : getLetters xs = some ns) (hb : Below w.heap.size w w') : GetDone w xs (.returned (.tuple #[.string (strOfNums ((ns.flatMap enc).map fun b => (b.toNat : Int))), .int .i64 0])) w' := by
  unfold GetDone getText getErr
  rw [h]
  refine ⟨?_, hb⟩
  simp only [strOfNums, List.map_map]
  congr 4
  rw [List.map_congr_left (g := fun b => b) (fun b _ => by simp), List.map_id']

theorem letters_odd {xs : List Int} (h : xs.length % 2 ≠ 0) : getLetters xs = none := by unfold getLetters; rw [if_neg h]
theorem letters_even {xs : List Int} (h : xs.length % 2 = 0) : getLetters xs = getRun none (pairs xs) := by unfold getLetters; rw [if_pos h]
/-- A unit that may not stand there: whatever follows. -/
theorem bad_of {xs : List Int} {h : Option Nat} {ns us : List Nat} (h0 : (getRun h us).map (ns ++ ·) = getRun none (pairs xs)) (hb : getRun h us = none) : getLetters xs = none := by
  rw [hb] at h0
  unfold getLetters
  split
  · exact h0.symm
  · rfl

theorem get_on {w wr w2 : World} {v v' : Value} {ns : List Nat} {r : Nat} {o : Obj} (hown : wr.ownsRow w.heap.size 5 1 v (Lib.byteCells (ns.flatMap enc)).length (Lib.byteCells (ns.flatMap enc))) (hbw : Below w.heap.size w wr)
    (hr : IsLetter r) (h' : w2.ownsRow w.heap.size 5 1 v' ((Lib.byteCells (ns.flatMap enc)).length + (Lib.runeCells (r : Int)).length) (Lib.byteCells (ns.flatMap enc) ++ Lib.runeCells (r : Int))) (hg : (wr.alloc o).grownBy w2 v.ownBlock) :
    w2.ownsRow w.heap.size 5 1 v' (Lib.byteCells ((ns ++ [r]).flatMap enc)).length (Lib.byteCells ((ns ++ [r]).flatMap enc)) ∧ Below w.heap.size w w2 := by
  have e : Lib.byteCells ((ns ++ [r]).flatMap enc) = Lib.byteCells (ns.flatMap enc) ++ Lib.runeCells (r : Int) := by
    rw [List.flatMap_append, Lib.byteCells_append, encode_letter r hr]
    simp
  rw [e, List.length_append]
  refine ⟨h', (hbw.alloc hbw.size _).grown hg (by have := hbw.size; simp; omega) (fun k hk => (hown.lt k hk).1)⟩

set_option maxHeartbeats 8000000 in
set_option maxRecDepth 1000000 in
theorem Get_calls (A : Option Addr) (c : Nat) (xs : List Int) (w : World) (hr : Rd w A c xs) (hs : xs.length ≤ 17592186044416) :
    Calls Tryd.prog 16 #[.slice A xs.length c] w (GetDone w xs) := by
  obtain ⟨hxc, hcc, hby, hcell⟩ := hr
  obtain ⟨n, hn⟩ : ∃ n, xs.length = n := ⟨_, rfl⟩
  have hn' := hn
  rw [hn] at hxc hs hcell ⊢
  have HB := Lib.hid hby
  have HC := Lib.hid hcell
  have HN := Lib.hid hn'
  clear hby hcell hn hn'
  go_enter Tryd.func16, Tryd.ntmps16
  go_wp2
  go_loopw [4, 5, 6] (fun v hi at' wr => ∃ (i : Nat) (h : Option Nat) (hz : Int) (ns : List Nat), at' = .int .i64 (2 * (i : Int)) ∧ hi = .int .i32 hz ∧ GetAt w xs (getRun none (pairs xs)) i h hz ns v wr ∧ 2 * i ≤ n) (fun _ _ at' _ => n + 2 - (RowKit.intOf at').toNat)
  case atStart => 
    refine ⟨0, none, -1, [], rfl, rfl, ⟨rfl, own_nil _ _ _ _, Below.refl _ _, ?_, by simp⟩, by omega⟩
    simp only [Nat.mul_zero, List.drop_zero, List.nil_append]
    exact Option.map_id'
  case round =>
    obtain ⟨i, h, hz, ns, rfl, rfl, hG, hi⟩ := hrel
    obtain ⟨hh, hown, hbw, hrun, hnl⟩ := hG
    by_cases h2 : 2 * i + 1 < n
    · obtain ⟨g, off, rfl, hgl, hc⟩ := HC.out (by omega)
      have hx := HB.out (xs.getD (2 * i) 0) (by rw [List.getD_eq_getElem?_getD, List.getElem?_eq_getElem (by have := HN.out; omega)]; exact List.getElem_mem _)
      have hy := HB.out (xs.getD (2 * i + 1) 0) (by rw [List.getD_eq_getElem?_getD, List.getElem?_eq_getElem (by have := HN.out; omega)]; exact List.getElem_mem _)
      have c0 : wr.cell? ⟨g, off + 2 * i, none⟩ = _ := (hbw.cell (p := ⟨g, off + 2 * i, none⟩) hgl).trans (hc (2 * i) (by omega))
      have c1 : wr.cell? ⟨g, off + 2 * i + 1, none⟩ = _ := (hbw.cell (p := ⟨g, off + 2 * i + 1, none⟩) hgl).trans (hc (2 * i + 1) (by omega))
      have hp := pairs_drop xs i (by have := HN.out; omega)
      obtain ⟨u, hu⟩ : ∃ u, (xs.getD (2 * i) 0 + 256 * xs.getD (2 * i + 1) 0).toNat = u := ⟨_, rfl⟩
      have hui : xs.getD (2 * i) 0 + 256 * xs.getD (2 * i + 1) 0 = (u : Int) := by omega
      have hul : u < 65536 := by omega
      have cE := ends_yes g off n c (2 * i) _ _ wr (by omega) hxc hcc hx hy c0 c1
      rw [hui] at cE
      rw [hp, hu] at hrun
      have CE := Lib.hid cE
      have HR := Lib.hid hrun
      have HO := Lib.hid hown
      have hd0 : decide (2 * (i : Int) < (n : Int)) = true := by simp; omega
      have hzz := hbw.size
      have hbl : (Lib.byteCells (ns.flatMap enc)).length ≤ 4 * i := by
        rw [Lib.byteCells_length]
        have := flat_enc_len ns
        omega
      have HL := Lib.hid hbl
      clear hc hx hy c0 c1 hp hu hui cE hrun hown HC hgl hbl
      by_cases l1 : 56320 ≤ u
      · by_cases l2 : u < 57344
        · have d1 : decide ((56320 : Int) ≤ (u : Int)) = true := by simp; omega
          have d2 : decide ((u : Int) < (57344 : Int)) = true := by simp; omega
          cases h with
          | none =>
            obtain rfl : hz = -1 := hh
            have HX := Lib.hid (bad_of HR.out (by simp only [getRun]; rw [if_pos ⟨l1, l2⟩]))
            go_wp2_with (go_at_call 28; refine (CE.out).mono ?_; rintro e w' ⟨rfl, rfl⟩)
            go_ret2
            exact done_bad HX.out hbw
          | some v =>
            obtain ⟨rfl, v1, v2⟩ := hh
            obtain ⟨m, hm⟩ : ∃ m, 65536 + (v - 55296) * 1024 + (u - 56320) = m := ⟨_, rfl⟩
            have hml : IsLetter m := by unfold IsLetter; omega
            have e1 : (65536 + ((v : Int) - 55296) * 1024 + ((u : Int) - 56320)) = (m : Int) := by omega
            have hrun := HR.out
            have hg1 : getRun (some v) (u :: pairs (xs.drop (2 * (i + 1)))) = (getRun none (pairs (xs.drop (2 * (i + 1))))).map fun l => m :: l := by
              simp only [getRun]
              rw [if_pos ⟨l1, l2⟩, hm]
            rw [hg1, Option.map_map] at hrun
            have HR2 := Lib.hid hrun
            have E1 := Lib.hid e1
            clear HR hm e1 hrun hg1
            go_wp2_with (first | (go_at_call 28; refine (CE.out).mono ?_; rintro e w' ⟨rfl, rfl⟩) | fail)
            rw [E1.out]
            refine (Tryd.utf8_AppendRune_plain w.heap.size _ _ _ (m : Int) (by unfold IsLetter at hml; omega) (by unfold IsLetter at hml; omega) wr HO.out (by have := HL.out; omega) hzz).mono ?_
            rintro e w2 ⟨v', rfl, hown', o, hg⟩
            have hon := get_on HO.out hbw hml hown' hg
            have HON := Lib.hid hon
            clear hon hown' hg
            go_wp2
            go_roundw
            case rel => exact ⟨i + 1, none, -1, ns ++ [m], by go_num, rfl, ⟨rfl, HON.out.1, HON.out.2, by have := HR2.out; simpa [Function.comp_def] using this, by simp; omega⟩, by omega⟩
            case measure => simp [RowKit.intOf]; omega
        · have d1 : decide ((56320 : Int) ≤ (u : Int)) = true := by simp; omega
          have d2 : decide ((u : Int) < (57344 : Int)) = false := by simp; omega
          have d3 : decide ((55296 : Int) ≤ (u : Int)) = true := by simp; omega
          have d4 : decide ((u : Int) < (56320 : Int)) = false := by simp; omega
          cases h with
          | some v =>
            obtain ⟨rfl, v1, v2⟩ := hh
            have HX := Lib.hid (bad_of HR.out (by simp only [getRun]; rw [if_neg (by omega)]))
            go_wp2_with (go_at_call 28; refine (CE.out).mono ?_; rintro e w' ⟨rfl, rfl⟩)
            go_ret2
            exact done_bad HX.out hbw
          | none =>
            obtain rfl : hz = -1 := hh
            have hml : IsLetter u := by unfold IsLetter; omega
            have hrun := HR.out
            have hg1 : getRun none (u :: pairs (xs.drop (2 * (i + 1)))) = (getRun none (pairs (xs.drop (2 * (i + 1))))).map fun l => u :: l := by
              simp only [getRun]
              rw [if_neg (by omega), if_neg (by omega)]
            rw [hg1, Option.map_map] at hrun
            have HR2 := Lib.hid hrun
            clear HR hrun hg1
            go_wp2_with (first | (go_at_call 28; refine (CE.out).mono ?_; rintro e w' ⟨rfl, rfl⟩) | fail)
            refine (Tryd.utf8_AppendRune_plain w.heap.size _ _ _ (u : Int) (by unfold IsLetter at hml; omega) (by unfold IsLetter at hml; omega) wr HO.out (by have := HL.out; omega) hzz).mono ?_
            rintro e w2 ⟨v', rfl, hown', o, hg⟩
            have hon := get_on HO.out hbw hml hown' hg
            have HON := Lib.hid hon
            clear hon hown' hg
            go_wp2
            go_roundw
            case rel => exact ⟨i + 1, none, -1, ns ++ [u], by go_num, rfl, ⟨rfl, HON.out.1, HON.out.2, by have := HR2.out; simpa [Function.comp_def] using this, by simp; omega⟩, by omega⟩
            case measure => simp [RowKit.intOf]; omega
      · have d1 : decide ((56320 : Int) ≤ (u : Int)) = false := by simp; omega
        have d4 : decide ((u : Int) < (56320 : Int)) = true := by simp; omega
        cases h with
        | some v =>
          obtain ⟨rfl, v1, v2⟩ := hh
          have HX := Lib.hid (bad_of HR.out (by simp only [getRun]; rw [if_neg (by omega)]))
          go_wp2_with (go_at_call 28; refine (CE.out).mono ?_; rintro e w' ⟨rfl, rfl⟩)
          go_ret2
          exact done_bad HX.out hbw
        | none =>
          obtain rfl : hz = -1 := hh
          by_cases l3 : 55296 ≤ u
          · have d3 : decide ((55296 : Int) ≤ (u : Int)) = true := by simp; omega
            have hrun := HR.out
            have hg1 : getRun none (u :: pairs (xs.drop (2 * (i + 1)))) = getRun (some u) (pairs (xs.drop (2 * (i + 1)))) := by
              simp only [getRun]
              rw [if_neg (by omega), if_pos (by omega)]
            rw [hg1] at hrun
            have HR2 := Lib.hid hrun
            clear HR hrun hg1
            go_wp2_with (go_at_call 28; refine (CE.out).mono ?_; rintro e w' ⟨rfl, rfl⟩)
            go_roundw
            case rel => exact ⟨i + 1, some u, u, ns, by go_num, rfl, ⟨⟨rfl, l3, by omega⟩, HO.out, hbw, HR2.out, by omega⟩, by omega⟩
            case measure => simp [RowKit.intOf]; omega
          · have d3 : decide ((55296 : Int) ≤ (u : Int)) = false := by simp; omega
            have hml : IsLetter u := by unfold IsLetter; omega
            have hrun := HR.out
            have hg1 : getRun none (u :: pairs (xs.drop (2 * (i + 1)))) = (getRun none (pairs (xs.drop (2 * (i + 1))))).map fun l => u :: l := by
              simp only [getRun]
              rw [if_neg (by omega), if_neg (by omega)]
            rw [hg1, Option.map_map] at hrun
            have HR2 := Lib.hid hrun
            clear HR hrun hg1
            go_wp2_with (first | (go_at_call 28; refine (CE.out).mono ?_; rintro e w' ⟨rfl, rfl⟩) | fail)
            refine (Tryd.utf8_AppendRune_plain w.heap.size _ _ _ (u : Int) (by unfold IsLetter at hml; omega) (by unfold IsLetter at hml; omega) wr HO.out (by have := HL.out; omega) hzz).mono ?_
            rintro e w2 ⟨v', rfl, hown', o, hg⟩
            have hon := get_on HO.out hbw hml hown' hg
            have HON := Lib.hid hon
            clear hon hown' hg
            go_wp2
            go_roundw
            case rel => exact ⟨i + 1, none, -1, ns ++ [u], by go_num, rfl, ⟨rfl, HON.out.1, HON.out.2, by have := HR2.out; simpa [Function.comp_def] using this, by simp; omega⟩, by omega⟩
            case measure => simp [RowKit.intOf]; omega
    · by_cases h1 : 2 * i + 1 = n
      · -- the last byte alone
        have hd1 : decide (2 * (i : Int) < (n : Int)) = true := by simp; omega
        have HX := Lib.hid (letters_odd (xs := xs) (by have := HN.out; omega))
        clear hrun hown hh
        go_wp2_with (go_at_call 28; refine (ends_no A n c (2 * i) _ h1 (by omega)).mono ?_; rintro e w' ⟨rfl, rfl⟩)
        go_ret2
        exact done_bad HX.out hbw
      · have hd1 : decide (2 * (i : Int) < (n : Int)) = false := by simp; omega
        have hL : getLetters xs = getRun none (pairs xs) := letters_even (by have := HN.out; omega)
        rw [pairs_end xs i (by have := HN.out; omega)] at hrun
        cases h with
        | some v =>
          obtain ⟨rfl, v1, v2⟩ := hh
          have HX := Lib.hid (hL.trans (show getRun none (pairs xs) = none from hrun.symm))
          clear hrun hown hL
          go_wp2
          go_ret2
          exact done_bad HX.out hbw
        | none =>
          obtain rfl : hz = -1 := hh
          have HX := Lib.hid (hL.trans hrun.symm)
          clear hrun hL
          have hnum : Lib.byteCells (ns.flatMap enc) = nums .u8 ((ns.flatMap enc).map fun b => (b.toNat : Int)) := by unfold Lib.byteCells nums; rw [List.map_map]; rfl
          rw [hnum] at hown
          have hcv := own_string (P := Tryd.prog) Tryd.underlying22 Tryd.underlying5 Tryd.underlying9 hown
          clear hown hnum
          go_wp2
          go_ret2
          exact done_good (by have := HX.out; simpa [getRun] using this) hbw
end Go.Proofs.YtanncmaojnmldaaDoor.U
