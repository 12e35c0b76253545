/- glob.Short: a pattern's short form. -/
import Derived.Test.YtfglhnnbfmpfeaaDoorGwalk
import Derived.Test.YtfglhnnbfmpfeaaDoorUbuild2
import Derived.Lib.OthersKept
set_option linter.unusedVariables false
set_option linter.unusedSimpArgs false
namespace Go.Proofs.YtfglhnnbfmpfeaaDoor.U
open Go.RowKit Go.Proofs Go.Lib Go.Proofs.YtfglhnnbfmpfeaaDoorW.PrintWords

/-- The short form, letter by letter; st: a star waits. -/
def sh : List Nat → Bool → List Nat
  | [], st => if st then [42] else []
  | c :: t, st => if c = 42 then sh t true else if c = 63 then 63 :: sh t st else (if st then [42] else []) ++ c :: sh t false
def shortOf (l : List UInt8) : List UInt8 := (sh (letters l) false).flatMap enc
theorem enc_star : enc 42 = [42] ∧ enc 63 = [63] := by decide
theorem sh_len : ∀ (ns : List Nat) (st : Bool), ((sh ns st).flatMap enc).length ≤ (ns.flatMap enc).length + (if st then 1 else 0) := by
  intro ns
  induction ns with
  | nil => intro st; cases st <;> simp [sh, enc_star.1]
  | cons c t ih =>
    intro st
    rw [sh, List.flatMap_cons, List.length_append]
    split
    · rename_i h
      subst h
      have := ih true
      rw [enc_star.1]
      simp only [if_true, List.length_cons, List.length_nil] at this ⊢
      omega
    · split
      · rename_i h
        subst h
        have := ih st
        rw [List.flatMap_cons, List.length_append, enc_star.2]
        simp only [List.length_cons, List.length_nil]
        omega
      · have := ih false
        rw [List.flatMap_append, List.length_append, List.flatMap_cons, List.length_append]
        have e : ((if st then [42] else []).flatMap enc).length = if st then 1 else 0 := by cases st <;> simp [enc_star.1]
        rw [e]
        simp only [Bool.false_eq_true, if_false] at this
        omega
def starS (st : Bool) : ByteArray := if st then ⟨#[42]⟩ else ⟨#[]⟩
theorem star_cells (st : Bool) : Lib.strCells (starS st) = Lib.byteCells ((if st then [42] else []).flatMap enc) := by
  cases st <;> rfl
theorem byteCells_append' (a b : List UInt8) : Lib.byteCells (a ++ b) = Lib.byteCells a ++ Lib.byteCells b := Lib.byteCells_append a b

theorem encode_letter (n : Nat) (h : IsLetter n) : Lib.runeCells (n : Int) = Lib.byteCells (enc n) := by
  unfold IsLetter at h
  unfold Lib.runeCells Lib.byteCells enc
  by_cases h1 : n < 128
  · rw [if_pos h1, Lib.encodeRuneZ_one (by omega) (by omega)]
    simp
    omega
  · by_cases h2 : n < 2048
    · rw [if_neg h1, if_pos h2, Lib.encodeRuneZ_two (by omega) (by omega)]
      simp
      omega
    · by_cases h3 : n < 65536
      · rw [if_neg h1, if_neg h2, if_pos h3, Lib.encodeRuneZ_three (by omega)]
        simp
        omega
      · rw [if_neg h1, if_neg h2, if_neg h3, if_pos (by omega), Lib.encodeRuneZ_four (by omega) (by omega)]
        simp
        omega
theorem enc_len' (n : Nat) : (enc n).length ≤ 4 := by
  unfold enc
  repeat' split
  all_goals simp only [List.length_cons, List.length_nil]
  all_goals omega
/-- What the loop holds. -/
def ShAt (s : ByteArray) (b : Nat) (w : World) (tot : List UInt8) (pos : Nat) (st : Bool) (done : List UInt8) (wr : World) : Prop :=
  wr.heap[b + 1]? = some (.stringIter s pos) ∧ Lib.IsBuilderF 49 5 b b (Lib.byteCells done) wr ∧ Below b w wr ∧ valid (s.data.toList.drop pos) = true ∧ done ++ (sh (letters (s.data.toList.drop pos)) st).flatMap enc = tot

set_option maxHeartbeats 8000000 in
set_option maxRecDepth 1000000 in
theorem Short_calls (s : ByteArray) (w : World) (hs : s.size ≤ 17592186044416) (hT : Tabs w) :
    Calls Tryd.prog 18 #[.string s] w fun e w' => e = .returned (.tuple #[.string (if askE s.data.toList [] = 0 then ⟨(shortOf s.data.toList).toArray⟩ else ⟨#[]⟩), .int .i64 (askE s.data.toList [])]) ∧ Below w.heap.size w w' := by
  have cA := asked_calls s ⟨#[]⟩ w hs (by decide) hT
  unfold AskDone at cA
  rw [show (⟨#[]⟩ : ByteArray).data.toList = [] from rfl] at cA
  have hE : askE s.data.toList [] = 0 → valid s.data.toList = true := by
    intro h
    unfold askE at h
    split at h
    · rename_i hv; exact hv.1
    · cases h
  obtain ⟨tot, htot⟩ : ∃ tot, shortOf s.data.toList = tot := ⟨_, rfl⟩
  have hlen : tot.length ≤ s.size := by
    have := sh_len (letters s.data.toList) false
    rw [enc_letters, ← size_eq] at this
    unfold shortOf at htot
    rw [htot] at this
    simpa using this
  rw [htot]
  generalize askE s.data.toList [] = E at *
  obtain ⟨r, hr⟩ : ∃ r : ByteArray, (if E = 0 then (⟨tot.toArray⟩ : ByteArray) else ⟨#[]⟩) = r := ⟨_, rfl⟩
  rw [hr]
  have CA := Lib.hid cA
  have HTOT := Lib.hid htot
  clear cA hT htot
  go_enter Tryd.func18, Tryd.ntmps18
  go_wp2_with fail
  refine (CA.out).mono ?_
  rintro e w1 ⟨vP, vT, rfl, hb1, ⟨⟨A1, n1, c1, rfl⟩, A2, n2, c2, rfl⟩, _⟩
  have B1 := Lib.hid hb1
  clear hb1 CA
  by_cases h0 : E = 0
  · have HV := Lib.hid (hE h0)
    subst h0
    rw [if_pos rfl] at hr
    have HR := Lib.hid hr
    clear hE hr
    go_wp2
    go_loopw [8] (fun star wr => ∃ pos st done, star = .string (starS st) ∧ ShAt s w1.heap.size w1 tot pos st done wr) (fun _ wr => s.size - wr.iterPos (w1.heap.size + 1))
    case atStart =>
      refine ⟨0, false, [], rfl, ?_, ?_, ?_, HV.out, by rw [List.drop_zero]; exact HTOT.out⟩
      · have := World.iter_heap (w1.alloc (.cells #[.pointer none, .slice none 0 0] 49)) s 0
        simpa using this
      · exact (Lib.IsBuilderF.of (Lib.fresh_isBuilder 49 5 w1)).alloc _
      · exact ((Below.refl _ w1).alloc (Nat.le_refl _) _).alloc (by simp) _
    case round =>
      obtain ⟨pos, st, done, rfl, hit, hI, hbw, hv, hk⟩ := hrel
      have hsz : w1.heap.size + 1 < wr.heap.size := (Array.getElem?_eq_some_iff.1 hit).1
      have hdl : done.length ≤ s.size := by
        have := congrArg List.length hk
        rw [List.length_append] at this
        omega
      by_cases hp : pos < s.size
      · obtain ⟨r, wd, hde, hdd, hwd, hd1, hne⟩ := next_facts s pos hp
        have hnx := next_run (P := Tryd.prog) hde hp wr (w1.heap.size + 1) hit
        obtain ⟨_, hv', hl⟩ := units_step hdd hne hv
        have hrl : IsLetter r := (valid_iff _).1 hv r (by rw [hl]; exact List.mem_cons_self)
        have hit2 := Lib.iterAt_heap wr (w1.heap.size + 1) s pos (pos + wd) hit
        have hI2 := hI.iterAt hit (pos + wd)
        have hb2 := Lib.below_iterAt hbw (k := w1.heap.size + 1) (by omega) s (pos + wd)
        rw [hl, sh] at hk
        have HIT := Lib.hid hit
        have H2 := Lib.hid hit2
        have HI := Lib.hid hI2
        have HB := Lib.hid hb2
        have HV' := Lib.hid hv'
        have hbl : (Lib.byteCells done).length = done.length := Lib.byteCells_length _
        have HBL := Lib.hid hbl
        have hz2 : w1.heap.size ≤ (wr.iterAt (w1.heap.size + 1) s (pos + wd)).heap.size := by rw [Lib.iterAt_size]; omega
        have HZ := Lib.hid hz2
        clear hit hit2 hI hI2 hb2 hbw hv hv' hl hde hdd hne hbl hz2
        by_cases h42 : r = 42
        · subst h42
          rw [if_pos rfl] at hk
          have HK := Lib.hid hk
          clear hk
          go_wp2
          go_roundw
          case rel => exact ⟨pos + wd, true, done, rfl, H2.out, HI.out, HB.out, HV'.out, HK.out⟩
          case measure =>
            have e1 := HIT.out
            have e2 := H2.out
            simp only [World.iterPos, e1, e2]
            omega
        · rw [if_neg h42] at hk
          have n42 : ((r : Int) == 42) = false := by simp; omega
          by_cases h63 : r = 63
          · subst h63
            rw [if_pos rfl, List.flatMap_cons, enc_star.2, ← List.append_assoc] at hk
            have HK := Lib.hid hk
            clear hk
            go_wp2_with fail
            refine (WriteByte_k w1.heap.size w1.heap.size _ 63 _ HI.out (by rw [HBL.out]; omega) HZ.out).mono ?_
            rintro e w3 ⟨rfl, hB3, hb3, hk3⟩
            have hI3 : Lib.IsBuilderF 49 5 w1.heap.size w1.heap.size (Lib.byteCells (done ++ [63])) w3 := by
              rw [Lib.byteCells_append]
              exact Or.inr hB3
            have H3 := Lib.hid (hk3.iter H2.out (by omega))
            have HI3 := Lib.hid hI3
            have HB3 := Lib.hid (HB.out.trans hb3)
            clear hB3 hb3 hk3 hI3
            go_wp2
            go_roundw
            case rel => exact ⟨pos + wd, st, done ++ [63], rfl, H3.out, HI3.out, HB3.out, HV'.out, HK.out⟩
            case measure =>
              have e1 := HIT.out
              have e2 := H3.out
              simp only [World.iterPos, e1, e2]
              omega
          · rw [if_neg h63, List.flatMap_append, List.flatMap_cons, ← List.append_assoc, ← List.append_assoc] at hk
            have n63 : ((r : Int) == 63) = false := by simp; omega
            have HK := Lib.hid hk
            have hrc := encode_letter r hrl
            have hre := enc_len' r
            have HRC := Lib.hid hrc
            have hss : (starS st).size ≤ 1 := by cases st <;> decide
            have hsl : ((if st then [42] else []).flatMap enc : List UInt8).length ≤ 1 := by cases st <;> decide
            clear hk hrc
            go_wp2_with fail
            refine (WriteString_k w1.heap.size w1.heap.size _ (starS st) _ HI.out (by rw [HBL.out]; omega) HZ.out).mono ?_
            rintro e w3 ⟨rfl, hB3, hb3, hk3⟩
            have hI3 : Lib.IsBuilderF 49 5 w1.heap.size w1.heap.size (Lib.byteCells (done ++ (if st then [42] else []).flatMap enc)) w3 := by
              rw [Lib.byteCells_append, ← star_cells]
              exact Or.inr hB3
            have H3 := Lib.hid (hk3.iter H2.out (by omega))
            have HI3 := Lib.hid hI3
            have HB3 := Lib.hid (HB.out.trans hb3)
            have HZ3 := Lib.hid (Nat.le_trans HZ.out hb3.size)
            clear hB3 hb3 hk3 hI3
            go_wp2_with fail
            refine (WriteRune_k w1.heap.size w1.heap.size _ (r : Int) (by omega) (by omega) _ HI3.out (by rw [Lib.byteCells_length, List.length_append]; omega) HZ3.out).mono ?_
            rintro e w4 ⟨rfl, hB4, hb4, hk4⟩
            have hI4 : Lib.IsBuilderF 49 5 w1.heap.size w1.heap.size (Lib.byteCells (done ++ (if st then [42] else []).flatMap enc ++ enc r)) w4 := by
              rw [Lib.byteCells_append, ← HRC.out]
              exact Or.inr hB4
            have H4 := Lib.hid (hk4.iter H3.out (by omega))
            have HI4 := Lib.hid hI4
            have HB4 := Lib.hid (HB3.out.trans hb4)
            clear hB4 hb4 hk4 hI4
            go_wp2
            go_roundw
            case rel => exact ⟨pos + wd, false, _, rfl, H4.out, HI4.out, HB4.out, HV'.out, HK.out⟩
            case measure =>
              have e1 := HIT.out
              have e2 := H4.out
              simp only [World.iterPos, e1, e2]
              omega
      · have hnx : ∀ ty, (Instr.next (.pointer (some ⟨w1.heap.size + 1, 0, none⟩)) true ty).run Tryd.prog wr = _ := fun ty => Lib.run_next_end_at wr (w1.heap.size + 1) s pos ty hit hp
        have he : s.data.toList.drop pos = [] := List.drop_eq_nil_of_le (by rw [← size_eq]; omega)
        rw [he, letters_nil, sh] at hk
        have hfin : (⟨done.toArray⟩ : ByteArray) ++ starS st = ⟨tot.toArray⟩ := by
          rw [← hk]
          apply ByteArray.ext
          apply Array.toList_inj.1
          cases st <;> simp [starS, enc_star.1]
        have HF := Lib.hid hfin
        have HI := Lib.hid hI
        have HB := Lib.hid hbw
        have hz : w1.heap.size ≤ wr.heap.size := by omega
        have z1 : (⟨done.toArray⟩ : ByteArray).size ≤ s.size := by rw [size_eq, List.toList_toArray]; exact hdl
        have z2 : (starS st).size ≤ 1 := by cases st <;> decide
        clear hk he hit hI hbw hv hfin
        go_wp2_with fail
        refine (Tryd.Builder_String_any_k w1.heap.size w1.heap.size _ _ HI.out hz).mono ?_
        rintro e W1 ⟨rfl, _, b1, _⟩
        have HB2 := Lib.hid (B1.out.trans ((HB.out.trans b1).mono B1.out.size))
        clear b1 HI HB
        go_wp2
        go_ret2
        exact ⟨by rw [← HR.out, ← HF.out]; rfl, HB2.out⟩
  · rw [if_neg h0] at hr
    subst hr
    have d0 : (E == 0) = false := by simp [h0]
    clear hE
    go_wp2
    go_ret2
    exact ⟨rfl, B1.out⟩
end Go.Proofs.YtfglhnnbfmpfeaaDoor.U
