/- utf.letters, order, Alike, Ahead: the order of folded letters; for texts of at most 2^40 bytes. -/
import Derived.Test.YtanncmaojnmldaaDoorUfold
import Derived.Test.YtanncmaojnmldaaDoorWWords
import Derived.Laws.AppendOwn
import Derived.Deep.QuietTactic
import Derived.BigQuiet
set_option linter.unusedVariables false
set_option linter.unusedSimpArgs false
namespace Go.Proofs.YtanncmaojnmldaaDoor.U
open Go.RowKit Go.Proofs Go.Lib Go.Proofs.YtanncmaojnmldaaDoorW.PrintWords

/-- The folded letters. -/
def flet (l : List UInt8) : List Nat := (letters l).map foldN
def fnums (l : List UInt8) : List Int := (flet l).map fun n : Nat => (n : Int)

/-- U+FFFD stands there, or it is told of a byte that is none. -/
theorem prefix_fffd (l : List UInt8) (wd : Nat) (hne : l ≠ []) (h : decodeL l = (65533, wd)) : Lib.hasPrefix l [239, 191, 189] = decide (wd ≠ 1) := by
  rcases shape l hne with ⟨a, t, rfl, ha, e⟩ | ⟨a, b, t, rfl, c1, c3, cv, e⟩ | ⟨a, b, c, t, rfl, c1, c3, c4, cv, cs, e⟩ | ⟨a, b, c, d, t, rfl, c1, c3, c4, c5, cv, cw, e⟩ | ⟨a, t, rfl, ha, e⟩
  · rw [h] at e
    injection e with e1 e2
    omega
  · have h1 := a.toNat_lt
    have h2 := b.toNat_lt
    rw [h] at e
    injection e with e1 e2
    omega
  · have h1 := a.toNat_lt
    have h2 := b.toNat_lt
    have h3 := c.toNat_lt
    rw [h] at e
    injection e with e1 e2
    subst e2
    have ea : a = 239 := UInt8.toNat_inj.1 (by show a.toNat = 239; omega)
    have eb : b = 191 := UInt8.toNat_inj.1 (by show b.toNat = 191; omega)
    have ec : c = 189 := UInt8.toNat_inj.1 (by show c.toNat = 189; omega)
    subst ea eb ec
    rfl
  · rw [h] at e
    injection e with e1 e2
    omega
  · rw [h] at e
    injection e with e1 e2
    subst e2
    -- were it the prefix, the letter would be three bytes wide
    have hb : Bad (a :: t) := by unfold Bad; rw [h]; exact ⟨rfl, rfl⟩
    rw [show decide ((1 : Nat) ≠ 1) = false from rfl]
    rw [Bool.eq_false_iff]
    intro hp
    have hx : ∃ t', a :: t = enc 65533 ++ t' := by
      rcases t with _ | ⟨b, _ | ⟨c, t⟩⟩
      · simp [Lib.hasPrefix] at hp
      · simp [Lib.hasPrefix] at hp
      · simp [Lib.hasPrefix] at hp
        obtain ⟨rfl, rfl, rfl⟩ := hp
        exact ⟨t, rfl⟩
    obtain ⟨t', ht⟩ := hx
    rw [ht] at hb
    exact (decode_enc 65533 (by unfold IsLetter; omega) t').2 hb

theorem infoI32 : (Tryd.prog.info? 21).map (fun i => (i.zero, i.size, i.bytes)) = some (some (.int .i32 0), 1, 4) := by kernel_rfl
theorem fnums_step {s : ByteArray} {pos r wd : Nat} (hd : decodeL (s.data.toList.drop pos) = (r, wd)) (hne : s.data.toList.drop pos ≠ []) :
    fnums (s.data.toList.drop pos) = ((foldN (letter1 (s.data.toList.drop pos)) : Nat) : Int) :: fnums (s.data.toList.drop (pos + wd)) := by
  unfold fnums flet
  rw [letters_step _ hne, hd, List.drop_drop]
  rfl
theorem fnums_len (l : List UInt8) : (fnums l).length ≤ l.length := by
  have := letters_len l
  simpa [fnums, flet] using this
/-- The loop's relation. -/
def LetAt (s : ByteArray) (w : World) (tot : List Int) (pos : Nat) (v : Value) (done : List Int) (wr : World) : Prop :=
  wr.heap[w.heap.size]? = some (.stringIter s pos) ∧ wr.ownsRow w.heap.size 21 1 v done.length (nums .i32 done) ∧ Below w.heap.size w wr ∧ done ++ fnums (s.data.toList.drop pos) = tot
theorem let_next {s : ByteArray} {w wr : World} {tot : List Int} {pos : Nat} {v : Value} {done : List Int} (h : LetAt s w tot pos v done wr) (pos' : Nat) (e : fnums (s.data.toList.drop pos) = fnums (s.data.toList.drop pos)) :
    (wr.iterAt w.heap.size s pos').heap[w.heap.size]? = some (.stringIter s pos') ∧ (wr.iterAt w.heap.size s pos').ownsRow w.heap.size 21 1 v done.length (nums .i32 done) ∧ Below w.heap.size w (wr.iterAt w.heap.size s pos') := by
  obtain ⟨hit, hown, hbw, _⟩ := h
  refine ⟨Lib.iterAt_heap wr _ s pos pos' hit, ?_, Lib.below_iterAt hbw (Nat.le_refl _) s pos'⟩
  refine own_move hown (fun k hk => Lib.iterAt_other _ _ _ _ _ ?_)
  rintro rfl
  obtain ⟨c, hc⟩ := own_typed hown _ hk
  rw [hit] at hc
  cases hc

theorem let_on {s : ByteArray} {w wr w2 : World} {pos : Nat} {v v' : Value} {done : List Int} {y : Int} {o : Obj} (h : wr.heap[w.heap.size]? = some (.stringIter s pos) ∧ wr.ownsRow w.heap.size 21 1 v done.length (nums .i32 done) ∧ Below w.heap.size w wr)
    (hown' : w2.ownsRow w.heap.size 21 1 v' (done.length + 1) (nums .i32 done ++ [.int .i32 y])) (hg : (wr.alloc o).grownBy w2 v.ownBlock) :
    w2.heap[w.heap.size]? = some (.stringIter s pos) ∧ w2.ownsRow w.heap.size 21 1 v' (done ++ [y]).length (nums .i32 (done ++ [y])) ∧ Below w.heap.size w w2 := by
  obtain ⟨h1, h2, h3⟩ := h
  have hsz : w.heap.size < wr.heap.size := (Array.getElem?_eq_some_iff.1 h1).1
  refine ⟨?_, ?_, (h3.alloc h3.size _).grown hg (by simp; omega) (fun k hk => (h2.lt k hk).1)⟩
  · rw [hg.block _ (by simp; omega) ?_, Lib.alloc_old wr _ _ hsz]
    · exact h1
    · intro e
      obtain ⟨c, hc⟩ := own_typed h2 _ e.symm
      rw [h1] at hc
      cases hc
  · rw [List.length_append, nums_append]
    exact hown'

set_option maxHeartbeats 4000000 in
set_option maxRecDepth 1000000 in
theorem letters_calls (s : ByteArray) (w : World) (hs : s.size ≤ 17592186044416) :
    Calls Tryd.prog 42 #[.string s] w fun e w' => ∃ v, e = .returned v ∧ Kd.R (Kd.int .i32) 21 w' w.heap.size (fun _ => True) v (fnums s.data.toList) ∧ Below w.heap.size w w' := by
  obtain ⟨i0, hi, hz0, hz1, hz2⟩ := info_parts infoI32
  obtain ⟨tot, htot⟩ : ∃ tot, fnums s.data.toList = tot := ⟨_, rfl⟩
  rw [htot]
  have hlt : tot.length ≤ s.size := by rw [← htot, size_eq]; exact fnums_len _
  have HT := Lib.hid htot
  clear htot
  go_enter Tryd.func42, Tryd.ntmps42
  go_wp2
  go_loopw [3] (fun v wr => ∃ pos done, LetAt s w tot pos v done wr) (fun _ wr => s.size - wr.iterPos w.heap.size)
  case atStart =>
    refine ⟨0, [], ?_, own_nil _ _ _ _, (Below.refl _ w).alloc (Nat.le_refl _) _, by rw [List.drop_zero]; simpa using HT.out⟩
    have := World.iter_heap w s 0
    simpa using this
  case round =>
    obtain ⟨pos, done, hL⟩ := hrel
    obtain ⟨hit, hown, hbw, hk⟩ := hL
    have hz := hbw.size
    have hsz : w.heap.size < wr.heap.size := (Array.getElem?_eq_some_iff.1 hit).1
    by_cases hp : pos < s.size
    · obtain ⟨r, wd, hde, hdl, hwd, hd1, hne⟩ := next_facts s pos hp
      have hnx := next_run (P := Tryd.prog) hde hp wr w.heap.size hit
      have hst := let_next ⟨hit, hown, hbw, hk⟩ (pos + wd) rfl
      have hfs := fnums_step hdl hne
      have hdn : done.length + 1 ≤ s.size := by
        have := congrArg List.length hk
        rw [hfs, List.length_append, List.length_cons] at this
        omega
      have HST := Lib.hid hst
      have HIT := Lib.hid hit
      rw [hfs] at hk
      have HK := Lib.hid hk
      have HDL := Lib.hid hdl
      clear hst hit hk hdl hfs hown hde
      have HNE := Lib.hid hne
      clear hne
      by_cases hr : r = 65533
      · subst hr
        have d0 : (((65533 : Nat) : Int) == 65533) = true := rfl
        have cP : ∀ W, Calls Tryd.prog 45 #[.string (s.extract pos s.size), .string ⟨#[239, 191, 189]⟩] W fun e w' => e = .returned (.bool (decide (wd ≠ 1))) ∧ w' = W := by
          intro W
          have := Tryd.strings_HasPrefix (s.extract pos s.size) ⟨#[239, 191, 189]⟩ W
          rw [Lib.extract_to_end] at this
          rw [← prefix_fffd _ wd HNE.out HDL.out]
          exact this
        by_cases hw : wd = 1
        · subst hw
          rw [show decide ((1 : Nat) ≠ 1) = false from rfl] at cP
          have CP := Lib.hid cP
          clear cP
          have h256 := s[pos].toNat_lt
          have hl1 : letter1 (s.data.toList.drop pos) = 1114112 + s[pos].toNat := by
            rw [letter1_bad HDL.out]
            congr 1
            rw [List.drop_eq_getElem_cons (by rw [← size_eq]; exact hp)]
            rfl
          have HK2 := HK.out
          rw [hl1] at HK2
          have HK3 := Lib.hid HK2
          clear HK2 hl1
          go_wp2_with (go_at_call 45; refine (CP.out _).mono ?_)
          rintro e w' ⟨rfl, rfl⟩
          go_wp2_with fail
          rw [show (1114112 + (s[pos].toNat : Int)) = ((1114112 + s[pos].toNat : Nat) : Int) from rfl]
          refine (foldR_calls (1114112 + s[pos].toNat) _ (by omega)).mono ?_
          rintro e w' ⟨rfl, rfl⟩
          go_wp2_with (at_builtin; refine wpList_append_own _ rfl _ _ 72 rfl w.heap.size 21 i0 (.int .i32 0) 1 4 Tryd.underlying72 hi hz0 hz1 hz2 rfl (by decide) _ _ _ rfl (HST.out.2.1.alloc _) ⟨(wr.iterAt w.heap.size s (pos + 1)).heap.size, 0, none⟩ 1 1 [.int .i32 ((foldN (1114112 + s[pos].toNat) : Nat) : Int)] rfl rfl ?c1 ?c2 ?c3 ?c4 ?c5 ?_)
          case c1 =>
            intro j u hj
            match j, hj with
            | 0, hj => simp at hj; subst hj; simp [Addr.add]
          case c2 => intro u hu; simp at hu; subst hu; rfl
          case c3 => unfold maxLen; omega
          case c4 => omega
          case c5 => simp [Lib.iterAt_size]; omega
          intro v' w2 hown' hgrow _
          have hon := let_on HST.out hown' hgrow
          have HON := Lib.hid hon
          clear hon hown' hgrow
          go_wp2
          go_roundw
          case rel => exact ⟨pos + 1, done ++ [_], HON.out.1, HON.out.2.1, HON.out.2.2, by have := HK3.out; rw [List.append_assoc]; exact this⟩
          case measure =>
            have e1 := HIT.out
            have e2 := HON.out.1
            simp only [World.iterPos, e1, e2]
            omega
        · rw [show decide (wd ≠ 1) = true by simp; omega] at cP
          have CP := Lib.hid cP
          clear cP
          have hl1 : letter1 (s.data.toList.drop pos) = 65533 := letter1_good HDL.out (fun h => hw h.2)
          have HK2 := HK.out
          rw [hl1] at HK2
          have HK3 := Lib.hid HK2
          clear HK2 hl1
          go_wp2_with (go_at_call 45; refine (CP.out _).mono ?_)
          rintro e w' ⟨rfl, rfl⟩
          go_wp2_with (go_at_call 33; refine (foldR_calls 65533 _ (by omega)).mono ?_)
          rintro e w' ⟨rfl, rfl⟩
          go_wp2_with (at_builtin; refine wpList_append_own _ rfl _ _ 72 rfl w.heap.size 21 i0 (.int .i32 0) 1 4 Tryd.underlying72 hi hz0 hz1 hz2 rfl (by decide) _ _ _ rfl (HST.out.2.1.alloc _) ⟨(wr.iterAt w.heap.size s (pos + wd)).heap.size, 0, none⟩ 1 1 [.int .i32 ((foldN 65533 : Nat) : Int)] rfl rfl ?c1 ?c2 ?c3 ?c4 ?c5 ?_)
          case c1 =>
            intro j u hj
            match j, hj with
            | 0, hj => simp at hj; subst hj; simp [Addr.add]
          case c2 => intro u hu; simp at hu; subst hu; rfl
          case c3 => unfold maxLen; omega
          case c4 => omega
          case c5 => simp [Lib.iterAt_size]; omega
          intro v' w2 hown' hgrow _
          have hon := let_on HST.out hown' hgrow
          have HON := Lib.hid hon
          clear hon hown' hgrow
          go_wp2
          go_roundw
          case rel => exact ⟨pos + wd, done ++ [_], HON.out.1, HON.out.2.1, HON.out.2.2, by have := HK3.out; rw [List.append_assoc]; exact this⟩
          case measure =>
            have e1 := HIT.out
            have e2 := HON.out.1
            simp only [World.iterPos, e1, e2]
            omega
      · have d0 : ((r : Int) == 65533) = false := by simp; omega
        have hl1 : letter1 (s.data.toList.drop pos) = r := letter1_good HDL.out (fun h => hr h.1)
        have HK2 := HK.out
        rw [hl1] at HK2
        have HK3 := Lib.hid HK2
        clear HK2 hl1
        go_wp2_with (go_at_call 33; with_reducible refine (foldR_calls r _ (by omega)).mono ?_)
        rintro e w' ⟨rfl, rfl⟩
        go_wp2_with (at_builtin; refine wpList_append_own _ rfl _ _ 72 rfl w.heap.size 21 i0 (.int .i32 0) 1 4 Tryd.underlying72 hi hz0 hz1 hz2 rfl (by decide) _ _ _ rfl (HST.out.2.1.alloc _) ⟨(wr.iterAt w.heap.size s (pos + wd)).heap.size, 0, none⟩ 1 1 [.int .i32 ((foldN r : Nat) : Int)] rfl rfl ?c1 ?c2 ?c3 ?c4 ?c5 ?_)
        case c1 =>
          intro j u hj
          match j, hj with
          | 0, hj => simp at hj; subst hj; simp [Addr.add]
        case c2 => intro u hu; simp at hu; subst hu; rfl
        case c3 => unfold maxLen; omega
        case c4 => omega
        case c5 => simp [Lib.iterAt_size]; omega
        intro v' w2 hown' hgrow _
        have hon := let_on HST.out hown' hgrow
        have HON := Lib.hid hon
        clear hon hown' hgrow
        go_wp2
        go_roundw
        case rel => exact ⟨pos + wd, done ++ [_], HON.out.1, HON.out.2.1, HON.out.2.2, by have := HK3.out; rw [List.append_assoc]; exact this⟩
        case measure =>
          have e1 := HIT.out
          have e2 := HON.out.1
          simp only [World.iterPos, e1, e2]
          omega
    · have hnx : ∀ ty, (Instr.next (.pointer (some ⟨w.heap.size, 0, none⟩)) true ty).run Tryd.prog wr = _ := fun ty => Lib.run_next_end_at wr w.heap.size s pos ty hit hp
      have he : s.data.toList.drop pos = [] := List.drop_eq_nil_of_le (by rw [← size_eq]; omega)
      have hd : done = tot := by
        have h0 : fnums (s.data.toList.drop pos) = [] := by rw [he]; rfl
        rw [h0, List.append_nil] at hk
        exact hk
      subst hd
      have hR : Kd.R (Kd.int .i32) 21 wr w.heap.size (fun _ => True) _ done := Kd.R_of_own hown (fun _ _ => trivial)
      have HR := Lib.hid hR
      clear hk he hit hown hR
      go_wp2
      go_ret
      exact ⟨_, rfl, HR.out, hbw⟩

/-- Below 0: the first is ahead; 0: alike. -/
def ordN : List Nat → List Nat → Int
  | x :: xs, y :: ys => if x = y then ordN xs ys else (x : Int) - (y : Int)
  | xs, ys => (xs.length : Int) - (ys.length : Int)
theorem ordN_end (xs ys : List Nat) (h : xs = [] ∨ ys = []) : ordN xs ys = (xs.length : Int) - (ys.length : Int) := by
  rcases h with rfl | rfl
  · unfold ordN
    rfl
  · cases xs <;> rfl

/-- A row of the call's own: its shape and its cells. -/
theorem open_row {k : IntKind} {e : Nat} {w : World} {base : Nat} {v : Value} {xs : List Int} (h : Kd.R (Kd.int k) e w base (fun _ => True) v xs) :
    ∃ A c, v = .slice A xs.length c ∧ xs.length ≤ c ∧ (0 < xs.length → ∃ g, A = some ⟨g, 0, none⟩ ∧ base ≤ g ∧ g < w.heap.size ∧ ∀ j, j < xs.length → w.cell? ⟨g, j, none⟩ = some (.int k (xs.getD j 0))) := by
  have ho := Kd.own_of_R h
  rcases Nat.eq_zero_or_pos xs.length with h0 | h0
  · obtain ⟨A, c, hv⟩ := own_slice ho
    refine ⟨A, c, hv, by omega, fun hp => absurd hp (by omega)⟩
  · obtain ⟨g, cap, rfl, hb, hl⟩ := ho.form h0
    have hcap : xs.length ≤ cap := by
      rcases ho.2 with ⟨_, h1⟩ | ⟨g', cap', cur, he, _, _, h1, _⟩
      · omega
      · injection he with _ _ he
        omega
    have hg : g < w.heap.size := own_lt ho g rfl
    refine ⟨_, cap, rfl, hcap, fun _ => ⟨g, rfl, hb, hg, fun j hj => ?_⟩⟩
    have := ho.cells (g := g) rfl j (.int k (xs.getD j 0)) (by simp [encs, List.getElem?_eq_getElem hj, List.getD_eq_getElem?_getD])
    rwa [add_plain] at this

theorem drop_cons {xs : List Nat} {k : Nat} (h : k < xs.length) : xs.drop k = xs.getD k 0 :: xs.drop (k + 1) := by
  rw [List.drop_eq_getElem_cons h, List.getD_eq_getElem?_getD, List.getElem?_eq_getElem h]
  rfl
theorem getD_nums (xs : List Nat) (k : Nat) : (xs.map fun n : Nat => (n : Int)).getD k 0 = ((xs.getD k 0 : Nat) : Int) := by
  rw [List.getD_eq_getElem?_getD, List.getD_eq_getElem?_getD, List.getElem?_map]
  cases xs[k]? <;> rfl
theorem letters_bound : ∀ l : List UInt8, ∀ n ∈ letters l, n ≤ 1114500 := by
  refine by_letters (fun n h => by simp [letters_nil] at h) ?_
  intro l hne ih m hm
  rw [letters_step l hne] at hm
  rcases List.mem_cons.1 hm with rfl | hm
  · unfold letter1
    have h1 := (l.headD 0).toNat_lt
    have h2 := decodeL_rune l
    split <;> omega
  · exact ih m hm
theorem flet_bound (l : List UInt8) : ∀ n ∈ flet l, n ≤ 1114600 := by
  unfold flet
  intro n hn
  obtain ⟨m, hm, rfl⟩ := List.mem_map.1 hn
  have := letters_bound l m hm
  unfold foldN
  split <;> omega

set_option maxHeartbeats 4000000 in
set_option maxRecDepth 1000000 in
theorem order_calls (a b : ByteArray) (w : World) (ha : a.size ≤ 17592186044416) (hb : b.size ≤ 17592186044416) :
    Calls Tryd.prog 35 #[.string a, .string b] w fun e w' => e = .returned (.int .i64 (ordN (flet a.data.toList) (flet b.data.toList))) ∧ Below w.heap.size w w' := by
  have cA := letters_calls a w ha
  have hl1 := fnums_len a.data.toList
  have hl2 := fnums_len b.data.toList
  rw [← size_eq] at hl1 hl2
  have hx := flet_bound a.data.toList
  have hy := flet_bound b.data.toList
  unfold fnums at hl1 hl2
  obtain ⟨xs, hxs⟩ : ∃ xs, flet a.data.toList = xs := ⟨_, rfl⟩
  obtain ⟨ys, hys⟩ : ∃ ys, flet b.data.toList = ys := ⟨_, rfl⟩
  have cB := fun W => letters_calls b W hb
  unfold fnums at cA cB
  rw [hxs] at cA hl1 hx
  rw [hys] at cB hl2 hy
  rw [hxs, hys]
  rw [List.length_map] at hl1 hl2
  obtain ⟨tot, htot⟩ : ∃ tot, ordN xs ys = tot := ⟨_, rfl⟩
  rw [htot]
  have CA := Lib.hid cA
  have CB := Lib.hid cB
  have HT := Lib.hid htot
  have HX := Lib.hid hx
  have HY := Lib.hid hy
  obtain ⟨m, hm⟩ : ∃ m, xs.length = m := ⟨_, rfl⟩
  obtain ⟨n, hn⟩ : ∃ n, ys.length = n := ⟨_, rfl⟩
  rw [hm] at hl1
  rw [hn] at hl2
  have HM := Lib.hid hm
  have HN := Lib.hid hn
  clear cA cB htot hx hy hxs hys hm hn
  go_enter Tryd.func35, Tryd.ntmps35
  go_wp2_with fail
  refine (CA.out).mono ?_
  rintro e w1 ⟨v1, rfl, hR1, hb1⟩
  obtain ⟨A1, c1, rfl, hc1, hA1⟩ := open_row hR1
  rw [List.length_map, HM.out] at hc1 hA1 ⊢
  have HA1 := Lib.hid hA1
  clear hA1 hR1
  go_wp2_with fail
  refine (CB.out _).mono ?_
  rintro e w2 ⟨v2, rfl, hR2, hb2⟩
  obtain ⟨A2, c2, rfl, hc2, hA2⟩ := open_row hR2
  rw [List.length_map, HN.out] at hc2 hA2 ⊢
  have HA2 := Lib.hid hA2
  clear hA2 hR2
  have hbel : Below w.heap.size w w2 := hb1.trans (hb2.mono hb1.size)
  have HB2 := Lib.hid hb2
  clear hb1 hb2
  go_wp2
  go_loopw [7] (fun i wr => ∃ k q : Nat, i = .int .i64 k ∧ k ≤ m ∧ k ≤ n ∧ ordN (xs.drop k) (ys.drop k) = tot ∧ wr = w2.drewN q) (fun i _ => m - (RowKit.intOf i).toNat)
  case atStart => exact ⟨0, 0, rfl, Nat.zero_le _, Nat.zero_le _, HT.out, rfl⟩
  case round =>
    obtain ⟨k, q, rfl, hk1, hk2, hord, rfl⟩ := hrel
    have hbq : Below w.heap.size w (w2.drewN q) := pw_below_drewN hbel q
    by_cases h1 : k < m
    · by_cases h2 : k < n
      · obtain ⟨g1, rfl, _, hg1, hcell1⟩ := HA1.out (by omega)
        obtain ⟨g2, rfl, _, hg2, hcell2⟩ := HA2.out (by omega)
        have e1 := hcell1 k h1
        have e2 := hcell2 k h2
        rw [getD_nums] at e1 e2
        have f1 : w2.cell? ⟨g1, k, none⟩ = some (.int .i32 ((xs.getD k 0 : Nat) : Int)) := (HB2.out.cell (p := ⟨g1, k, none⟩) hg1).trans e1
        have f2 : w2.cell? ⟨g2, k, none⟩ = some (.int .i32 ((ys.getD k 0 : Nat) : Int)) := e2
        rw [drop_cons (xs := xs) (by have := HM.out; omega), drop_cons (xs := ys) (by have := HN.out; omega)] at hord
        obtain ⟨x, hx⟩ : ∃ x, xs.getD k 0 = x := ⟨_, rfl⟩
        obtain ⟨y, hy⟩ : ∃ y, ys.getD k 0 = y := ⟨_, rfl⟩
        have hxb : x ≤ 1114600 := by rw [← hx]; exact HX.out _ (by rw [List.getD_eq_getElem?_getD, List.getElem?_eq_getElem (by have := HM.out; omega)]; exact List.getElem_mem _)
        have hyb : y ≤ 1114600 := by rw [← hy]; exact HY.out _ (by rw [List.getD_eq_getElem?_getD, List.getElem?_eq_getElem (by have := HN.out; omega)]; exact List.getElem_mem _)
        rw [hx] at f1 hord
        rw [hy] at f2 hord
        have HO := Lib.hid hord
        have i0 : decide (k < m) = true := by simp; omega
        have i1 : decide (k < n) = true := by simp; omega
        have z0 : (0 : Int) ≤ (k : Int) := by omega
        have z1 : (k : Int) < (m : Int) := by omega
        have z2 : (k : Int) < (n : Int) := by omega
        clear hcell1 hcell2 e1 e2 hx hy hord HA1 HA2 hg1 hg2
        by_cases hxy : x = y
        · subst hxy
          have dd : ((x : Int) != (x : Int)) = false := by simp
          have HO2 := HO.out
          rw [ordN, if_pos rfl] at HO2
          have HO3 := Lib.hid HO2
          clear HO HO2
          go_wp2_with fail
          go_quiet (fail)
          go_wp2
          go_roundw
          case rel => exact ⟨k + 1, q + nq, by go_num, h1, h2, HO3.out, rfl⟩
          case measure => simp [RowKit.intOf]; omega
        · have dd : ((x : Int) != (y : Int)) = true := by simp; omega
          have HO2 := HO.out
          rw [ordN, if_neg hxy] at HO2
          subst HO2
          clear HO HT hxy
          go_wp2_with fail
          go_quiet (fail)
          go_wp2
          go_quiet (fail)
          go_wp2
          go_ret
          exact ⟨rfl, pw_below_drewN (pw_below_drewN hbq _) _⟩
      · have i0 : decide (k < m) = true := by simp; omega
        have i1 : decide (k < n) = false := by simp; omega
        have hd : ys.drop k = [] := List.drop_eq_nil_of_le (by have := HN.out; omega)
        rw [ordN_end _ _ (.inr hd), hd, List.length_drop, HM.out, List.length_nil] at hord
        have hk : k = n := by omega
        have HO1 : tot = (m : Int) - (n : Int) := by omega
        have HO := Lib.hid HO1
        clear HO1
        clear hord hd hk HT
        go_wp2
        go_ret
        exact ⟨by rw [HO.out]; rfl, hbq⟩
    · have i0 : decide (k < m) = false := by simp; omega
      have hd : xs.drop k = [] := List.drop_eq_nil_of_le (by have := HM.out; omega)
      rw [ordN_end _ _ (.inl hd), hd, List.length_drop, HN.out, List.length_nil] at hord
      have hk : k = m := by omega
      have HO1 : tot = (m : Int) - (n : Int) := by omega
      have HO := Lib.hid HO1
      clear HO1
      clear hord hd hk HT
      go_wp2
      go_ret
      exact ⟨by rw [HO.out]; rfl, hbq⟩

def alikeB (a b : List UInt8) : Bool := decide (ordN (flet a) (flet b) = 0)
def aheadB (a b : List UInt8) : Bool := decide (ordN (flet a) (flet b) < 0)
theorem Alike_calls (a b : ByteArray) (w : World) (ha : a.size ≤ 17592186044416) (hb : b.size ≤ 17592186044416) :
    Calls Tryd.prog 20 #[.string a, .string b] w fun e w' => e = .returned (.bool (alikeB a.data.toList b.data.toList)) ∧ Below w.heap.size w w' := by
  have c := order_calls a b w ha hb
  unfold alikeB
  generalize ordN (flet a.data.toList) (flet b.data.toList) = z at *
  go_enter Tryd.func20, Tryd.ntmps20
  go_wp2_with (go_at_call 35; with_reducible refine c.mono ?_)
  rintro e w' ⟨rfl, h⟩
  go_wp2
  go_ret
  exact ⟨by simp [BEq.beq], h⟩
theorem Ahead_calls (a b : ByteArray) (w : World) (ha : a.size ≤ 17592186044416) (hb : b.size ≤ 17592186044416) :
    Calls Tryd.prog 19 #[.string a, .string b] w fun e w' => e = .returned (.bool (aheadB a.data.toList b.data.toList)) ∧ Below w.heap.size w w' := by
  have c := order_calls a b w ha hb
  unfold aheadB
  generalize ordN (flet a.data.toList) (flet b.data.toList) = z at *
  go_enter Tryd.func19, Tryd.ntmps19
  go_wp2_with (go_at_call 35; with_reducible refine c.mono ?_)
  rintro e w' ⟨rfl, h⟩
  go_wp2
  go_ret
  exact ⟨rfl, h⟩
end Go.Proofs.YtanncmaojnmldaaDoor.U
