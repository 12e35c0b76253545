/- The texts Uaprune, Ugetw, Rgetw, Lgetsw, OpenUw, one behind the other. -/
import Derived.Test.YtanncmaojnmldaaDoorUget
import Derived.Deep.DeepAppendWide
import Derived.Test.YtanncmaojnmldaaDoorPRwGet
import Derived.Test.YtanncmaojnmldaaDoorRget
import Derived.Test.YtanncmaojnmldaaDoorUlaw
import Derived.Test.YtanncmaojnmldaaDoorOpen
import Derived.SizedLaws
/- utf8.AppendRune onto a row of bytes that the call owns, of letters alone; the row up to one and a half times 2^47 bytes. -/
set_option linter.unusedVariables false
set_option linter.unusedSimpArgs false
namespace Go.Proofs.YtanncmaojnmldaaDoor.U
open Go.RowKit Go.Proofs Go.Lib Go.Shelf Go.Proofs.YtanncmaojnmldaaDoorW.PrintWords


set_option maxHeartbeats 4000000 in
set_option maxRecDepth 1000000 in
theorem Ap_one (B : Nat) (v : Value) (n : Nat) (xs : List Value) (r : Int) (h0 : 0 ≤ r) (h1 : r ≤ 127) (w : World) (hown : w.ownsRow B 5 1 v n xs) (hlen : n ≤ 211106232532992) (hBw : B ≤ w.heap.size) :
    Calls Tryd.prog 29 #[v, .int .i32 r] w fun e w' => ∃ v', e = .returned v' ∧ w'.ownsRow B 5 1 v' (n + 1) (xs ++ [.int .u8 r]) ∧ ∃ o, (w.alloc o).grownBy w' v.ownBlock := by
  obtain ⟨i0, hi, hz0, hz1, hz2⟩ := info_parts infoU8
  go_enter Tryd.func29, Tryd.ntmps29
  go_wp2_with (at_builtin; refine wpList_append_own_wide _ rfl _ _ 22 rfl B 5 i0 (.int .u8 0) 1 1 Tryd.underlying22 hi hz0 hz1 hz2 rfl (by decide) _ _ _ rfl (hown.alloc _) ⟨w.heap.size, 0, none⟩ 1 1 [.int .u8 r] rfl rfl ?c1 ?c2 ?c3 ?c4 ?c5 ?_)
  case c1 =>
    intro j u hj
    match j, hj with
    | 0, hj => simp at hj; subst hj; simp [Addr.add]
    | (j + 1), hj => simp at hj
  case c2 => intro u hu; simp at hu; subst hu; rfl
  case c3 => unfold maxLen; omega
  case c4 => omega
  case c5 => simp; omega
  intro v' w2 hown' hgrow _
  go_wp2
  go_ret
  exact ⟨_, rfl, hown', _, hgrow⟩

set_option maxHeartbeats 4000000 in
set_option maxRecDepth 1000000 in
theorem Ap_two (B : Nat) (v : Value) (n : Nat) (xs : List Value) (r : Int) (h0 : 128 ≤ r) (h1 : r ≤ 2047) (w : World) (hown : w.ownsRow B 5 1 v n xs) (hlen : n ≤ 211106232532992) (hBw : B ≤ w.heap.size) :
    Calls Tryd.prog 40 #[v, .int .i32 r] w fun e w' => ∃ v', e = .returned v' ∧ w'.ownsRow B 5 1 v' (n + 2) (xs ++ [.int .u8 (192 + r / 64), .int .u8 (128 + r % 64)]) ∧ ∃ o, (w.alloc o).grownBy w' v.ownBlock := by
  obtain ⟨i0, hi, hz0, hz1, hz2⟩ := info_parts infoU8
  go_enter Tryd.func40, Tryd.ntmps40
  go_wp2_with (at_builtin; refine wpList_append_own_wide _ rfl _ _ 22 rfl B 5 i0 (.int .u8 0) 1 1 Tryd.underlying22 hi hz0 hz1 hz2 rfl (by decide) _ _ _ rfl (hown.alloc _) ⟨w.heap.size, 0, none⟩ 2 2 [.int .u8 (192 + r / 64), .int .u8 (128 + r % 64)] rfl rfl ?c1 ?c2 ?c3 ?c4 ?c5 ?_)
  case c1 =>
    intro j u hj
    match j, hj with
    | 0, hj => simp at hj; subst hj; simp [Addr.add]
    | 1, hj => simp at hj; subst hj; simp [Addr.add]
    | (j + 2), hj => simp at hj
  case c2 => intro u hu; simp at hu; rcases hu with rfl | rfl <;> rfl
  case c3 => unfold maxLen; omega
  case c4 => omega
  case c5 => simp; omega
  intro v' w2 hown' hgrow _
  go_wp2
  go_ret
  exact ⟨_, rfl, hown', _, hgrow⟩

set_option maxHeartbeats 4000000 in
set_option maxRecDepth 1000000 in
theorem Ap_three_lo (B : Nat) (v : Value) (n : Nat) (xs : List Value) (r : Int) (h0 : 2048 ≤ r) (h1 : r ≤ 55295) (w : World) (hown : w.ownsRow B 5 1 v n xs) (hlen : n ≤ 211106232532992) (hBw : B ≤ w.heap.size) :
    Calls Tryd.prog 40 #[v, .int .i32 r] w fun e w' => ∃ v', e = .returned v' ∧ w'.ownsRow B 5 1 v' (n + 3) (xs ++ [.int .u8 (224 + r / 4096), .int .u8 (128 + r / 64 % 64), .int .u8 (128 + r % 64)]) ∧ ∃ o, (w.alloc o).grownBy w' v.ownBlock := by
  obtain ⟨i0, hi, hz0, hz1, hz2⟩ := info_parts infoU8
  go_enter Tryd.func40, Tryd.ntmps40
  go_wp2_with (at_builtin; refine wpList_append_own_wide _ rfl _ _ 22 rfl B 5 i0 (.int .u8 0) 1 1 Tryd.underlying22 hi hz0 hz1 hz2 rfl (by decide) _ _ _ rfl (hown.alloc _) ⟨w.heap.size, 0, none⟩ 3 3 [.int .u8 (224 + r / 4096), .int .u8 (128 + r / 64 % 64), .int .u8 (128 + r % 64)] rfl rfl ?c1 ?c2 ?c3 ?c4 ?c5 ?_)
  case c1 =>
    intro j u hj
    match j, hj with
    | 0, hj => simp at hj; subst hj; simp [Addr.add]
    | 1, hj => simp at hj; subst hj; simp [Addr.add]
    | 2, hj => simp at hj; subst hj; simp [Addr.add]
    | (j + 3), hj => simp at hj
  case c2 => intro u hu; simp at hu; rcases hu with rfl | rfl | rfl <;> rfl
  case c3 => unfold maxLen; omega
  case c4 => omega
  case c5 => simp; omega
  intro v' w2 hown' hgrow _
  go_wp2
  go_ret
  exact ⟨_, rfl, hown', _, hgrow⟩

set_option maxHeartbeats 4000000 in
set_option maxRecDepth 1000000 in
theorem Ap_three_hi (B : Nat) (v : Value) (n : Nat) (xs : List Value) (r : Int) (h0 : 57344 ≤ r) (h1 : r ≤ 65535) (w : World) (hown : w.ownsRow B 5 1 v n xs) (hlen : n ≤ 211106232532992) (hBw : B ≤ w.heap.size) :
    Calls Tryd.prog 40 #[v, .int .i32 r] w fun e w' => ∃ v', e = .returned v' ∧ w'.ownsRow B 5 1 v' (n + 3) (xs ++ [.int .u8 (224 + r / 4096), .int .u8 (128 + r / 64 % 64), .int .u8 (128 + r % 64)]) ∧ ∃ o, (w.alloc o).grownBy w' v.ownBlock := by
  obtain ⟨i0, hi, hz0, hz1, hz2⟩ := info_parts infoU8
  go_enter Tryd.func40, Tryd.ntmps40
  go_wp2_with (at_builtin; refine wpList_append_own_wide _ rfl _ _ 22 rfl B 5 i0 (.int .u8 0) 1 1 Tryd.underlying22 hi hz0 hz1 hz2 rfl (by decide) _ _ _ rfl (hown.alloc _) ⟨w.heap.size, 0, none⟩ 3 3 [.int .u8 (224 + r / 4096), .int .u8 (128 + r / 64 % 64), .int .u8 (128 + r % 64)] rfl rfl ?c1 ?c2 ?c3 ?c4 ?c5 ?_)
  case c1 =>
    intro j u hj
    match j, hj with
    | 0, hj => simp at hj; subst hj; simp [Addr.add]
    | 1, hj => simp at hj; subst hj; simp [Addr.add]
    | 2, hj => simp at hj; subst hj; simp [Addr.add]
    | (j + 3), hj => simp at hj
  case c2 => intro u hu; simp at hu; rcases hu with rfl | rfl | rfl <;> rfl
  case c3 => unfold maxLen; omega
  case c4 => omega
  case c5 => simp; omega
  intro v' w2 hown' hgrow _
  go_wp2
  go_ret
  exact ⟨_, rfl, hown', _, hgrow⟩

set_option maxHeartbeats 4000000 in
set_option maxRecDepth 1000000 in
theorem Ap_four (B : Nat) (v : Value) (n : Nat) (xs : List Value) (r : Int) (h0 : 65536 ≤ r) (h1 : r ≤ 1114111) (w : World) (hown : w.ownsRow B 5 1 v n xs) (hlen : n ≤ 211106232532992) (hBw : B ≤ w.heap.size) :
    Calls Tryd.prog 40 #[v, .int .i32 r] w fun e w' => ∃ v', e = .returned v' ∧ w'.ownsRow B 5 1 v' (n + 4) (xs ++ [.int .u8 (240 + r / 262144), .int .u8 (128 + r / 4096 % 64), .int .u8 (128 + r / 64 % 64), .int .u8 (128 + r % 64)]) ∧ ∃ o, (w.alloc o).grownBy w' v.ownBlock := by
  obtain ⟨i0, hi, hz0, hz1, hz2⟩ := info_parts infoU8
  go_enter Tryd.func40, Tryd.ntmps40
  go_wp2_with (at_builtin; refine wpList_append_own_wide _ rfl _ _ 22 rfl B 5 i0 (.int .u8 0) 1 1 Tryd.underlying22 hi hz0 hz1 hz2 rfl (by decide) _ _ _ rfl (hown.alloc _) ⟨w.heap.size, 0, none⟩ 4 4 [.int .u8 (240 + r / 262144), .int .u8 (128 + r / 4096 % 64), .int .u8 (128 + r / 64 % 64), .int .u8 (128 + r % 64)] rfl rfl ?c1 ?c2 ?c3 ?c4 ?c5 ?_)
  case c1 =>
    intro j u hj
    match j, hj with
    | 0, hj => simp at hj; subst hj; simp [Addr.add]
    | 1, hj => simp at hj; subst hj; simp [Addr.add]
    | 2, hj => simp at hj; subst hj; simp [Addr.add]
    | 3, hj => simp at hj; subst hj; simp [Addr.add]
    | (j + 4), hj => simp at hj
  case c2 => intro u hu; simp at hu; rcases hu with rfl | rfl | rfl | rfl <;> rfl
  case c3 => unfold maxLen; omega
  case c4 => omega
  case c5 => simp; omega
  intro v' w2 hown' hgrow _
  go_wp2
  go_ret
  exact ⟨_, rfl, hown', _, hgrow⟩

set_option maxHeartbeats 4000000 in
set_option maxRecDepth 1000000 in
/-- A letter, whatever its size. -/
theorem Ap_wide (B : Nat) (v : Value) (n : Nat) (xs : List Value) (r : Nat) (hr : IsLetter r) (w : World) (hown : w.ownsRow B 5 1 v n xs) (hlen : n ≤ 211106232532992) (hBw : B ≤ w.heap.size) :
    Calls Tryd.prog 29 #[v, .int .i32 (r : Int)] w fun e w' => ∃ v', e = .returned v' ∧ w'.ownsRow B 5 1 v' (n + (Lib.runeCells (r : Int)).length) (xs ++ Lib.runeCells (r : Int)) ∧ ∃ o, (w.alloc o).grownBy w' v.ownBlock := by
  unfold IsLetter at hr
  by_cases c1 : r ≤ 127
  · rw [show Lib.runeCells (r : Int) = [.int .u8 (r : Int)] by simp [Lib.runeCells, Lib.encodeRuneZ_one (r := (r : Int)) (by omega) (by omega)]]
    exact Ap_one B v n xs r (by omega) (by omega) w hown hlen hBw
  · have main : Calls Tryd.prog 40 #[v, .int .i32 (r : Int)] w fun e w' => ∃ v', e = .returned v' ∧ w'.ownsRow B 5 1 v' (n + (Lib.runeCells (r : Int)).length) (xs ++ Lib.runeCells (r : Int)) ∧ ∃ o, (w.alloc o).grownBy w' v.ownBlock := by
      by_cases c2 : r ≤ 2047
      · rw [show Lib.runeCells (r : Int) = [.int .u8 (192 + (r : Int) / 64), .int .u8 (128 + (r : Int) % 64)] by simp [Lib.runeCells, Lib.encodeRuneZ_two (r := (r : Int)) (by omega) (by omega)]]
        exact Ap_two B v n xs r (by omega) (by omega) w hown hlen hBw
      · by_cases c3 : r ≤ 65535
        · rw [show Lib.runeCells (r : Int) = [.int .u8 (224 + (r : Int) / 4096), .int .u8 (128 + (r : Int) / 64 % 64), .int .u8 (128 + (r : Int) % 64)] by simp [Lib.runeCells, Lib.encodeRuneZ_three (r := (r : Int)) (by omega)]]
          by_cases c4 : r ≤ 55295
          · exact Ap_three_lo B v n xs r (by omega) (by omega) w hown hlen hBw
          · exact Ap_three_hi B v n xs r (by omega) (by omega) w hown hlen hBw
        · rw [show Lib.runeCells (r : Int) = [.int .u8 (240 + (r : Int) / 262144), .int .u8 (128 + (r : Int) / 4096 % 64), .int .u8 (128 + (r : Int) / 64 % 64), .int .u8 (128 + (r : Int) % 64)] by simp [Lib.runeCells, Lib.encodeRuneZ_four (r := (r : Int)) (by omega) (by omega)]]
          exact Ap_four B v n xs r (by omega) (by omega) w hown hlen hBw
    have M := Lib.hid main
    clear main
    go_enter Tryd.func29, Tryd.ntmps29
    go_wp2_with (go_at_call 40; refine (M.out).mono ?_)
    rintro e w1 ⟨v', rfl, h1, o, h2⟩
    go_wp2
    go_ret
    exact ⟨_, rfl, h1, o, h2⟩
end Go.Proofs.YtanncmaojnmldaaDoor.U
/- utf.Get: the text of bytes, or its error; for bytes of any size within the form's reach. -/
set_option linter.unusedVariables false
set_option linter.unusedSimpArgs false
namespace Go.Proofs.YtanncmaojnmldaaDoor.U
open Go.RowKit Go.Proofs Go.Lib Go.Proofs.YtanncmaojnmldaaDoorW.PrintWords

/-- How long what has been laid is: three bytes a unit; a high unit that waits has laid nothing. -/
def LayB : Option Nat → Nat → Nat → Prop
  | none, i, L => L ≤ 3 * i
  | some _, i, L => L + 3 ≤ 3 * i
theorem LayB.le {h : Option Nat} {i L : Nat} (b : LayB h i L) : L ≤ 3 * i := by
  cases h with
  | none => exact b
  | some v => simp only [LayB] at b; omega
theorem enc_len3 (n : Nat) (h : n < 65536) : (enc n).length ≤ 3 := by
  unfold enc
  repeat' split
  all_goals simp only [List.length_cons, List.length_nil]
  all_goals omega
theorem LayB.one {i u : Nat} {ns : List Nat} (b : LayB none i (ns.flatMap enc).length) (hu : u < 65536) : LayB none (i + 1) ((ns ++ [u]).flatMap enc).length := by
  have := enc_len3 u hu
  simp only [LayB, List.flatMap_append, List.flatMap_cons, List.flatMap_nil, List.length_append, List.append_nil] at b ⊢
  omega
theorem LayB.two {i v m : Nat} {ns : List Nat} (b : LayB (some v) i (ns.flatMap enc).length) : LayB none (i + 1) ((ns ++ [m]).flatMap enc).length := by
  have := (enc_len m).2
  simp only [LayB, List.flatMap_append, List.flatMap_cons, List.flatMap_nil, List.length_append, List.append_nil] at b ⊢
  omega
theorem LayB.high {i v : Nat} {L : Nat} (b : LayB none i L) : LayB (some v) (i + 1) L := by
  simp only [LayB] at b ⊢
  omega
def GetAtW (w : World) (xs : List Int) (R : Option (List Nat)) (i : Nat) (h : Option Nat) (hz : Int) (ns : List Nat) (v : Value) (wr : World) : Prop :=
  HighIs h hz ∧ wr.ownsRow w.heap.size 5 1 v (Lib.byteCells (ns.flatMap enc)).length (Lib.byteCells (ns.flatMap enc)) ∧ Below w.heap.size w wr ∧ (getRun h (pairs (xs.drop (2 * i)))).map (ns ++ ·) = R ∧ LayB h i (ns.flatMap enc).length

set_option maxHeartbeats 8000000 in
set_option maxRecDepth 1000000 in
theorem Get_wide (A : Option Addr) (c : Nat) (xs : List Int) (w : World) (hr : Rd w A c xs) (hs : xs.length ≤ 140737488351232) :
    Calls Tryd.prog 16 #[.slice A xs.length c] w (GetDone w xs) := by
  obtain ⟨hxc, hcc, hby, hcell⟩ := hr
  obtain ⟨n, hn⟩ : ∃ n, xs.length = n := ⟨_, rfl⟩
  have hn' := hn
  rw [hn] at hxc hs hcell ⊢
  have HB := Lib.hid hby
  have HC := Lib.hid hcell
  have HN := Lib.hid hn'
  clear hby hcell hn hn'
  go_enter Tryd.func16, Tryd.ntmps16
  go_wp2
  go_loopw [4, 5, 6] (fun v hi at' wr => ∃ (i : Nat) (h : Option Nat) (hz : Int) (ns : List Nat), at' = .int .i64 (2 * (i : Int)) ∧ hi = .int .i32 hz ∧ GetAtW w xs (getRun none (pairs xs)) i h hz ns v wr ∧ 2 * i ≤ n) (fun _ _ at' _ => n + 2 - (RowKit.intOf at').toNat)
  case atStart => 
    refine ⟨0, none, -1, [], rfl, rfl, ⟨rfl, own_nil _ _ _ _, Below.refl _ _, ?_, by simp [LayB]⟩, by omega⟩
    simp only [Nat.mul_zero, List.drop_zero, List.nil_append]
    exact Option.map_id'
  case round =>
    obtain ⟨i, h, hz, ns, rfl, rfl, hG, hi⟩ := hrel
    obtain ⟨hh, hown, hbw, hrun, hnl⟩ := hG
    by_cases h2 : 2 * i + 1 < n
    · obtain ⟨g, off, rfl, hgl, hc⟩ := HC.out (by omega)
      have hx := HB.out (xs.getD (2 * i) 0) (by rw [List.getD_eq_getElem?_getD, List.getElem?_eq_getElem (by have := HN.out; omega)]; exact List.getElem_mem _)
      have hy := HB.out (xs.getD (2 * i + 1) 0) (by rw [List.getD_eq_getElem?_getD, List.getElem?_eq_getElem (by have := HN.out; omega)]; exact List.getElem_mem _)
      have c0 : wr.cell? ⟨g, off + 2 * i, none⟩ = _ := (hbw.cell (p := ⟨g, off + 2 * i, none⟩) hgl).trans (hc (2 * i) (by omega))
      have c1 : wr.cell? ⟨g, off + 2 * i + 1, none⟩ = _ := (hbw.cell (p := ⟨g, off + 2 * i + 1, none⟩) hgl).trans (hc (2 * i + 1) (by omega))
      have hp := pairs_drop xs i (by have := HN.out; omega)
      obtain ⟨u, hu⟩ : ∃ u, (xs.getD (2 * i) 0 + 256 * xs.getD (2 * i + 1) 0).toNat = u := ⟨_, rfl⟩
      have hui : xs.getD (2 * i) 0 + 256 * xs.getD (2 * i + 1) 0 = (u : Int) := by omega
      have hul : u < 65536 := by omega
      have cE := ends_yes g off n c (2 * i) _ _ wr (by omega) hxc hcc hx hy c0 c1
      rw [hui] at cE
      rw [hp, hu] at hrun
      have CE := Lib.hid cE
      have HR := Lib.hid hrun
      have HO := Lib.hid hown
      have hd0 : decide (2 * (i : Int) < (n : Int)) = true := by simp; omega
      have hzz := hbw.size
      have hbl : (Lib.byteCells (ns.flatMap enc)).length ≤ 3 * i := by
        rw [Lib.byteCells_length]
        exact hnl.le
      have HL := Lib.hid hbl
      clear hc hx hy c0 c1 hp hu hui cE hrun hown HC hgl hbl
      by_cases l1 : 56320 ≤ u
      · by_cases l2 : u < 57344
        · have d1 : decide ((56320 : Int) ≤ (u : Int)) = true := by simp; omega
          have d2 : decide ((u : Int) < (57344 : Int)) = true := by simp; omega
          cases h with
          | none =>
            obtain rfl : hz = -1 := hh
            have HX := Lib.hid (bad_of HR.out (by simp only [getRun]; rw [if_pos ⟨l1, l2⟩]))
            go_wp2_with (go_at_call 28; refine (CE.out).mono ?_; rintro e w' ⟨rfl, rfl⟩)
            go_ret2
            exact done_bad HX.out hbw
          | some v =>
            obtain ⟨rfl, v1, v2⟩ := hh
            obtain ⟨m, hm⟩ : ∃ m, 65536 + (v - 55296) * 1024 + (u - 56320) = m := ⟨_, rfl⟩
            have hml : IsLetter m := by unfold IsLetter; omega
            have e1 : (65536 + ((v : Int) - 55296) * 1024 + ((u : Int) - 56320)) = (m : Int) := by omega
            have hrun := HR.out
            have hg1 : getRun (some v) (u :: pairs (xs.drop (2 * (i + 1)))) = (getRun none (pairs (xs.drop (2 * (i + 1))))).map fun l => m :: l := by
              simp only [getRun]
              rw [if_pos ⟨l1, l2⟩, hm]
            rw [hg1, Option.map_map] at hrun
            have HR2 := Lib.hid hrun
            have E1 := Lib.hid e1
            clear HR hm e1 hrun hg1
            go_wp2_with (first | (go_at_call 28; refine (CE.out).mono ?_; rintro e w' ⟨rfl, rfl⟩) | fail)
            rw [E1.out]
            refine (Ap_wide w.heap.size _ _ _ m hml wr HO.out (by have := HL.out; omega) hzz).mono ?_
            rintro e w2 ⟨v', rfl, hown', o, hg⟩
            have hon := get_on HO.out hbw hml hown' hg
            have HON := Lib.hid hon
            clear hon hown' hg
            go_wp2
            go_roundw
            case rel => exact ⟨i + 1, none, -1, ns ++ [m], by go_num, rfl, ⟨rfl, HON.out.1, HON.out.2, by have := HR2.out; simpa [Function.comp_def] using this, hnl.two⟩, by omega⟩
            case measure => simp [RowKit.intOf]; omega
        · have d1 : decide ((56320 : Int) ≤ (u : Int)) = true := by simp; omega
          have d2 : decide ((u : Int) < (57344 : Int)) = false := by simp; omega
          have d3 : decide ((55296 : Int) ≤ (u : Int)) = true := by simp; omega
          have d4 : decide ((u : Int) < (56320 : Int)) = false := by simp; omega
          cases h with
          | some v =>
            obtain ⟨rfl, v1, v2⟩ := hh
            have HX := Lib.hid (bad_of HR.out (by simp only [getRun]; rw [if_neg (by omega)]))
            go_wp2_with (go_at_call 28; refine (CE.out).mono ?_; rintro e w' ⟨rfl, rfl⟩)
            go_ret2
            exact done_bad HX.out hbw
          | none =>
            obtain rfl : hz = -1 := hh
            have hml : IsLetter u := by unfold IsLetter; omega
            have hrun := HR.out
            have hg1 : getRun none (u :: pairs (xs.drop (2 * (i + 1)))) = (getRun none (pairs (xs.drop (2 * (i + 1))))).map fun l => u :: l := by
              simp only [getRun]
              rw [if_neg (by omega), if_neg (by omega)]
            rw [hg1, Option.map_map] at hrun
            have HR2 := Lib.hid hrun
            clear HR hrun hg1
            go_wp2_with (first | (go_at_call 28; refine (CE.out).mono ?_; rintro e w' ⟨rfl, rfl⟩) | fail)
            refine (Ap_wide w.heap.size _ _ _ u hml wr HO.out (by have := HL.out; omega) hzz).mono ?_
            rintro e w2 ⟨v', rfl, hown', o, hg⟩
            have hon := get_on HO.out hbw hml hown' hg
            have HON := Lib.hid hon
            clear hon hown' hg
            go_wp2
            go_roundw
            case rel => exact ⟨i + 1, none, -1, ns ++ [u], by go_num, rfl, ⟨rfl, HON.out.1, HON.out.2, by have := HR2.out; simpa [Function.comp_def] using this, hnl.one (by omega)⟩, by omega⟩
            case measure => simp [RowKit.intOf]; omega
      · have d1 : decide ((56320 : Int) ≤ (u : Int)) = false := by simp; omega
        have d4 : decide ((u : Int) < (56320 : Int)) = true := by simp; omega
        cases h with
        | some v =>
          obtain ⟨rfl, v1, v2⟩ := hh
          have HX := Lib.hid (bad_of HR.out (by simp only [getRun]; rw [if_neg (by omega)]))
          go_wp2_with (go_at_call 28; refine (CE.out).mono ?_; rintro e w' ⟨rfl, rfl⟩)
          go_ret2
          exact done_bad HX.out hbw
        | none =>
          obtain rfl : hz = -1 := hh
          by_cases l3 : 55296 ≤ u
          · have d3 : decide ((55296 : Int) ≤ (u : Int)) = true := by simp; omega
            have hrun := HR.out
            have hg1 : getRun none (u :: pairs (xs.drop (2 * (i + 1)))) = getRun (some u) (pairs (xs.drop (2 * (i + 1)))) := by
              simp only [getRun]
              rw [if_neg (by omega), if_pos (by omega)]
            rw [hg1] at hrun
            have HR2 := Lib.hid hrun
            clear HR hrun hg1
            go_wp2_with (go_at_call 28; refine (CE.out).mono ?_; rintro e w' ⟨rfl, rfl⟩)
            go_roundw
            case rel => exact ⟨i + 1, some u, u, ns, by go_num, rfl, ⟨⟨rfl, l3, by omega⟩, HO.out, hbw, HR2.out, hnl.high⟩, by omega⟩
            case measure => simp [RowKit.intOf]; omega
          · have d3 : decide ((55296 : Int) ≤ (u : Int)) = false := by simp; omega
            have hml : IsLetter u := by unfold IsLetter; omega
            have hrun := HR.out
            have hg1 : getRun none (u :: pairs (xs.drop (2 * (i + 1)))) = (getRun none (pairs (xs.drop (2 * (i + 1))))).map fun l => u :: l := by
              simp only [getRun]
              rw [if_neg (by omega), if_neg (by omega)]
            rw [hg1, Option.map_map] at hrun
            have HR2 := Lib.hid hrun
            clear HR hrun hg1
            go_wp2_with (first | (go_at_call 28; refine (CE.out).mono ?_; rintro e w' ⟨rfl, rfl⟩) | fail)
            refine (Ap_wide w.heap.size _ _ _ u hml wr HO.out (by have := HL.out; omega) hzz).mono ?_
            rintro e w2 ⟨v', rfl, hown', o, hg⟩
            have hon := get_on HO.out hbw hml hown' hg
            have HON := Lib.hid hon
            clear hon hown' hg
            go_wp2
            go_roundw
            case rel => exact ⟨i + 1, none, -1, ns ++ [u], by go_num, rfl, ⟨rfl, HON.out.1, HON.out.2, by have := HR2.out; simpa [Function.comp_def] using this, hnl.one (by omega)⟩, by omega⟩
            case measure => simp [RowKit.intOf]; omega
    · by_cases h1 : 2 * i + 1 = n
      · -- the last byte alone
        have hd1 : decide (2 * (i : Int) < (n : Int)) = true := by simp; omega
        have HX := Lib.hid (letters_odd (xs := xs) (by have := HN.out; omega))
        clear hrun hown hh
        go_wp2_with (go_at_call 28; refine (ends_no A n c (2 * i) _ h1 (by omega)).mono ?_; rintro e w' ⟨rfl, rfl⟩)
        go_ret2
        exact done_bad HX.out hbw
      · have hd1 : decide (2 * (i : Int) < (n : Int)) = false := by simp; omega
        have hL : getLetters xs = getRun none (pairs xs) := letters_even (by have := HN.out; omega)
        rw [pairs_end xs i (by have := HN.out; omega)] at hrun
        cases h with
        | some v =>
          obtain ⟨rfl, v1, v2⟩ := hh
          have HX := Lib.hid (hL.trans (show getRun none (pairs xs) = none from hrun.symm))
          clear hrun hown hL
          go_wp2
          go_ret2
          exact done_bad HX.out hbw
        | none =>
          obtain rfl : hz = -1 := hh
          have HX := Lib.hid (hL.trans hrun.symm)
          clear hrun hL
          have hnum : Lib.byteCells (ns.flatMap enc) = nums .u8 ((ns.flatMap enc).map fun b => (b.toNat : Int)) := by unfold Lib.byteCells nums; rw [List.map_map]; rfl
          rw [hnum] at hown
          have hcv := own_string (P := Tryd.prog) Tryd.underlying22 Tryd.underlying5 Tryd.underlying9 hown
          clear hown hnum
          go_wp2
          go_ret2
          exact done_good (by have := HX.out; simpa [getRun] using this) hbw
end Go.Proofs.YtanncmaojnmldaaDoor.U
/- The document's text of bytes, the row up to 1.5 * 2^47 bytes. -/
set_option linter.unusedVariables false
set_option linter.unusedSimpArgs false
namespace Go.Proofs.YtanncmaojnmldaaDoor.U
open Go.RowKit Go.Proofs.YtanncmaojnmldaaDoorW.PrintWords Go.Proofs.YtanncmaojnmldaaDoor.PR Go.Lib

theorem encZ_len3 (n : Nat) (h : n < 65536) : (encZ n).length ≤ 3 := by unfold encZ; rw [List.length_map]; exact enc_len3 n h
theorem get_l0w (xs : List Int) (hb : ∀ x ∈ xs, 0 ≤ x ∧ x ≤ 255) (he : xs.length % 2 = 0) (hn : xs.length ≤ 140737488351232) : ∀ (d k i : Nat) (acc : List Int), xs.length - 2 * i ≤ d → 2 * i ≤ xs.length → acc.length ≤ 3 * i → 2 * d + 4 ≤ k →
    RGetW.l0 k xs acc ((2 * i : Nat) : Int) = gotZ acc (getRun none (pairs (xs.drop (2 * i)))) := by
  intro d
  induction d using Nat.strongRecOn with
  | _ d ih =>
    intro k i acc hd hi ha hk
    by_cases hlt : 2 * i < xs.length
    · obtain ⟨k, rfl⟩ : ∃ m, k = m + 2 := ⟨k - 2, by omega⟩
      obtain ⟨x, hx⟩ : ∃ x, xs.getD (2 * i) 0 = x := ⟨_, rfl⟩
      obtain ⟨y, hy⟩ : ∃ y, xs.getD (2 * i + 1) 0 = y := ⟨_, rfl⟩
      have hxb := hb (xs.getD (2 * i) 0) (by rw [List.getD_eq_getElem?_getD, List.getElem?_eq_getElem (by omega)]; exact List.getElem_mem _)
      have hyb := hb (xs.getD (2 * i + 1) 0) (by rw [List.getD_eq_getElem?_getD, List.getElem?_eq_getElem (by omega)]; exact List.getElem_mem _)
      have hp := pairs_drop xs i (by omega)
      rw [hx] at hxb hp
      rw [hy] at hyb hp
      obtain ⟨u, hu⟩ : ∃ u, (x + 256 * y).toNat = u := ⟨_, rfl⟩
      rw [hu] at hp
      have r0 : rd xs ((2 * i : Nat) : Int) = x := by unfold rd; rw [Int.toNat_natCast]; exact hx
      have r1 : rd xs (((2 * i : Nat) : Int) + 1) = y := by unfold rd; rw [show (((2 * i : Nat) : Int) + 1) = ((2 * i + 1 : Nat) : Int) from by omega, Int.toNat_natCast]; exact hy
      have hun : wrap64 ((wrap64 x) + (wrap64 (256 * (wrap64 y)))) = (u : Int) := by
        rw [w64 (x := x) (by omega) (by omega), w64 (x := y) (by omega) (by omega), w64 (x := 256 * y) (by omega) (by omega), w64 (by omega) (by omega)]
        omega
      have hul : u < 65536 := by omega
      rw [hp]
      show RGetW.l0 ((k + 1) + 1) _ _ _ = _
      rw [RGetW.l0, w64 (x := ((2 * i : Nat) : Int) + 1) (by omega) (by omega), if_pos (by omega), if_pos (by omega), if_pos (by omega), if_pos (by omega), r0, r1, hun]
      by_cases c1 : 55296 ≤ u ∧ u < 56320
      · rw [if_pos (by omega), decide_eq_true (by omega), RGetW.j1, if_pos rfl, w64 (x := ((2 * i : Nat) : Int) + 3) (by omega) (by omega)]
        have hg : getRun none (u :: pairs (xs.drop (2 * (i + 1)))) = getRun (some u) (pairs (xs.drop (2 * (i + 1)))) := by
          simp only [getRun]
          rw [if_neg (by omega), if_pos c1]
        rw [hg]
        by_cases c2 : 2 * i + 3 < xs.length
        · obtain ⟨x', hx'⟩ : ∃ x', xs.getD (2 * (i + 1)) 0 = x' := ⟨_, rfl⟩
          obtain ⟨y', hy'⟩ : ∃ y', xs.getD (2 * (i + 1) + 1) 0 = y' := ⟨_, rfl⟩
          have hxb' := hb (xs.getD (2 * (i + 1)) 0) (by rw [List.getD_eq_getElem?_getD, List.getElem?_eq_getElem (by omega)]; exact List.getElem_mem _)
          have hyb' := hb (xs.getD (2 * (i + 1) + 1) 0) (by rw [List.getD_eq_getElem?_getD, List.getElem?_eq_getElem (by omega)]; exact List.getElem_mem _)
          have hp' := pairs_drop xs (i + 1) (by omega)
          rw [hx'] at hxb' hp'
          rw [hy'] at hyb' hp'
          obtain ⟨v, hv⟩ : ∃ v, (x' + 256 * y').toNat = v := ⟨_, rfl⟩
          rw [hv] at hp'
          have r2 : rd xs (((2 * i : Nat) : Int) + 2) = x' := by unfold rd; rw [show (((2 * i : Nat) : Int) + 2) = ((2 * (i + 1) : Nat) : Int) from by omega, Int.toNat_natCast]; exact hx'
          have r3 : rd xs (((2 * i : Nat) : Int) + 3) = y' := by unfold rd; rw [show (((2 * i : Nat) : Int) + 3) = ((2 * (i + 1) + 1 : Nat) : Int) from by omega, Int.toNat_natCast]; exact hy'
          have hvn : wrap64 ((wrap64 x') + (wrap64 (256 * (wrap64 y')))) = (v : Int) := by
            rw [w64 (x := x') (by omega) (by omega), w64 (x := y') (by omega) (by omega), w64 (x := 256 * y') (by omega) (by omega), w64 (by omega) (by omega)]
            omega
          rw [hp', if_neg (by omega), if_pos (by omega), if_pos (by omega), r3]
          by_cases c3 : 56320 ≤ v ∧ v < 57344
          · have hg2 : getRun (some u) (v :: pairs (xs.drop (2 * (i + 1 + 1)))) = (getRun none (pairs (xs.drop (2 * (i + 1 + 1))))).map fun l => (65536 + (u - 55296) * 1024 + (v - 56320)) :: l := by
              simp only [getRun]
              rw [if_pos c3]
            have hb3 : wrap64 ((wrap64 ((wrap64 (65536 + (wrap64 (1024 * (wrap64 ((u : Int) - 55296)))))) + (v : Int))) - 56320) = ((65536 + (u - 55296) * 1024 + (v - 56320) : Nat) : Int) := by
              rw [w64 (x := (u : Int) - 55296) (by omega) (by omega), w64 (x := 1024 * ((u : Int) - 55296)) (by omega) (by omega), w64 (x := 65536 + 1024 * ((u : Int) - 55296)) (by omega) (by omega), w64 (x := 65536 + 1024 * ((u : Int) - 55296) + v) (by omega) (by omega), w64 (by omega) (by omega)]
              omega
            have hlen := encZ_len (65536 + (u - 55296) * 1024 + (v - 56320))
            rw [if_neg (by omega), if_neg (by omega), w64 (x := ((2 * i : Nat) : Int) + 2) (by omega) (by omega), if_pos (by omega), if_pos (by omega), r2, hvn, hb3, bytes_eq _ (by omega), Option.bind_some, if_pos (by omega), w64 (by omega) (by omega), hg2, ← gotZ_map,
              show (((2 * i : Nat) : Int) + 2 + 2) = ((2 * (i + 1 + 1) : Nat) : Int) from by omega]
            exact ih (d - 4) (by omega) k (i + 1 + 1) _ (by omega) (by omega) (by rw [List.length_append]; omega) (by omega)
          · have hg2 : getRun (some u) (v :: pairs (xs.drop (2 * (i + 1 + 1)))) = none := by
              simp only [getRun]
              rw [if_neg c3]
            rw [hg2]
            by_cases c4 : y' < 220
            · rw [if_pos c4]; rfl
            · rw [if_neg c4, if_pos (by omega)]; rfl
        · rw [if_pos (by omega), pairs_end xs (i + 1) (by omega)]
          rfl
      · have hd2 : decide ((u : Int) < 56320) = true → ¬ 55296 ≤ u := by
          intro h
          have := of_decide_eq_true h
          omega
        have hj : (if (u : Int) ≥ 55296 then RGetW.j1 (k + 1) xs acc ((2 * i : Nat) : Int) (u : Int) (decide ((u : Int) < 56320)) else RGetW.j1 (k + 1) xs acc ((2 * i : Nat) : Int) (u : Int) false) = RGetW.j1 (k + 1) xs acc ((2 * i : Nat) : Int) (u : Int) false := by
          by_cases c : (u : Int) ≥ 55296
          · rw [if_pos c, decide_eq_false (by omega)]
          · rw [if_neg c]
        rw [hj, RGetW.j1, if_neg (by decide), letter_eq, Option.bind_some]
        by_cases c2 : 56320 ≤ u ∧ u < 57344
        · have hg : getRun none (u :: pairs (xs.drop (2 * (i + 1)))) = none := by
            simp only [getRun]
            rw [if_pos c2]
          rw [hg, if_neg (by simp; omega)]
          rfl
        · have hg : getRun none (u :: pairs (xs.drop (2 * (i + 1)))) = (getRun none (pairs (xs.drop (2 * (i + 1))))).map fun l => u :: l := by
            simp only [getRun]
            rw [if_neg c2, if_neg c1]
          have hlen := encZ_len3 u (by omega)
          rw [hg, if_pos (by simp; omega), bytes_eq u (by omega), Option.bind_some, if_pos (by omega), w64 (by omega) (by omega), ← gotZ_map, show (((2 * i : Nat) : Int) + 2) = ((2 * (i + 1) : Nat) : Int) from by omega]
          exact ih (d - 2) (by omega) (k) (i + 1) _ (by omega) (by omega) (by rw [List.length_append]; omega) (by omega)
    · obtain ⟨k, rfl⟩ : ∃ m, k = m + 1 := ⟨k - 1, by omega⟩
      rw [RGetW.l0, if_neg (by omega), pairs_end xs i (by omega)]
      simp [gotZ, getRun]
theorem RGetW_eq (xs : List Int) (hb : ∀ x ∈ xs, 0 ≤ x ∧ x ≤ 255) (hn : xs.length ≤ 140737488351232) (k : Nat) (hk : 2 * xs.length + 4 ≤ k) : RGetW.f k xs = some (⟨(getText xs).toArray⟩, getErr xs) := by
  unfold RGetW.f getText getErr
  by_cases he : xs.length % 2 = 0
  · rw [if_pos (by omega), letters_even he]
    have := get_l0w xs hb he hn xs.length k 0 [] (by omega) (by omega) (by simp) hk
    rw [Nat.mul_zero, List.drop_zero] at this
    rw [show (0 : Int) = ((0 : Nat) : Int) from rfl, this]
    cases getRun none (pairs xs) with
    | none => rfl
    | some ns =>
      simp only [gotZ, List.nil_append]
      congr 2
      unfold strOfNums encZ
      rw [← List.map_flatMap, List.map_map]
      congr 2
      rw [List.map_congr_left (g := fun b => b) (fun b _ => by simp), List.map_id']
  · rw [if_neg (by omega), letters_odd he]
end Go.Proofs.YtanncmaojnmldaaDoor.U
/- The law UtfGets: the text of bytes is the document's, or its error; for bytes of any size within the form's reach. -/
set_option linter.unusedVariables false
set_option linter.unusedSimpArgs false
namespace Go.Proofs.YtanncmaojnmldaaDoor.U
open Go.RowKit Go.Proofs Go.Lib Go.Proofs.YtanncmaojnmldaaDoorW.PrintWords Go.Proofs.YtanncmaojnmldaaDoor.PR

set_option maxHeartbeats 4000000 in
set_option maxRecDepth 1000000 in
theorem UtfGets_walkw (A : Option Addr) (c : Nat) (xs : List Int) (w : World) (hR : Rd w A c xs) (hB : Bv w (.slice A xs.length c) xs) (hs : xs.length ≤ 140737488351232) (hT : Tabs w) :
    Calls Tryd.prog 4 #[.slice A xs.length c] w fun e w' => e = .returned (.bool true) ∧ Below w.heap.size w w' := by
  obtain ⟨A', c', he, hl, hC⟩ := hB
  injection he with e1 _ e2
  subst e1 e2
  have c1 := Get_wide A c xs w hR hs
  have c2 := fun W hC => RGetW.calls _ A c xs _ _ W hC hl (RGetW_eq xs hR.2.2.1 (by omega) _ (Nat.le_refl _))
  unfold GetDone at c1
  generalize getErr xs = E at *
  generalize (⟨(getText xs).toArray⟩ : ByteArray) = S at *
  have C1 := Lib.hid c1
  have C2 := Lib.hid c2
  have HT := Lib.hid hT
  have HC := Lib.hid hC
  have dE : ((E : Int) == E) = true := by simp
  clear c1 c2 hT hs hR hC hl
  generalize xs.length = n at *
  go_enter Tryd.func4, Tryd.ntmps4
  go_wp2_with fail
  refine (C1.out).mono ?_
  rintro e w1 ⟨rfl, hb1⟩
  have HC1 := Lib.hid (Kd.C_below HC.out hb1)
  have B1 := Lib.hid hb1
  clear hb1
  go_wp2_with fail
  refine (C2.out _ HC1.out).mono ?_
  rintro e w2 ⟨rfl, hb2⟩
  have B2 := Lib.hid (B1.out.trans (Below.mono (by first | exact hb2 | exact hb2.below) B1.out.size))
  clear hb2 B1
  go_wp2_with fail
  refine (works_calls _ (HT.out.below B2.out)).mono ?_
  rintro e w6 ⟨rfl, hb6⟩
  have B6 := Lib.hid (B2.out.trans (hb6.mono B2.out.size))
  clear hb6 B2
  go_wp2
  go_ret
  exact ⟨rfl, B6.out⟩
end Go.Proofs.YtanncmaojnmldaaDoor.U
/- What the form's own reach says of an argument that is a row of bytes: how long it is. -/
set_option linter.unusedVariables false
set_option linter.unusedSimpArgs false
namespace Go.Proofs.YtanncmaojnmldaaDoor.U
open Go.ChangeShapes Go.WideShapes Go.ChangeAt Go.RowKit Go.Lib Go.Proofs.YtanncmaojnmldaaDoorW.PrintWords

section
variable {H : Type} {P : Program}
/-- Each weight is at most B. -/
def WB (P : Program) (t : TypeId) (d : DataW H) (B : Nat) : Prop := ∀ n ∈ d.weights P t, n ≤ B
theorem WB.of_each {ts : List TypeId} {ds : List (DataW H)} (h : (DataW.weightsEach P ts ds).all (· ≤ reachBytes) = true) {j : Nat} {t : TypeId} {d : DataW H} (ht : ts[j]? = some t) (hd : ds[j]? = some d) : WB P t d 140737488351232 := fun n hn => by
  have := List.all_eq_true.1 h n (DataW.weights_mem_each ht hd n hn)
  exact of_decide_eq_true this
theorem weights_all {e : TypeId} {n : Nat} : ∀ {l : List (DataW H)} {d : DataW H}, d ∈ l → n ∈ d.weights P e → n ∈ DataW.weightsAll P e l
  | x :: r, d, hd, hn => by
    simp only [DataW.weightsAll, List.mem_append]
    rcases List.mem_cons.1 hd with rfl | hd
    · exact .inl hn
    · exact .inr (weights_all hd hn)
theorem WB.len {t e : TypeId} {elems spare : List (DataW H)} {B : Nat} (h : WB P t (.slice elems spare) B) (hu : P.underlying t = some (.slice e)) : (elems.length + spare.length) * P.bytesOf e ≤ B :=
  h _ (by simp [DataW.weights, hu])
theorem WB.elem {t e : TypeId} {elems spare : List (DataW H)} {B : Nat} (h : WB P t (.slice elems spare) B) (hu : P.underlying t = some (.slice e)) {d : DataW H} (hd : d ∈ elems) : WB P e d B := fun n hn =>
  h n (by simp only [DataW.weights, hu, List.mem_cons, List.mem_append]; exact .inr (.inl (weights_all hd hn)))
theorem WB.part {t : TypeId} {fs : Array Field} {parts : List (DataW H)} {B : Nat} (h : WB P t (.agg parts) B) (hu : P.underlying t = some (.struct fs)) {j : Nat} {f : Field} {d : DataW H} (hf : fs[j]? = some f) (hd : parts[j]? = some d) : WB P f.type d B := fun n hn =>
  h n (by
    simp only [DataW.weights, hu]
    exact DataW.weights_mem_each (j := j) (t := f.type) (by rw [List.getElem?_map, Array.getElem?_toList, hf]; rfl) hd n hn)
end
theorem b8 : 1 ≤ Tryd.prog.bytesOf 5 := of_decide_eq_true (by kernel_rfl)
/-- How long what reads is. -/
theorem len_raw {H : Type} {enc : TypeId × Value → H} {W : World} {base fuel : Nat} {spare : Nat → Bool} {held : Bool} {t e : TypeId} {A : Option Addr} {n c B : Nat} {y : DataW H × List MemPlace} (h : DataW.trod enc Tryd.prog W base spare held fuel t [.slice A n c] = some y) (hu : Tryd.prog.underlying t = some (.slice e)) (hb : 1 ≤ Tryd.prog.bytesOf e) (hw : WB Tryd.prog t y.1 B) : n ≤ B := by
  rcases DataW.trod_slice hu h with ⟨hcs, hx⟩ | ⟨x, len, cap, elems, rest, m, _, hcs, hx, _, hl, hm, hlen, _⟩
  · injection hcs with hcs
    injection hcs with _ h2 _
    omega
  · injection hcs with hcs
    injection hcs with _ h2 _
    subst hx
    have h3 := hw.len hu
    rw [List.length_map, List.length_map, hlen] at h3
    have h4 := Nat.le_mul_of_pos_right (len + rest.length) hb
    omega
theorem len_of {H : Type} {enc : TypeId × Value → H} {W : World} {base : Nat} {spare : Nat → Bool} {held : Bool} {t e : TypeId} {A : Option Addr} {n c B : Nat} {d : DataW H} {ps : List MemPlace} (h : DataW.Trod enc Tryd.prog W base spare held t (.slice A n c) d ps) (hu : Tryd.prog.underlying t = some (.slice e)) (hb : 1 ≤ Tryd.prog.bytesOf e) (hw : WB Tryd.prog t d B) : n ≤ B := by
  obtain ⟨fuel, hf⟩ := h
  exact len_raw (y := (d, ps)) hf hu hb hw
end Go.Proofs.YtanncmaojnmldaaDoor.U
