/- glob.Fits, its walk. -/
import Derived.Test.YtfglhnnbfmpfeaaDoorGfits
import Derived.WalkMore
set_option linter.unusedVariables false
set_option linter.unusedSimpArgs false
namespace Go.Proofs.YtfglhnnbfmpfeaaDoor.U
open Go.RowKit Go.Proofs Go.Lib Go.Proofs.YtfglhnnbfmpfeaaDoorW.PrintWords

def fitB (a b : List UInt8) : Bool := if askE a b = 0 then mt (fnums a) (fnums b) else false

theorem FM_start (w : World) (vP vT : Value) (P T : List Int) (h1 : Row32 w w.heap.size vP P) (h2 : Row32 w w.heap.size vT T) :
    FM (((w.alloc (.cells #[vP] 37)).alloc (.cells #[vT] 37)).alloc (.cells #[Value.int .i64 0] 3)) w.heap.size vP vT P T 0 := by
  have hk : ∀ k, k < w.heap.size → (((w.alloc (.cells #[vP] 37)).alloc (.cells #[vT] 37)).alloc (.cells #[Value.int .i64 0] 3)).heap[k]? = w.heap[k]? := fun k hk => by
    rw [Lib.alloc_old _ _ k (by simp; omega), Lib.alloc_old _ _ k (by simp; omega), Lib.alloc_old _ _ k hk]
  refine ⟨?_, ?_, ?_, h1.kept hk, h2.kept hk⟩
  · rw [Lib.alloc_old _ _ _ (by simp; omega), Lib.alloc_old _ _ _ (by simp)]
    exact heap_alloc_new w _
  · rw [Lib.alloc_old _ _ _ (by simp)]
    have := heap_alloc_new (w.alloc (.cells #[vP] 37)) (.cells #[vT] 37)
    simpa using this
  · have := heap_alloc_new ((w.alloc (.cells #[vP] 37)).alloc (.cells #[vT] 37)) (.cells #[Value.int .i64 0] 3)
    simpa using this
theorem FM.set {w : World} {N : Nat} {vP vT : Value} {P T : List Int} {i : Nat} (h : FM w N vP vT P T i) (j : Nat) : FM (w.setCell ⟨N + 1 + 1, 0, none⟩ (.int .i64 (j : Int))) N vP vT P T j := by
  obtain ⟨h1, h2, h3, h4, h5⟩ := h
  have hk : ∀ k, k ≠ N + 1 + 1 → (w.setCell ⟨N + 1 + 1, 0, none⟩ (.int .i64 (j : Int))).heap[k]? = w.heap[k]? := fun k hk => Below.heap_setCell _ _ _ _ hk
  refine ⟨(hk _ (by omega)).trans h1, (hk _ (by omega)).trans h2, ?_, h4.kept fun k h => hk k (by omega), h5.kept fun k h => hk k (by omega)⟩
  simp only [World.setCell, Array.getElem?_modify, if_true, h3, Option.map_some]
  rfl
theorem FM.cell {w : World} {N : Nat} {vP vT : Value} {P T : List Int} {i : Nat} (h : FM w N vP vT P T i) : w.cell? ⟨N, 0, none⟩ = some vP ∧ w.cell? ⟨N + 1, 0, none⟩ = some vT ∧ w.cell? ⟨N + 1 + 1, 0, none⟩ = some (.int .i64 (i : Int)) ∧ w.frozen? ⟨N + 1 + 1, 0, none⟩ = false := by
  obtain ⟨h1, h2, h3, _, _⟩ := h
  refine ⟨by rw [Lib.cell_of_heap h1]; rfl, by rw [Lib.cell_of_heap h2]; rfl, by rw [Lib.cell_of_heap h3]; rfl, Lib.frozen_of_heap h3 0⟩
/-- At which letter of the pattern one is. -/
def iOf (N : Nat) (w : World) : Nat := match w.cell? ⟨N + 1 + 1, 0, none⟩ with
  | some (.int _ z) => z.toNat
  | _ => 0
theorem FM.iOf {w : World} {N : Nat} {vP vT : Value} {P T : List Int} {i : Nat} (h : FM w N vP vT P T i) : U.iOf N w = i := by
  unfold U.iOf
  rw [h.cell.2.2.1]
  simp

def starZ : Option Nat → Int
  | none => -1
  | some s => (s : Int)
theorem seen_slices {w : World} {N : Nat} {A1 A2 : Option Addr} {n1 c1 n2 c2 : Nat} {P T : List Int} {i : Nat} (h : FM w N (.slice A1 n1 c1) (.slice A2 n2 c2) P T i) : n1 = P.length ∧ n2 = T.length := by
  obtain ⟨_, _, _, ⟨A, c, e, _⟩, ⟨A', c', e', _⟩⟩ := h
  injection e with _ e _
  injection e' with _ e' _
  exact ⟨e, e'⟩

set_option maxHeartbeats 8000000 in
set_option maxRecDepth 1000000 in
theorem Fits_calls (a b : ByteArray) (w : World) (ha : a.size ≤ 17592186044416) (hb : b.size ≤ 17592186044416) (hT : Tabs w) :
    Calls Tryd.prog 10 #[.string a, .string b] w fun e w' => e = .returned (.tuple #[.bool (fitB a.data.toList b.data.toList), .int .i64 (askE a.data.toList b.data.toList)]) ∧ Below w.heap.size w w' := by
  have cA := asked_calls a b w ha hb hT
  unfold AskDone at cA
  have hE : askE a.data.toList b.data.toList = 0 → (fnums a.data.toList).length ≤ 64 ∧ (fnums b.data.toList).length ≤ 256 := by
    unfold askE
    split
    · split
      · intro h; cases h
      · omega
    · intro h; cases h
  unfold fitB
  generalize askE a.data.toList b.data.toList = E at *
  generalize fnums a.data.toList = P at *
  generalize fnums b.data.toList = T at *
  obtain ⟨r, hr⟩ : ∃ r, (if E = 0 then mt P T else false) = r := ⟨_, rfl⟩
  rw [hr]
  have CA := Lib.hid cA
  clear cA hT
  go_enter Tryd.func10, Tryd.ntmps10
  go_wp2_with fail
  go_step3
  go_wp2_with fail
  refine (CA.out).mono ?_
  rintro e w1 ⟨vP, vT, rfl, hb1, ⟨⟨A1, n1, c1, rfl⟩, A2, n2, c2, rfl⟩, hR⟩
  have B1 := Lib.hid hb1
  clear hb1 CA
  by_cases h0 : E = 0
  · subst h0
    obtain ⟨hP, hT⟩ := hE rfl
    obtain ⟨r1, r2⟩ := hR rfl
    have R1 := Lib.hid (Row32.of_R r1)
    have R2 := Lib.hid (Row32.of_R r2)
    clear r1 r2 hR hE
    rw [if_pos rfl] at hr
    have HR := Lib.hid hr
    have HP := Lib.hid hP
    have HT := Lib.hid hT
    clear hr hP hT
    go_wp2
    have hF : FM (((w1.alloc (.cells #[Value.slice A1 n1 c1] 37)).alloc (.cells #[Value.slice A2 n2 c2] 37)).alloc (.cells #[Value.int .i64 0] 3)) w1.heap.size (.slice A1 n1 c1) (.slice A2 n2 c2) P T 0 := FM_start w1 _ _ P T R1.out R2.out
    have hB : Below w.heap.size w (((w1.alloc (.cells #[Value.slice A1 n1 c1] 37)).alloc (.cells #[Value.slice A2 n2 c2] 37)).alloc (.cells #[Value.int .i64 0] 3)) := ((B1.out.alloc B1.out.size _).alloc (by have := B1.out.size; simp; omega) _).alloc (by have := B1.out.size; simp; omega) _
    have HF := Lib.hid hF
    have HB := Lib.hid hB
    have HN : Hid (w.heap.size ≤ w1.heap.size) := Lib.hid B1.out.size
    clear hF hB R1 R2 B1
    generalize w1.heap.size = N at *
    go_step3
    go_wp2
    go_loopw [10, 11, 13] (fun star mark at' wr => ∃ (i a' m : Nat) (st : Option Nat), star = .int .i64 (starZ st) ∧ mark = .int .i64 (m : Int) ∧ at' = .int .i64 (a' : Int) ∧ (st = none → m = 0) ∧ FM wr N (.slice A1 n1 c1) (.slice A2 n2 c2) P T i ∧ Gi P T i a' st m ∧ Below w.heap.size w wr)
      (fun _ mark at' wr => (T.length - (RowKit.intOf mark).toNat) * (P.length + T.length + 1) + (P.length - iOf N wr) + (T.length - (RowKit.intOf at').toNat))
    case atStart => exact ⟨0, 0, 0, none, rfl, rfl, rfl, fun _ => rfl, HF.out, G0 P T, HB.out⟩
    case round =>
      clear HF HB
      obtain ⟨i, at', m, st, rfl, rfl, rfl, hm0, hF, hG, hB⟩ := hrel
      have hs := seen_slices hF
      obtain ⟨e1, e2⟩ := hs
      subst e1 e2
      obtain ⟨q1, q2, q3, q4⟩ := hF.cell
      have hi := hG.1
      have ha := hG.2.1
      have hio := hF.iOf
      have zi : i ≤ 64 := by have := HP.out; omega
      have za : at' ≤ 256 := by have := HT.out; omega
      by_cases hat : at' < T.length
      · have d0 : decide ((at' : Int) < (T.length : Int)) = true := by simp; omega
        have cO := one_calls wr N _ _ P T i at' hF hi hat HP.out HT.out
        have CO := Lib.hid cO
        have HF := Lib.hid hF
        have HB := Lib.hid hB
        have HG := Lib.hid hG
        have HM := Lib.hid hm0
        clear cO hF hB hG hm0
        go_wp2_with fail
        refine (CO.out).mono ?_
        rintro e w2' ⟨rfl, q, rfl⟩
        obtain ⟨w2, hw2⟩ : ∃ w2, wr.drewN q = w2 := ⟨_, rfl⟩
        have hF2 : FM w2 N (.slice A1 P.length c1) (.slice A2 T.length c2) P T i := by rw [← hw2]; exact HF.out
        have hB2 : Below w.heap.size w w2 := by rw [← hw2]; exact pw_below_drewN HB.out q
        rw [hw2]
        clear hw2 CO HB
        obtain ⟨p1, p2, p3, p4⟩ := hF2.cell
        clear q1 q2 q3 q4
        have hS : FM (w2.setCell ⟨N + 1 + 1, 0, none⟩ (.int .i64 ((i : Int) + 1))) N (.slice A1 P.length c1) (.slice A2 T.length c2) P T (i + 1) := by
          have := hF2.set (i + 1)
          rwa [Int.natCast_succ] at this
        have HB2 := Lib.hid hB2
        have hNN : w.heap.size ≤ N + 1 + 1 := by have := HN.out; omega
        have HSB := Lib.hid (hB2.setCell (p := ⟨N + 1 + 1, 0, none⟩) hNN (.int .i64 ((i : Int) + 1)))
        have HS := Lib.hid hS
        have HF2 := Lib.hid hF2
        have HI := Lib.hid hS.iOf
        clear hB2 hF2 hS
        by_cases hone : oneB P T i at' = true
        · rw [hone]
          have hk : i < P.length ∧ P.getD i 0 ≠ 42 ∧ okc (P.getD i 0) (T.getD at' 0) = true := by
            unfold oneB at hone
            simp only [Bool.and_eq_true, decide_eq_true_eq] at hone
            exact hone
          have HG1 := Lib.hid (G1 HG.out hk.1 hat hk.2.1 hk.2.2)
          have hik := hk.1
          clear hone hk
          go_wp2
          go_roundw
          case rel => exact ⟨i + 1, at' + 1, m, st, rfl, rfl, by rw [Int.natCast_succ], HM.out, HS.out, HG1.out, HSB.out⟩
          case measure =>
            rw [HI.out, hio]
            simp only [RowKit.intOf, Int.toNat_natCast]
            have e : ((at' : Int) + 1).toNat = at' + 1 := by omega
            rw [e]
            omega
        · rw [Bool.not_eq_true] at hone
          rw [hone]
          by_cases h42 : i < P.length ∧ P.getD i 0 = 42
          · obtain ⟨hik, h42⟩ := h42
            obtain ⟨_, _, _, ⟨A, c, eA, _, hr⟩, _⟩ := HF2.out
            injection eA with eA _ eC
            subst eA eC
            obtain ⟨g, rfl, _, hc⟩ := hr (by omega)
            have x1 := hc i hik
            rw [h42] at x1
            have d3 : decide ((i : Int) < (P.length : Int)) = true := by simp; omega
            have HG2 := Lib.hid (G2 HG.out hik h42)
            have hma : m ≤ at' := by
              cases st with
              | none => rw [HM.out rfl]; omega
              | some s => exact HG.out.2.2.2.1
            clear hc hr hone h42
            go_wp2
            go_roundw
            case rel => exact ⟨i + 1, at', at', some i, rfl, rfl, rfl, fun h => (by cases h), HS.out, HG2.out, HSB.out⟩
            case measure =>
              rw [HI.out, hio]
              simp only [RowKit.intOf, Int.toNat_natCast]
              have := Nat.mul_le_mul_right (P.length + T.length + 1) (show T.length - at' ≤ T.length - m by omega)
              omega
          · have hno : i < P.length → P.getD i 0 ≠ 42 ∧ okc (P.getD i 0) (T.getD at' 0) = false := by
              intro h
              have h1 : P.getD i 0 ≠ 42 := fun e => h42 ⟨h, e⟩
              refine ⟨h1, ?_⟩
              unfold oneB at hone
              rw [decide_eq_true h, decide_eq_true h1, Bool.true_and, Bool.true_and] at hone
              exact hone
            have HNO := Lib.hid hno
            cases st with
            | none =>
              have h4 := G4 HG.out hat hno
              rw [HR.out] at h4
              subst h4
              have hzz : starZ none = -1 := rfl
              rw [hzz]
              clear hzz
              by_cases hik : i < P.length
              · obtain ⟨_, _, _, ⟨A, c, eA, _, hr⟩, _⟩ := HF2.out
                injection eA with eA _ eC
                subst eA eC
                obtain ⟨g, rfl, _, hc⟩ := hr (by omega)
                have x1 := hc i hik
                have d3 : decide ((i : Int) < (P.length : Int)) = true := by simp; omega
                have d4 : (P.getD i 0 == 42) = false := by simp; exact (hno hik).1
                generalize P.getD i 0 = pp at *
                clear hc hr hone h42 hno
                go_wp2
                try rw [Exit.noGoto_ret]
                go_ret2
                exact ⟨rfl, HB2.out⟩
              · have d3 : decide ((i : Int) < (P.length : Int)) = false := by simp; omega
                clear hone h42 hno
                go_wp2
                try rw [Exit.noGoto_ret]
                go_ret2
                exact ⟨rfl, HB2.out⟩
            | some s =>
              have hs1 : s < i := HG.out.2.2.1
              have hma : m ≤ at' := HG.out.2.2.2.1
              have HG3 := Lib.hid (G3 HG.out hat hno)
              have hzz : starZ (some s) = (s : Int) := rfl
              rw [hzz]
              have d5 : decide ((s : Int) < 0) = false := by simp
              have hS3 : FM (w2.setCell ⟨N + 1 + 1, 0, none⟩ (.int .i64 ((s : Int) + 1))) N (.slice A1 P.length c1) (.slice A2 T.length c2) P T (s + 1) := by
                have := HF2.out.set (s + 1)
                rwa [Int.natCast_succ] at this
              have HSB3 := Lib.hid (HB2.out.setCell (p := ⟨N + 1 + 1, 0, none⟩) hNN (.int .i64 ((s : Int) + 1)))
              have HS3 := Lib.hid hS3
              have HI3 := Lib.hid hS3.iOf
              clear hS3
              have hlt : (T.length - (m + 1)) * (P.length + T.length + 1) + (P.length + T.length + 1) ≤ (T.length - m) * (P.length + T.length + 1) := by
                rw [show T.length - m = T.length - (m + 1) + 1 by omega, Nat.add_mul, Nat.one_mul]
                exact Nat.le_refl _
              have HLT := Lib.hid hlt
              clear hlt
              by_cases hik : i < P.length
              · obtain ⟨_, _, _, ⟨A, c, eA, _, hr⟩, _⟩ := HF2.out
                injection eA with eA _ eC
                subst eA eC
                obtain ⟨g, rfl, _, hc⟩ := hr (by omega)
                have x1 := hc i hik
                have d3 : decide ((i : Int) < (P.length : Int)) = true := by simp; omega
                have d4 : (P.getD i 0 == 42) = false := by simp; exact (hno hik).1
                generalize P.getD i 0 = pp at *
                clear hc hr hone h42 hno
                go_wp2
                go_roundw
                case rel => exact ⟨s + 1, m + 1, m + 1, some s, rfl, by rw [Int.natCast_succ], by rw [Int.natCast_succ], fun h => (by cases h), HS3.out, HG3.out, HSB3.out⟩
                case measure =>
                  rw [HI3.out, hio]
                  simp only [RowKit.intOf, Int.toNat_natCast]
                  have e : ((m : Int) + 1).toNat = m + 1 := by omega
                  rw [e]
                  have := HLT.out
                  omega
              · have d3 : decide ((i : Int) < (P.length : Int)) = false := by simp; omega
                clear hone h42 hno
                go_wp2
                go_roundw
                case rel => exact ⟨s + 1, m + 1, m + 1, some s, rfl, by rw [Int.natCast_succ], by rw [Int.natCast_succ], fun h => (by cases h), HS3.out, HG3.out, HSB3.out⟩
                case measure =>
                  rw [HI3.out, hio]
                  simp only [RowKit.intOf, Int.toNat_natCast]
                  have e : ((m : Int) + 1).toNat = m + 1 := by omega
                  rw [e]
                  have := HLT.out
                  omega
      · have d0 : decide ((at' : Int) < (T.length : Int)) = false := by simp; omega
        have h5 := G5 hG (by omega)
        rw [HR.out] at h5
        have H5 := Lib.hid h5.symm
        have HF := Lib.hid hF
        have HB := Lib.hid hB
        clear h5 hF hB hG hm0 za hio
        go_wp2
        go_loopw [61] (fun _ wx => ∃ j : Nat, FM wx N (.slice A1 P.length c1) (.slice A2 T.length c2) P T j ∧ j ≤ P.length ∧ mt (P.drop j) [] = r ∧ Below w.heap.size w wx) (fun _ wx => P.length - iOf N wx)
        case atStart => exact ⟨i, HF.out, hi, H5.out, HB.out⟩
        case round =>
          clear HF HB H5 q1 q2 q3 q4 zi hi ha
          obtain ⟨j, hF, hj, hr, hB⟩ := hrel
          obtain ⟨q1, q2, q3, q4⟩ := hF.cell
          have hio := hF.iOf
          have zj : j ≤ 64 := by have := HP.out; omega
          have HR5 := Lib.hid hr
          by_cases hjl : j < P.length
          · have d3 : decide ((j : Int) < (P.length : Int)) = true := by simp; omega
            have hF' := hF
            obtain ⟨_, _, _, ⟨A, c, eA, _, hr⟩, _⟩ := hF
            injection eA with eA _ eC
            subst eA eC
            obtain ⟨g, rfl, _, hc⟩ := hr (by omega)
            have x1 := hc j hjl
            by_cases h42 : P.getD j 0 = 42
            · have HN6 := Lib.hid ((G6 hjl h42).symm.trans HR5.out)
              rw [h42] at x1
              have hS : FM (wr.setCell ⟨N + 1 + 1, 0, none⟩ (.int .i64 ((j : Int) + 1))) N (.slice (some ⟨g, 0, none⟩) P.length c1) (.slice A2 T.length c2) P T (j + 1) := by
                have := hF'.set (j + 1)
                rwa [Int.natCast_succ] at this
              have HSB := Lib.hid (hB.setCell (p := ⟨N + 1 + 1, 0, none⟩) (show w.heap.size ≤ N + 1 + 1 by have := HN.out; omega) (.int .i64 ((j : Int) + 1)))
              have HS := Lib.hid hS
              have HI := Lib.hid hS.iOf
              clear hc hr h42 hS hB hF'
              go_wp2
              go_roundw
              case rel => exact ⟨j + 1, HS.out, by omega, HN6.out, HSB.out⟩
              case measure =>
                rw [HI.out, hio]
                omega
            · have h7 := G7 hj (fun _ => h42)
              rw [HR5.out] at h7
              have H7 := Lib.hid h7
              have d4 : (P.getD j 0 == 42) = false := by simp; exact h42
              have HB := Lib.hid hB
              have hne : ¬ j = P.length := by omega
              have d6 : ((j : Int) == (P.length : Int)) = false := by simp; omega
              generalize P.getD j 0 = pp at *
              clear hc hr h42 h7 hB
              go_wp2
              try rw [Exit.noGoto_ret]
              go_ret2
              exact ⟨by rw [H7.out, decide_eq_false hne]; rfl, HB.out⟩
          · have h7 := G7 hj (fun h => absurd h hjl)
            rw [HR5.out] at h7
            have H7 := Lib.hid h7
            have d3 : decide ((j : Int) < (P.length : Int)) = false := by simp; omega
            have he : j = P.length := by omega
            have d6 : ((j : Int) == (P.length : Int)) = true := by simp; omega
            have HB := Lib.hid hB
            clear h7 hB hr hF
            go_wp2
            try rw [Exit.noGoto_ret]
            go_ret2
            exact ⟨by rw [H7.out, decide_eq_true he]; rfl, HB.out⟩
  · rw [if_neg h0] at hr
    subst hr
    have d0 : (E == 0) = false := by simp [h0]
    clear hR hE
    go_wp2
    try rw [Exit.noGoto_ret]
    go_ret2
    exact ⟨rfl, (B1.out.alloc B1.out.size _).alloc (by have := B1.out.size; simp; omega) _⟩
end Go.Proofs.YtfglhnnbfmpfeaaDoor.U
