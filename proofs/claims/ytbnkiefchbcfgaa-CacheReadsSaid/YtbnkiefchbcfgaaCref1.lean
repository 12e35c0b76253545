/- The document's cache: within, lay, blank, New, Settle, Down, Forget, First. -/
import Derived.Test.YtbnkiefchbcfgaaCrefm
set_option linter.unusedVariables false
set_option linter.unusedSimpArgs false
namespace Go.Proofs.Ytbnkiefchbcfgaa.U
open Go.RowKit Go.Proofs Go.Lib Go.Proofs.YtbnkiefchbcfgaaW.PrintWords
variable {w w1 w2 : World} {N : Nat → Prop} {base R lvl : Nat} {B : List Int} {Z : List Bool} {os : List Ext} {vB vZ : Value} {rA : Option Addr} {rc : Nat}

set_option maxHeartbeats 1000000 in
theorem Rwithin_calls (size : Nat) (p n : Int) (AB : Option Addr) (cB : Nat) (w : World) (hs : w.cell? ⟨R, 1, none⟩ = some (.slice AB size cB)) (hs2 : size ≤ 65536) :
    Calls Try.prog 45 #[.pointer (some ⟨R, 0, none⟩), .int .i64 p, .int .i64 n] w fun e w' => e = .returned (.bool (decide (0 ≤ p ∧ p ≤ size ∧ n ≤ size - p))) ∧ w' = w := by
  by_cases h1 : 0 ≤ p
  · by_cases h2 : p ≤ (size : Int)
    · have hwr : IntKind.i64.wrap ((size : Int) - p) = (size : Int) - p := wrap_small _ (by omega) (by omega)
      have e : decide (0 ≤ p ∧ p ≤ (size : Int) ∧ n ≤ (size : Int) - p) = decide (n ≤ (size : Int) - p) := decide_eq_decide.2 (by omega)
      rw [e]
      clear e
      have d1 : decide (0 ≤ p) = true := by simp; omega
      have d2 : decide (p ≤ (size : Int)) = true := by simp; omega
      go_enter Try.func45, Try.ntmps45
      go_wp2
      go_ret
      exact ⟨rfl, rfl⟩
    · have e : decide (0 ≤ p ∧ p ≤ (size : Int) ∧ n ≤ (size : Int) - p) = false := by simp; omega
      rw [e]
      clear e
      have d1 : decide (0 ≤ p) = true := by simp; omega
      have d2 : decide (p ≤ (size : Int)) = false := by simp; omega
      go_enter Try.func45, Try.ntmps45
      go_wp2
      go_ret
      exact ⟨rfl, rfl⟩
  · have e : decide (0 ≤ p ∧ p ≤ (size : Int) ∧ n ≤ (size : Int) - p) = false := by simp; omega
    rw [e]
    clear e
    have d1 : decide (0 ≤ p) = false := by simp; omega
    go_enter Try.func45, Try.ntmps45
    go_wp2
    go_ret
    exact ⟨rfl, rfl⟩
theorem RefC.within (h : RefC w N base R lvl B Z os vB vZ rA rc) (hl : B.length ≤ 65536) (p n : Int) :
    Calls Try.prog 45 #[.pointer (some ⟨R, 0, none⟩), .int .i64 p, .int .i64 n] w fun e w' => e = .returned (.bool (decide (0 ≤ p ∧ p ≤ B.length ∧ n ≤ B.length - p))) ∧ w' = w := by
  obtain ⟨AB, cB, rfl, _, _⟩ := own_slice_form h.rb
  exact Rwithin_calls B.length p n AB cB w h.c1 hl
/-- The head of lay's loop. -/
def RLRel (w0 : World) (N : Nat → Prop) (base R lvl p n : Nat) (bs B1 : List Int) (Z1 : List Bool) (os : List Ext) (vB vZ : Value) (rA : Option Addr) (rc : Nat) (g : Nat) (v : Value) (wr : World) : Prop :=
  ∃ i : Nat, v = .int .i64 (i : Int) ∧ i + g = n ∧ RefC wr N base R lvl (rput p (bs.take i) B1) (rput p ((List.replicate n true).take i) Z1) os vB vZ rA rc ∧ FrL w0 wr vB vZ
set_option maxHeartbeats 16000000 in
set_option maxRecDepth 1000000 in
theorem Rlay_some (p : Nat) (A : Option Addr) (c : Nat) (bs : List Int) (h : RefC w N base R lvl B Z os vB vZ rA rc) (ho : ∀ x ∈ os, 0 < x.2.length) (hl : B.length ≤ 65536) (hz : Z.length = B.length)
    (hR : BA w A c bs) (hA : ∀ g o, A = some ⟨g, o, none⟩ → vB.ownBlock ≠ some g ∧ vZ.ownBlock ≠ some g) (h0 : 0 < bs.length) (hp : p + bs.length ≤ B.length) :
    Calls Try.prog 46 #[.pointer (some ⟨R, 0, none⟩), .int .i64 (p : Int), .slice A bs.length c] w fun e w' => e = .returned (.tuple #[]) ∧ RefC w' N base R lvl (rput p bs B) (rput p (List.replicate bs.length true) Z) os vB vZ rA rc ∧ FrL w w' vB vZ := by
  obtain ⟨gb, ob, rfl, hgb, hcb⟩ := hR.2 h0
  obtain ⟨n2, n3⟩ := hA gb ob rfl
  obtain ⟨n, hn⟩ : ∃ n, bs.length = n := ⟨_, rfl⟩
  rw [hn] at h0 hp ⊢
  obtain ⟨gB, kB, rfl, hgB1, _⟩ := h.rb.form (by omega)
  obtain ⟨gZ, kZ, rfl, hgZ1, _⟩ := h.rz.form (by omega)
  obtain ⟨bl, hbl⟩ : ∃ bl, B.length = bl := ⟨_, rfl⟩
  obtain ⟨zl, hzl⟩ : ∃ zl, Z.length = zl := ⟨_, rfl⟩
  rw [hbl] at h hl hz hp n2 ⊢
  rw [hzl] at h hz n3 ⊢
  have HBL := Lib.hid hbl
  have HZL := Lib.hid hzl
  have HN := Lib.hid hn
  have HCB := Lib.hid hcb
  have HH := Lib.hid h
  have HO := Lib.hid ho
  have HNE := Lib.hid (And.intro n2 n3)
  clear hn hcb h hR hA hbl hzl ho n2 n3
  subst hz
  go_enter Try.func46, Try.ntmps46
  go_wp2_with fail
  go_loopg [6] n (fun g v wr => RLRel w N base R lvl p n bs B Z os (.slice (some ⟨gB, 0, none⟩) zl kB) (.slice (some ⟨gZ, 0, none⟩) zl kZ) rA rc g v wr)
  case atStart => exact ⟨0, rfl, Nat.zero_add _, by rw [List.take_zero, List.take_zero, rput_nil, rput_nil]; exact HH.out, FrL.refl _ _ _⟩
  case round =>
    obtain ⟨i, rfl, hig, hra, hfr⟩ := hrel
    have q1 := hra.c1
    have HIG := Lib.hid hig
    by_cases hin : i < n
    · have d5 : decide ((i : Int) < (n : Int)) = true := by simp; omega
      have i1 : (i : Int) < (n : Int) := by omega
      obtain ⟨b, hb⟩ : ∃ b, bs[i]? = some b := ⟨_, List.getElem?_eq_getElem (by rw [HN.out]; exact hin)⟩
      have hgw : gb < w.heap.size := hgb
      have q3 : wr.cell? ⟨gb, ob + i, none⟩ = some (.int .u8 b) := by
        have h1 := HCB.out i (.int .u8 b) (by unfold nums; rw [List.getElem?_map, hb]; rfl)
        rw [Addr.add_lit] at h1
        rw [← h1]
        exact World.cell?_of_block (a := ⟨gb, ob + i, none⟩) (hfr.block gb hgw HNE.out.1 HNE.out.2)
      have hl1 : (rput p (bs.take i) B).length = zl := by rw [rput_length (by rw [List.length_take, HBL.out]; omega)]; exact HBL.out
      have hl2 : (rput p ((List.replicate n true).take i) Z).length = zl := by rw [rput_length (by rw [List.length_take, HZL.out]; omega)]; exact HZL.out
      have hrb := hra.rb
      have hrz := hra.rz
      rw [hl1] at hrb
      rw [hl2] at hrz
      obtain ⟨ub, hub⟩ : ∃ ub, (nums .u8 (rput p (bs.take i) B))[p + i]? = some ub := ⟨_, List.getElem?_eq_getElem (by rw [nums_len, hl1]; omega)⟩
      have q4 : wr.cell? ⟨gB, p + i, none⟩ = some ub := (hrb.cellAt (p + i) (by omega)).trans hub
      have f4 : wr.frozen? ⟨gB, p + i, none⟩ = false := hrb.frozenAt (p + i)
      have hra3 := hra.putB HO.out hl1.symm (p + i) b
      rw [rput_step p bs B i b hb (by rw [HBL.out]; omega)] at hra3
      have hf3 := hfr.putB (j := p + i) (v := .int .u8 b)
      obtain ⟨w3, hw3⟩ : ∃ w3, wr.setCell ⟨gB, p + i, none⟩ (.int .u8 b) = w3 := ⟨_, rfl⟩
      rw [hw3] at hra3 hf3
      have q6 := hra3.c2
      have hrz3 := hra3.rz
      rw [hl2] at hrz3
      obtain ⟨uz, huz⟩ : ∃ uz, (bools (rput p ((List.replicate n true).take i) Z))[p + i]? = some uz := ⟨_, List.getElem?_eq_getElem (by rw [bools_len, hl2]; omega)⟩
      have q7 : w3.cell? ⟨gZ, p + i, none⟩ = some uz := (hrz3.cellAt (p + i) (by omega)).trans huz
      have f7 : w3.frozen? ⟨gZ, p + i, none⟩ = false := hrz3.frozenAt (p + i)
      have hra5 := hra3.putZ hl2.symm (p + i) true
      rw [rput_step p (List.replicate n true) Z i true (by rw [List.getElem?_replicate, if_pos hin]) (by rw [HZL.out]; omega)] at hra5
      have hf5 := hf3.putZ (j := p + i) (v := .bool true)
      have HRA5 := Lib.hid hra5
      have HF5 := Lib.hid hf5
      have i2 : (0 : Int) ≤ (p : Int) + (i : Int) := by omega
      have i3 : (p : Int) + (i : Int) < (zl : Int) := by omega
      have w2e : IntKind.i64.wrap ((p : Int) + (i : Int)) = (p : Int) + (i : Int) := wrap_small _ (by omega) (by omega)
      have i5 : ((p : Int) + (i : Int)).toNat = p + i := by omega
      clear hra hfr hb hub huz hra3 hf3 hra5 hf5 hrb hrz hrz3 hl1 hl2 hig
      go_wp2_with fail
      refine AnyL.start (fun w' => w'.cell? ⟨R, 1, none⟩ = some (.slice (some ⟨gB, 0, none⟩) zl kB) ∧ w'.cell? ⟨gb, ob + i, none⟩ = some (.int .u8 b)) 12 (by kernel_rfl) ⟨q1, q3⟩ (fun hHeld => ?_)
      refine AnyL.take (i := 0) (v := ?vy0) rfl (by kernel_rfl) (by kernel_rfl) (by kernel_rfl) (by kernel_rfl) (fun _ _ _ h => h) (by assumption) (Or.inl ⟨by rfl, ?y0⟩) ?ry0
      case y0 => (intro w hSw; (try dsimp only at hSw); go_simp; try with_reducible rfl)
      try simp only [Act.put, List.setIfInBounds_toArray, List.set_cons_zero, List.set_cons_succ]
      refine AnyL.take (i := 1) (v := ?vy1) rfl (by kernel_rfl) (by kernel_rfl) (by kernel_rfl) (by kernel_rfl) (fun _ _ _ h => h) (by assumption) (Or.inl ⟨by rfl, ?y1⟩) ?ry1
      case y1 => (intro w hSw; (try dsimp only at hSw); go_simp; try with_reducible rfl)
      try simp only [Act.put, List.setIfInBounds_toArray, List.set_cons_zero, List.set_cons_succ]
      refine AnyL.take (i := 2) (v := ?vy2) rfl (by kernel_rfl) (by kernel_rfl) (by kernel_rfl) (by kernel_rfl) (fun _ _ _ h => h) (by assumption) (Or.inl ⟨by rfl, ?y2⟩) ?ry2
      case y2 => (intro w hSw; (try dsimp only at hSw); go_simp; try with_reducible rfl)
      try simp only [Act.put, List.setIfInBounds_toArray, List.set_cons_zero, List.set_cons_succ]
      refine AnyL.take (i := 3) (v := ?vy3) rfl (by kernel_rfl) (by kernel_rfl) (by kernel_rfl) (by kernel_rfl) (fun _ _ _ h => h) (by assumption) (Or.inl ⟨by rfl, ?y3⟩) ?ry3
      case y3 => (intro w hSw; (try dsimp only at hSw); go_simp; try with_reducible rfl)
      try simp only [Act.put, List.setIfInBounds_toArray, List.set_cons_zero, List.set_cons_succ]
      refine AnyL.take (i := 4) (v := ?vy4) rfl (by kernel_rfl) (by kernel_rfl) (by kernel_rfl) (by kernel_rfl) (fun _ _ _ h => h) (by assumption) (Or.inl ⟨by rfl, ?y4⟩) ?ry4
      case y4 => (intro w hSw; (try dsimp only at hSw); go_simp; try with_reducible rfl)
      try simp only [Act.put, List.setIfInBounds_toArray, List.set_cons_zero, List.set_cons_succ]
      refine AnyL.take (i := 5) (v := ?vy5) rfl (by kernel_rfl) (by kernel_rfl) (by kernel_rfl) (by kernel_rfl) (fun _ _ _ h => h) (by assumption) (Or.inl ⟨by rfl, ?y5⟩) ?ry5
      case y5 => (intro w hSw; (try dsimp only at hSw); go_simp; try with_reducible rfl)
      try simp only [Act.put, List.setIfInBounds_toArray, List.set_cons_zero, List.set_cons_succ]
      refine AnyL.take (i := 6) (v := ?vy6) rfl (by kernel_rfl) (by kernel_rfl) (by kernel_rfl) (by kernel_rfl) (fun _ _ _ h => h) (by assumption) (Or.inl ⟨by rfl, ?y6⟩) ?ry6
      case y6 => (intro w hSw; (try dsimp only at hSw); go_simp; try with_reducible rfl)
      try simp only [Act.put, List.setIfInBounds_toArray, List.set_cons_zero, List.set_cons_succ]
      refine AnyL.take (i := 7) (v := ?vy7) rfl (by kernel_rfl) (by kernel_rfl) (by kernel_rfl) (by kernel_rfl) (fun _ _ _ h => h) (by assumption) (Or.inl ⟨by rfl, ?y7⟩) ?ry7
      case y7 => (intro w hSw; (try dsimp only at hSw); go_simp; try with_reducible rfl)
      try simp only [Act.put, List.setIfInBounds_toArray, List.set_cons_zero, List.set_cons_succ]
      refine AnyL.take (i := 8) (v := ?vy8) rfl (by kernel_rfl) (by kernel_rfl) (by kernel_rfl) (by kernel_rfl) (fun _ _ _ h => h) (by assumption) (Or.inl ⟨by rfl, ?y8⟩) ?ry8
      case y8 => (intro w hSw; (try dsimp only at hSw); go_simp; try with_reducible rfl)
      try simp only [Act.put, List.setIfInBounds_toArray, List.set_cons_zero, List.set_cons_succ]
      refine AnyL.take (i := 9) (v := ?vy9) rfl (by kernel_rfl) (by kernel_rfl) (by kernel_rfl) (by kernel_rfl) (fun _ _ _ h => h) (by assumption) (Or.inl ⟨by rfl, ?y9⟩) ?ry9
      case y9 => (intro w hSw; (try dsimp only at hSw); go_simp; try with_reducible rfl)
      try simp only [Act.put, List.setIfInBounds_toArray, List.set_cons_zero, List.set_cons_succ]
      refine AnyL.take (i := 10) (v := ?vy10) rfl (by kernel_rfl) (by kernel_rfl) (by kernel_rfl) (by kernel_rfl) (fun _ _ _ h => h) (by assumption) (Or.inl ⟨by rfl, ?y10⟩) ?ry10
      case y10 => (intro w hSw; (try dsimp only at hSw); go_simp; try with_reducible rfl)
      try simp only [Act.put, List.setIfInBounds_toArray, List.set_cons_zero, List.set_cons_succ]
      refine AnyL.take (i := 11) (v := ?vy11) rfl (by kernel_rfl) (by kernel_rfl) (by kernel_rfl) (by kernel_rfl) (fun _ _ _ h => h) (by assumption) (Or.inl ⟨by rfl, ?y11⟩) ?ry11
      case y11 => (intro w hSw; (try dsimp only at hSw); go_simp; try with_reducible rfl)
      try simp only [Act.put, List.setIfInBounds_toArray, List.set_cons_zero, List.set_cons_succ]
      refine AnyL.one (i := 12) (by kernel_rfl) rfl (fun K hK => ?_)
      go_simp
      refine hK.out _ _ (.inl rfl) ?_
      clear hHeld hK K
      refine AnyL.done (by kernel_rfl) ?_ _
      clear hw3 q1 q3 q4 f4
      have HD5 := Lib.hid (And.intro HRA5.out.drew HF5.out.drew)
      go_wp2_with fail
      go_roundg (gk - 1)
      case measure => have := HIG.out; omega
      case rel => exact ⟨i + 1, by rw [Int.natCast_succ], by have := HIG.out; omega, HD5.out.1, HD5.out.2⟩
    · have hin2 : i = n := by omega
      subst hin2
      have d5 : decide ((i : Int) < (i : Int)) = false := by simp
      have e1 : bs.take i = bs := List.take_of_length_le (by rw [HN.out]; exact Nat.le_refl _)
      have e2 : (List.replicate i true).take i = List.replicate i true := List.take_of_length_le (by simp)
      rw [e1, e2] at hra
      have HFIN := Lib.hid hra
      have HFR2 := Lib.hid hfr
      clear e1 e2 hra hfr q1
      go_wp2_with fail
      go_end0
      exact ⟨rfl, HFIN.out, HFR2.out⟩
set_option maxHeartbeats 2000000 in
theorem Rlay_none (p : Int) (A : Option Addr) (c : Nat) :
    Calls Try.prog 46 #[.pointer (some ⟨R, 0, none⟩), .int .i64 p, .slice A 0 c] w fun e w' => e = .returned (.tuple #[]) ∧ Below w.heap.size w w' := by
  go_enter Try.func46, Try.ntmps46
  go_wp2_with fail
  go_loopg [6] 0 (fun g v wr => v = .int .i64 0 ∧ Below w.heap.size w wr)
  case atStart => exact ⟨rfl, Below.refl _ _⟩
  case round =>
    obtain ⟨rfl, hb⟩ := hrel
    go_wp2_with fail
    go_end0
    exact ⟨rfl, hb⟩
theorem Rlay_calls (p : Nat) (A : Option Addr) (c : Nat) (bs : List Int) (h : RefC w N base R lvl B Z os vB vZ rA rc) (ho : ∀ x ∈ os, 0 < x.2.length) (hl : B.length ≤ 65536) (hz : Z.length = B.length)
    (hR : BA w A c bs) (hA : 0 < bs.length → ∀ g o, A = some ⟨g, o, none⟩ → vB.ownBlock ≠ some g ∧ vZ.ownBlock ≠ some g) (hp : p + bs.length ≤ B.length) :
    Calls Try.prog 46 #[.pointer (some ⟨R, 0, none⟩), .int .i64 (p : Int), .slice A bs.length c] w fun e w' => e = .returned (.tuple #[]) ∧ RefC w' N base R lvl (rput p bs B) (rput p (List.replicate bs.length true) Z) os vB vZ rA rc ∧ FrL w w' vB vZ := by
  rcases Nat.eq_zero_or_pos bs.length with h0 | h0
  · obtain rfl : bs = [] := List.eq_nil_of_length_eq_zero h0
    rw [List.length_nil, List.replicate_zero, rput_nil, rput_nil]
    refine (Rlay_none p A c).mono ?_
    rintro e w' ⟨rfl, hb⟩
    exact ⟨rfl, h.below hb, FrL.of_below hb _ _⟩
  · exact Rlay_some p A c bs h ho hl hz hR (hA h0) h0 hp
theorem made_bools (n : Nat) : madeCells #[Value.bool false] n = (bools (List.replicate n false)).toArray := by
  apply Array.ext
  · simp [madeCells, bools]
  · intro i h1 h2
    simp [madeCells, bools, Nat.mod_one]
theorem own_new {w : World} {e : TypeId} {g n base : Nat} {l : List Value} (h : w.heap[g]? = some (.cells l.toArray e (0, 0))) (hl : l.length = n) (hb : base ≤ g) (hn : n ≤ maxLen) : w.ownsRow base e 1 (.slice (some ⟨g, 0, none⟩) n n) n l := by
  subst hl
  exact ⟨by rw [Nat.mul_one], .inr ⟨g, _, _, rfl, hb, h, Nat.le_refl _, hn, by rw [List.size_toArray, Nat.mul_one], by rw [Nat.mul_one, List.toList_toArray, List.take_length]⟩⟩
end Go.Proofs.Ytbnkiefchbcfgaa.U
