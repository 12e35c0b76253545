/- cache: Write, Fill. -/
import Derived.Test.YtbnkiefchbcfgaaCread
import Derived.Test.YtbnkiefchbcfgaaK2
set_option linter.unusedVariables false
set_option linter.unusedSimpArgs false
namespace Go.Proofs.Ytbnkiefchbcfgaa.U
open Go.RowKit Go.Proofs Go.Lib Go.Proofs.YtbnkiefchbcfgaaW.PrintWords
variable {N : Nat → Prop} {w : World} {C lvl size : Nat} {xs os : List Ext} {lA oA : Option Addr} {c oc : Nat}

set_option maxHeartbeats 2000000 in
set_option maxRecDepth 1000000 in
theorem Write_no (p : Int) (n : Nat) (A : Option Addr) (ca : Nat) (h : CacheAt w N C lvl size xs os lA c oA oc) (hs : size ≤ 65536) (hbad : wrOk lvl size p n = false) :
    Calls Try.prog 14 #[.pointer (some ⟨C, 0, none⟩), .int .i64 p, .slice A n ca] w fun e w' => e = .returned (.bool false) ∧ w' = w := by
  have hb := of_decide_eq_false hbad
  have C1 := Lib.hid (off_on C w h.c0)
  have q1 := h.c1
  have cW := within_calls C size p n w h.c2 hs
  clear h hbad
  by_cases a1 : lvl < 2
  · have d1 : decide ((lvl : Int) < 2) = true := by simp; omega
    clear cW
    go_enter Try.func14, Try.ntmps14
    go_wp2_with fail
    refine (C1.out).mono ?_
    rintro e w3 ⟨rfl, rfl⟩
    go_wp2
    go_ret
    exact ⟨rfl, rfl⟩
  · have d1 : decide ((lvl : Int) < 2) = false := by simp; omega
    by_cases a2 : n = 0
    · subst a2
      clear cW
      go_enter Try.func14, Try.ntmps14
      go_wp2_with fail
      refine (C1.out).mono ?_
      rintro e w3 ⟨rfl, rfl⟩
      go_wp2
      go_ret
      exact ⟨rfl, rfl⟩
    · have d2 : ((n : Int) == 0) = false := by simp; omega
      rw [decide_eq_false (by omega)] at cW
      have CW := Lib.hid cW
      clear cW hb
      go_enter Try.func14, Try.ntmps14
      go_wp2_with fail
      refine (C1.out).mono ?_
      rintro e w3 ⟨rfl, rfl⟩
      go_wp2_with fail
      refine (CW.out).mono ?_
      rintro e w4 ⟨rfl, rfl⟩
      go_wp2
      go_ret
      exact ⟨rfl, rfl⟩
theorem FrC.lay_more {w w' : World} {C : Nat} {lA oA : Option Addr} (h : FrC w w' C lA none) : FrC w w' C lA oA := h.more oA
theorem BA.frc {w w' : World} {A : Option Addr} {ca : Nat} {bs : List Int} (hA : BA w A ca bs) (hf : FrC w w' C lA oA) (hC : ∀ g o, A = some ⟨g, o, none⟩ → 0 < bs.length → g ≠ C ∧ (∀ o, lA ≠ some ⟨g, o, none⟩) ∧ ∀ o, oA ≠ some ⟨g, o, none⟩) : BA w' A ca bs := by
  refine ⟨hA.1, fun h0 => ?_⟩
  obtain ⟨g, o, rfl, hg, hc⟩ := hA.2 h0
  obtain ⟨n1, n2, n3⟩ := hC g o rfl h0
  refine ⟨g, o, rfl, Nat.lt_of_lt_of_le hg hf.size, fun j u hj => ?_⟩
  rw [← hc j u hj, Addr.add_lit]
  exact World.cell?_of_block (a := ⟨g, o + j, none⟩) (hf.block g hg n1 n2 n3)
/-- The row of the open ones is laid anew into the cache. -/
theorem CacheAt.open_set {w2 w3 : World} {oA' : Option Addr} {oc' : Nat} {os' : List Ext} (h : CacheAt w2 N C lvl size xs os lA c oA oc) (hg : w2.grownBy w3 (Value.slice oA os.length oc).ownBlock) (ho : OpenAt w3 N oA' oc' os') (hs : SameL w2 oA oA') :
    CacheAt (w3.setCell ⟨C, 4, none⟩ (.slice oA' os'.length oc')) N C lvl size xs os' lA c oA' oc' ∧ FrC w2 (w3.setCell ⟨C, 4, none⟩ (.slice oA' os'.length oc')) C lA oA := by
  have hown : ∀ k, (Value.slice oA os.length oc).ownBlock = some k → ∃ o, oA = some ⟨k, o, none⟩ := fun k e => by
    rcases h.opn with ⟨h1, _⟩ | ⟨O, k', cs, h1, _⟩
    · rw [h1] at e; cases e
    · rw [h1] at e ⊢
      simp only [Value.ownBlock, Option.some.injEq] at e
      subst e
      exact ⟨_, rfl⟩
  have hst : ∀ (k : Nat) (ob : Obj), w2.heap[k]? = some ob → (∀ o, oA ≠ some ⟨k, o, none⟩) → w3.heap[k]? = some ob := fun k ob hh hne => by
    rw [hg.block k (Array.getElem?_eq_some_iff.1 hh).1 (fun e => by
      obtain ⟨o, h1⟩ := hown k e.symm
      exact hne o h1)]
    exact hh
  have hnt : ∀ (t : TypeId) (k : Nat) (cs : Array Value) (fz : Nat × Nat), w2.heap[k]? = some (.cells cs t fz) → t ≠ 32 → ∀ o, oA ≠ some ⟨k, o, none⟩ := fun t k cs fz hh hne o e => by
    obtain ⟨_, cs', hL⟩ := h.opn.at_ e
    exact ne_block hh hL hne rfl
  have hu : ∀ (g : Nat) (cs : Array Value) (fz : Nat × Nat), w2.heap[g]? = some (Obj.cells cs 5 fz) → w3.heap[g]? = some (Obj.cells cs 5 fz) := fun g cs fz hh => hst g _ hh (hnt _ g cs fz hh (by decide))
  have hC := hst C _ h.head (hnt _ C _ _ h.head (by decide))
  have hk3 : KnownAt w3 N lA c xs := h.known.kept (fun L o e => by
    obtain ⟨e0, hlt, cs, hL⟩ := h.known.at_ e
    subst e0
    rw [hst L _ hL (fun o2 e2 => h.apart L L o2 e e2 rfl), hL]) hu
  have hus : ∀ (g : Nat) (cs : Array Value) (fz : Nat × Nat), w3.heap[g]? = some (Obj.cells cs 5 fz) → (w3.setCell ⟨C, 4, none⟩ (.slice oA' os'.length oc')).heap[g]? = some (Obj.cells cs 5 fz) := fun g cs fz hh => by
    rw [set_other _ (ne_block hh hC (by decide))]
    exact hh
  refine ⟨⟨?_, ?_, ?_, fun L O o eL eO e => ?_⟩, ?_⟩
  · rw [set_cell hC]
    rfl
  · refine hk3.kept (fun L o e => ?_) hus
    obtain ⟨_, _, cs, hL⟩ := hk3.at_ e
    exact set_other _ (ne_block hL hC (by decide))
  · refine ho.kept (fun O o e => ?_) hus
    obtain ⟨_, cs, hL⟩ := ho.at_ e
    exact set_other _ (ne_block hL hC (by decide))
  · subst e
    rcases hs L o eO with ⟨o', h1⟩ | h1
    · exact h.apart L L o' eL h1 rfl
    · have := (h.known.at_ eL).2.1
      omega
  · exact ((FrC.refl w2 C lA oA).grown hg fun k e => .inr (.inl (hown k e))).set 4 _
set_option maxHeartbeats 8000000 in
set_option maxRecDepth 1000000 in
theorem Write_calls (p : Nat) (A : Option Addr) (ca : Nat) (bs : List Int) (h : CacheAt w N C lvl size xs os lA c oA oc) (hf : Fit size xs) (hN : ∀ k, N k → k < w.heap.size) (hs : size ≤ 65536) (hl : 2 ≤ lvl) (hR : BA w A ca bs) (h0 : 0 < bs.length) (hb : p + bs.length ≤ size) (hn : os.length ≤ 1000000)
    (hA : ∀ g o, A = some ⟨g, o, none⟩ → g ≠ C ∧ ∀ o, lA ≠ some ⟨g, o, none⟩) :
    Calls Try.prog 14 #[.pointer (some ⟨C, 0, none⟩), .int .i64 (p : Int), .slice A bs.length ca] w fun e w' => e = .returned (.bool true) ∧ ∃ lA' c' oA' oc', CacheAt w' N C lvl size (wr p bs xs) (os ++ [(p, bs)]) lA' c' oA' oc' ∧ FrC w w' C lA oA ∧ SameL w lA lA' ∧ SameL w oA oA' := by
  have C1 := Lib.hid (off_on C w h.c0)
  have q1 := h.c1
  have cW := within_calls C size (p : Int) (bs.length : Int) w h.c2 hs
  rw [decide_eq_true (by omega)] at cW
  have cL := lay_calls C lvl size p A ca bs xs os lA oA c oc w h hf.ok hN hf.top hs hR h0 hb
  have hRb : ∀ w', FrC w w' C lA none → BA w' A ca bs := fun w' hf => hR.frc hf (fun g o e _ => ⟨(hA g o e).1, (hA g o e).2, fun o e => by cases e⟩)
  have hcl := fun W (hW : BA W A ca bs) => Clone_calls A ca bs W hW h0 (by omega)
  obtain ⟨n, hn'⟩ : ∃ n, bs.length = n := ⟨_, rfl⟩
  obtain ⟨on, hon⟩ : ∃ on, os.length = on := ⟨_, rfl⟩
  rw [hn'] at cW cL h0 hcl ⊢
  have CW := Lib.hid cW
  have CL := Lib.hid cL
  have HRB := Lib.hid hRb
  have HCL := Lib.hid hcl
  have HNK := Lib.hid hN
  have HN := Lib.hid hn'
  have HON := Lib.hid hon
  have d1 : decide ((lvl : Int) < 2) = false := by simp; omega
  have d2 : ((n : Int) == 0) = false := by simp; omega
  clear h hf hN hR hb hA cW cL hRb hcl hn' hon
  go_enter Try.func14, Try.ntmps14
  go_wp2_with fail
  refine (C1.out).mono ?_
  rintro e w3 ⟨rfl, rfl⟩
  go_wp2_with fail
  refine (CW.out).mono ?_
  rintro e w4 ⟨rfl, rfl⟩
  clear q1
  go_wp2_with fail
  refine (CL.out).mono ?_
  rintro e w1 ⟨rfl, lA', c', h1, hf1, hs1⟩
  have q4 := h1.c4
  have hCl := h1.lt
  have f4 := Lib.frozen_of_heap h1.head 4
  have hba1 := HRB.out _ hf1
  have HC1 := Lib.hid h1
  have HF1 := Lib.hid hf1
  have HS1 := Lib.hid hs1
  have HBA := Lib.hid hba1
  rw [HON.out] at q4
  have hKS : ∀ w', Below w1.heap.size w1 w' → w'.cell? ⟨C, 4, none⟩ = some (.slice oA on oc) ∧ w'.frozen? ⟨C, 4, none⟩ = false := fun w' h =>
    ⟨(h.cell (p := ⟨C, 4, none⟩) hCl).trans q4, (h.frozen (p := ⟨C, 4, none⟩) hCl).trans f4⟩
  have KS := Lib.hid hKS
  clear h1 hf1 hs1 hba1 hKS C1 CW CL
  go_wp2_with fail
  have hS0 := KS.out _ (below_drew1 (Below.refl w1.heap.size w1))
  refine AnyL.start (fun w' => w'.cell? ⟨C, 4, none⟩ = some (.slice oA on oc) ∧ w'.frozen? ⟨C, 4, none⟩ = false) 13 (by kernel_rfl) hS0 (fun hHeld => ?_)
  refine AnyL.take (i := 0) (v := ?vy0) rfl (by kernel_rfl) (by kernel_rfl) (by kernel_rfl) (by kernel_rfl) (fun _ _ _ h => h) (by assumption) (Or.inl ⟨by rfl, ?y0⟩) ?ry0
  case y0 => (intro w hSw; (try dsimp only at hSw); go_simp; try with_reducible rfl)
  try simp only [Act.put, List.setIfInBounds_toArray, List.set_cons_zero, List.set_cons_succ]
  refine AnyL.take (i := 1) (v := ?vy1) rfl (by kernel_rfl) (by kernel_rfl) (by kernel_rfl) (by kernel_rfl) (fun _ _ _ h => h) (by assumption) (Or.inl ⟨by rfl, ?y1⟩) ?ry1
  case y1 => (intro w hSw; (try dsimp only at hSw); go_simp; try with_reducible rfl)
  try simp only [Act.put, List.setIfInBounds_toArray, List.set_cons_zero, List.set_cons_succ]
  refine AnyL.take (i := 2) (v := ?vy2) rfl (by kernel_rfl) (by kernel_rfl) (by kernel_rfl) (by kernel_rfl) (fun _ _ _ h => h) (by assumption) (Or.inl ⟨by rfl, ?y2⟩) ?ry2
  case y2 => (intro w hSw; (try dsimp only at hSw); go_simp; try with_reducible rfl)
  try simp only [Act.put, List.setIfInBounds_toArray, List.set_cons_zero, List.set_cons_succ]
  refine AnyL.take (i := 3) (v := ?vy3) rfl (by kernel_rfl) (by kernel_rfl) (by kernel_rfl) (by kernel_rfl) (fun _ _ _ h => h) (by assumption) (Or.inl ⟨by rfl, ?y3⟩) ?ry3
  case y3 => (intro w hSw; (try dsimp only at hSw); go_simp; try with_reducible rfl)
  try simp only [Act.put, List.setIfInBounds_toArray, List.set_cons_zero, List.set_cons_succ]
  refine AnyL.take (i := 4) (v := ?vy4) rfl (by kernel_rfl) (by kernel_rfl) (by kernel_rfl) (by kernel_rfl) (fun _ _ _ h => h) (by assumption) (Or.inl ⟨by rfl, ?y4⟩) ?ry4
  case y4 => (intro w hSw; (try dsimp only at hSw); go_simp; try with_reducible rfl)
  try simp only [Act.put, List.setIfInBounds_toArray, List.set_cons_zero, List.set_cons_succ]
  refine AnyL.take (i := 5) (v := ?vy5) rfl (by kernel_rfl) (by kernel_rfl) (by kernel_rfl) (by kernel_rfl) (fun _ _ _ h => h) (by assumption) (Or.inl ⟨by rfl, ?y5⟩) ?ry5
  case y5 => (intro w hSw; (try dsimp only at hSw); go_simp; try with_reducible rfl)
  try simp only [Act.put, List.setIfInBounds_toArray, List.set_cons_zero, List.set_cons_succ]
  refine AnyL.take (i := 6) (v := ?vy6) rfl (by kernel_rfl) (by kernel_rfl) (by kernel_rfl) (by kernel_rfl) (fun _ _ _ h => h) (by assumption) (Or.inl ⟨by rfl, ?y6⟩) ?ry6
  case y6 => (intro w hSw; (try dsimp only at hSw); go_simp; try with_reducible rfl)
  try simp only [Act.put, List.setIfInBounds_toArray, List.set_cons_zero, List.set_cons_succ]
  refine AnyL.one (i := 7) (by kernel_rfl) rfl (fun K hK => ?_)
  go_simp
  refine (HCL.out _ (HBA.out.keep (below_drew1 (Below.refl _ _)))).mono ?_
  rintro e w5 ⟨v5, rfl, ho5, hb5⟩
  obtain ⟨O, cap, rfl, hO, hBO⟩ := BR.of_own ho5 (by have := HN.out; omega)
  have hb6 := (below_drew1 (Below.refl w1.heap.size w1)).trans hb5
  refine hK.out _ _ (.inr (KS.out _ hb6)) ?_
  clear hHeld hK K
  have hHeld := KS.out _ hb6
  try simp only [Act.put, List.setIfInBounds_toArray, List.set_cons_zero, List.set_cons_succ]
  refine AnyL.take (i := 8) (v := ?vy8) rfl (by kernel_rfl) (by kernel_rfl) (by kernel_rfl) (by kernel_rfl) (fun _ _ _ h => h) (by assumption) (Or.inl ⟨by rfl, ?y8⟩) ?ry8
  case y8 => (intro w hSw; (try dsimp only at hSw); go_simp; try with_reducible rfl)
  try simp only [Act.put, List.setIfInBounds_toArray, List.set_cons_zero, List.set_cons_succ]
  have hbv : Below w5.heap.size w5 (w5.alloc (.cells #[.int .i64 (p : Int), .slice (some ⟨O, 0, none⟩) n cap] 32)) := (Below.refl _ _).alloc (Nat.le_refl _) _
  have hV := heap_alloc_new w5 (.cells #[.int .i64 (p : Int), .slice (some ⟨O, 0, none⟩) n cap] 32)
  refine AnyL.one (i := 9) (by kernel_rfl) rfl (fun K hK => ?_)
  go_simp
  obtain ⟨wv, hwv⟩ : ∃ wv, w5.alloc (.cells #[.int .i64 (p : Int), .slice (some ⟨O, 0, none⟩) n cap] 32) = wv := ⟨_, rfl⟩
  rw [hwv] at hbv hV ⊢
  have hb7 := hb6.trans (hbv.mono hb6.size)
  refine hK.out _ _ (.inr (KS.out _ hb7)) ?_
  clear hHeld hK K
  have hHeld := KS.out _ hb7
  try simp only [Act.put, List.setIfInBounds_toArray, List.set_cons_zero, List.set_cons_succ]
  have hC7 := HC1.out.below hb7
  have hOn : ∀ g o, (some ⟨O, 0, none⟩ : Option Addr) = some ⟨g, o, none⟩ → ¬ N g := fun g o e hg => by
    injection e with e
    injection e with e
    have h1 := HNK.out g hg
    have h2 := HF1.out.size
    have h3 : w1.heap.size ≤ O := hO
    omega
  have hV' : wv.heap[w5.heap.size]? = some (.cells #[.int .i64 (((p, bs) : Ext).1 : Int), .slice (some ⟨O, 0, none⟩) ((p, bs) : Ext).2.length cap] 32 (0, 0)) := by
    rw [HN.out]
    exact hV
  obtain ⟨oA', oc', w8, r1, r2, r3, r4⟩ := run_appendO wv 23 hC7.opn w5.heap.size 1 (p, bs) (some ⟨O, 0, none⟩) cap _ hV' (hBO.kept fun g cs fz hh => kept_below hbv _ _ hh) hOn hn
  obtain ⟨s1, s2⟩ := hC7.open_set r3 r2 r4
  rw [List.length_append, List.length_singleton, HON.out] at s1 s2
  rw [HON.out] at r1
  have HS := Lib.hid (And.intro s1 s2)
  have HR4 := Lib.hid r4
  have HB7 := Lib.hid hb7
  refine AnyL.one (i := 10) (by kernel_rfl) rfl (fun K hK => ?_)
  refine step_append_run _ (by rfl) _ _ 23 23 (by rfl) _ _ (by rfl) (by rfl) _ w8 r1 ?_
  have hS8 : w8.cell? ⟨C, 4, none⟩ = some (.slice oA on oc) ∧ w8.frozen? ⟨C, 4, none⟩ = false := by
    have hne : some C ≠ (Value.slice oA os.length oc).ownBlock := fun e => by
      rcases hC7.opn with ⟨h1, _⟩ | ⟨O', k', cs, h1, hO', _⟩
      · rw [h1] at e; cases e
      · rw [h1] at e
        simp only [Value.ownBlock, Option.some.injEq] at e
        subst e
        exact ne_block hC7.head hO' (by decide) rfl
    have hh : w8.heap[C]? = _ := (r3.block C hC7.lt hne).trans hC7.head
    rw [Lib.cell_of_heap hh, HON.out]
    exact ⟨rfl, Lib.frozen_of_heap hh 4⟩
  refine hK.out _ _ (.inr hS8) ?_
  clear hHeld hK K
  have hHeld := hS8
  try simp only [Act.put, List.setIfInBounds_toArray, List.set_cons_zero, List.set_cons_succ]
  refine AnyL.one (i := 11) (by kernel_rfl) rfl (fun K hK => ?_)
  go_simp
  refine hK.out _ _ (.inr hHeld) ?_
  clear hK K
  try simp only [Act.put, List.setIfInBounds_toArray, List.set_cons_zero, List.set_cons_succ]
  refine AnyL.take (i := 12) (v := ?vy12) rfl (by kernel_rfl) (by kernel_rfl) (by kernel_rfl) (by kernel_rfl) (fun _ _ _ h => h) (by assumption) (Or.inl ⟨by rfl, ?y12⟩) ?ry12
  case y12 => (intro w hSw; (try dsimp only at hSw); go_simp; try with_reducible rfl)
  try simp only [Act.put, List.setIfInBounds_toArray, List.set_cons_zero, List.set_cons_succ]
  refine AnyL.one (i := 13) (by kernel_rfl) rfl (fun K hK => ?_)
  go_simp
  refine hK.out _ _ (.inl rfl) ?_
  clear hHeld hK K
  refine AnyL.done (by kernel_rfl) ?_ _
  clear s1 s2 r1 r2 r3 r4 hS8 hb5 hb6 hb7 hbv hV hV' hwv ho5 hBO hO hC7 hS0 q4 f4
  go_wp2_with fail
  go_ret
  exact ⟨rfl, lA', c', oA', oc', HS.out.1, (HF1.out.more oA).trans (FrC.trans (FrC.of_below HB7.out C lA' oA) HS.out.2 (SameL.refl _ _) (SameL.refl _ _)) HS1.out (SameL.refl _ _), HS1.out, (SameL.refl _ oA).trans HR4.out (Nat.le_trans HF1.out.size HB7.out.size)⟩
set_option maxHeartbeats 2000000 in
set_option maxRecDepth 1000000 in
theorem lay_none (p : Int) (A : Option Addr) (ca : Nat) :
    Calls Try.prog 38 #[.pointer (some ⟨C, 0, none⟩), .int .i64 p, .slice A 0 ca] w fun e w' => e = .returned (.tuple #[]) ∧ Below w.heap.size w w' := by
  have hb1 := (Below.refl w.heap.size w).alloc (Nat.le_refl _) (.cells #[.pointer (some ⟨C, 0, none⟩)] 24)
  have hb2 := hb1.alloc hb1.size (.cells #[.int .i64 p] 3)
  have HB := Lib.hid (hb2.alloc hb2.size (.cells #[.slice A 0 ca] 22))
  clear hb1 hb2
  go_enter Try.func38, Try.ntmps38
  go_wp2
  refine bodyPost_ret (results_none rfl _ _ _) rfl ?_
  exact ⟨rfl, HB.out⟩
theorem lay0_calls (p : Nat) (A : Option Addr) (ca : Nat) (bs : List Int) (h : CacheAt w N C lvl size xs os lA c oA oc) (hf : Fit size xs) (hN : ∀ k, N k → k < w.heap.size) (hs : size ≤ 65536) (hR : BA w A ca bs) (hb : p + bs.length ≤ size) :
    Calls Try.prog 38 #[.pointer (some ⟨C, 0, none⟩), .int .i64 (p : Int), .slice A bs.length ca] w fun e w' => e = .returned (.tuple #[]) ∧ ∃ lA' c', CacheAt w' N C lvl size (wr0 p bs xs) os lA' c' oA oc ∧ FrC w w' C lA none ∧ SameL w lA lA' := by
  unfold wr0
  by_cases h0 : bs.length = 0
  · rw [if_pos h0, h0]
    refine (lay_none p A ca).mono ?_
    rintro e w' ⟨rfl, hb⟩
    exact ⟨rfl, lA, c, h.below hb, FrC.of_below hb _ _ _, SameL.refl _ _⟩
  · rw [if_neg h0]
    exact lay_calls C lvl size p A ca bs xs os lA oA c oc w h hf.ok hN hf.top hs hR (by omega) hb
set_option maxHeartbeats 2000000 in
set_option maxRecDepth 1000000 in
theorem Fill_arg (p : Int) (n : Nat) (A : Option Addr) (ca : Nat) (h : CacheAt w N C lvl size xs os lA c oA oc) (hs : size ≤ 65536) (hbad : ¬ (0 ≤ p ∧ p ≤ size ∧ (n : Int) ≤ size - p)) :
    Calls Try.prog 12 #[.pointer (some ⟨C, 0, none⟩), .int .i64 p, .slice A n ca] w fun e w' => e = .returned (.int .i64 2) ∧ w' = w := by
  have C1 := Lib.hid (off_on C w h.c0)
  have cW := within_calls C size p n w h.c2 hs
  rw [decide_eq_false hbad] at cW
  have CW := Lib.hid cW
  clear h hbad cW
  go_enter Try.func12, Try.ntmps12
  go_wp2_with fail
  refine (C1.out).mono ?_
  rintro e w3 ⟨rfl, rfl⟩
  go_wp2_with fail
  refine (CW.out).mono ?_
  rintro e w4 ⟨rfl, rfl⟩
  go_wp2
  go_ret
  exact ⟨rfl, rfl⟩
set_option maxHeartbeats 2000000 in
set_option maxRecDepth 1000000 in
theorem Fill_zero (p : Int) (n : Nat) (A : Option Addr) (ca : Nat) (h : CacheAt w N C 0 size xs os lA c oA oc) (hs : size ≤ 65536) (hok : 0 ≤ p ∧ p ≤ size ∧ (n : Int) ≤ size - p) :
    Calls Try.prog 12 #[.pointer (some ⟨C, 0, none⟩), .int .i64 p, .slice A n ca] w fun e w' => e = .returned (.int .i64 0) ∧ w' = w := by
  have C1 := Lib.hid (off_on C w h.c0)
  have q1 := h.c1
  have cW := within_calls C size p n w h.c2 hs
  rw [decide_eq_true hok] at cW
  have CW := Lib.hid cW
  clear h hok cW
  go_enter Try.func12, Try.ntmps12
  go_wp2_with fail
  refine (C1.out).mono ?_
  rintro e w3 ⟨rfl, rfl⟩
  go_wp2_with fail
  refine (CW.out).mono ?_
  rintro e w4 ⟨rfl, rfl⟩
  go_wp2
  go_ret
  exact ⟨rfl, rfl⟩
set_option maxHeartbeats 8000000 in
set_option maxRecDepth 1000000 in
theorem Fill_calls (p : Nat) (A : Option Addr) (ca : Nat) (bs : List Int) (h : CacheAt w N C lvl size xs os lA c oA oc) (hf : Fit size xs) (hw : Within size os) (hN : ∀ k, N k → k < w.heap.size) (hs : size ≤ 65536) (hl : 0 < lvl) (hR : BA w A ca bs) (hb : p + bs.length ≤ size) (hn : os.length ≤ 1000000) :
    Calls Try.prog 12 #[.pointer (some ⟨C, 0, none⟩), .int .i64 (p : Int), .slice A bs.length ca] w fun e w' => e = .returned (.int .i64 0) ∧ ∃ lA' c', CacheAt w' N C lvl size (lays os (wr0 p bs xs)) os lA' c' oA oc ∧ FrC w w' C lA none ∧ SameL w lA lA' := by
  have C1 := Lib.hid (off_on C w h.c0)
  have q1 := h.c1
  have cW := within_calls C size (p : Int) (bs.length : Int) w h.c2 hs
  rw [decide_eq_true (by omega)] at cW
  have cL := lay0_calls p A ca bs h hf hN hs hR hb
  have hf0 := hf.wr0 (p := p) (b := bs) hb
  obtain ⟨n, hn'⟩ : ∃ n, bs.length = n := ⟨_, rfl⟩
  obtain ⟨on, hon⟩ : ∃ on, os.length = on := ⟨_, rfl⟩
  obtain ⟨X, hX⟩ : ∃ X, wr0 p bs xs = X := ⟨_, rfl⟩
  rw [hn'] at cW cL ⊢
  rw [hX] at cL hf0 ⊢
  have CW := Lib.hid cW
  have CL := Lib.hid cL
  have HNK := Lib.hid hN
  have HON := Lib.hid hon
  have HF0 := Lib.hid hf0
  have HW := Lib.hid hw
  have d1 : ((lvl : Int) == 0) = false := by simp; omega
  have hCw := h.opn
  have HOP := Lib.hid h.opn
  clear h hf hN hR hb cW cL hn' hX hf0 hw hCw
  go_enter Try.func12, Try.ntmps12
  go_wp2_with fail
  refine (C1.out).mono ?_
  rintro e w3 ⟨rfl, rfl⟩
  go_wp2_with fail
  refine (CW.out).mono ?_
  rintro e w4 ⟨rfl, rfl⟩
  go_wp2_with fail
  refine (CL.out).mono ?_
  rintro e w1 ⟨rfl, lA1, c1, h1, hf1, hs1⟩
  have q4 := h1.c4
  rw [hon] at q4
  rw [hon] at hn
  have HC1 := Lib.hid h1
  have HF1 := Lib.hid hf1
  have HS1 := Lib.hid hs1
  clear h1 hf1 hs1 C1 CW CL q1 hon
  go_wp2_with fail
  go_loopg [34] on (fun g v34 wr => ∃ (i : Nat) (lA' : Option Addr) (c' : Nat), v34 = .int .i64 (i : Int) ∧ i + g = on ∧ CacheAt wr N C lvl size (lays (os.take i) X) os lA' c' oA oc ∧ FrC w4 wr C lA none ∧ SameL w4 lA lA')
  case atStart => exact ⟨0, lA1, c1, rfl, Nat.zero_add _, HC1.out, HF1.out, HS1.out⟩
  case round =>
    clear HC1 HF1 HS1 q4
    obtain ⟨i, lA2, c2, rfl, hig, h2, hf2, hs2⟩ := hrel
    have HIG := Lib.hid hig
    by_cases hin : i < on
    · have d3 : decide ((i : Int) < (on : Int)) = true := by simp; omega
      obtain ⟨x, hxi⟩ : ∃ x, os[i]? = some x := ⟨_, List.getElem?_eq_getElem (by have := HON.out; omega)⟩
      obtain ⟨O, k, A2, ca2, rfl, hO, p4, p5, hBR⟩ := h2.opn.piece hxi
      have hxw := HW.out x (List.mem_of_getElem? hxi)
      have ex : en x = x.1 + x.2.length := rfl
      have hxl : x.2.length ≤ 65536 := by omega
      have htk : lays (os.take (i + 1)) X = wr0 x.1 x.2 (lays (os.take i) X) := by
        obtain ⟨h1, h2⟩ := List.getElem?_eq_some_iff.1 hxi
        rw [List.take_succ_eq_append_getElem h1, h2, lays_snoc]
        unfold wr0
        rw [if_neg (by omega)]
      have hfit : Fit size (lays (os.take i) X) := HF0.out.lays (HW.out.take i)
      have hba : Below wr.heap.size wr ((wr.alloc (.cells #[.int .i64 0, .slice none 0 0] 32))) := (Below.refl _ _).alloc (Nat.le_refl _) _
      have HTK := Lib.hid htk
      have H2 := Lib.hid h2
      have HFR2 := Lib.hid hf2
      have HS2 := Lib.hid hs2
      have HFIT := Lib.hid hfit
      have HBR := Lib.hid hBR
      have i1 : (i : Int) < (on : Int) := by omega
      have i2 : k * 2 + i * 2 + 1 = k * 2 + (i * 2 + 1) := by omega
      rw [← i2] at p5
      clear htk h2 hf2 hs2 hfit hBR hxi ex hba i2
      have hbA : Below wr.heap.size wr (wr.alloc (.cells #[.int .i64 (x.1 : Int), .slice A2 x.2.length ca2] 32)) := (Below.refl _ _).alloc (Nat.le_refl _) _
      have HBA := Lib.hid hbA
      have CX := Lib.hid (lay0_calls x.1 A2 ca2 x.2 (H2.out.below hbA) HFIT.out (fun k hk => Nat.lt_of_lt_of_le (HNK.out k hk) (Nat.le_trans HFR2.out.size hbA.size)) hs (HBR.out.kept (fun g cs fz hh => kept_below hbA _ _ hh)).ba hxw.2)
      clear hbA
      go_wp2_with fail
      refine (CX.out).mono ?_
      rintro e w5 ⟨rfl, lA5, c5, h5, hf5, hs5⟩
      have hfr := (HFR2.out.trans (FrC.of_below HBA.out C lA2 none) HS2.out (SameL.refl _ _)).trans hf5 HS2.out (SameL.refl _ _)
      have hsl := HS2.out.trans hs5 (Nat.le_trans HFR2.out.size HBA.out.size)
      rw [← HTK.out] at h5
      have HFIN := Lib.hid (And.intro h5 (And.intro hfr hsl))
      clear h5 hf5 hs5 hfr hsl CX HBA
      go_wp2_with fail
      go_roundg (gk - 1)
      case measure => have := HIG.out; omega
      case rel => exact ⟨i + 1, lA5, c5, by rw [Int.natCast_succ], by have := HIG.out; omega, HFIN.out.1, HFIN.out.2.1, HFIN.out.2.2⟩
    · obtain rfl : i = on := by omega
      have d3 : decide ((i : Int) < (i : Int)) = false := by simp
      have htl : os.take i = os := List.take_of_length_le (by have := HON.out; omega)
      rw [htl] at h2
      have H2 := Lib.hid h2
      have HFR2 := Lib.hid hf2
      have HS2 := Lib.hid hs2
      clear h2 hf2 hs2 htl
      go_wp2_with fail
      go_ret
      exact ⟨rfl, lA2, c2, H2.out, HFR2.out, HS2.out⟩
end Go.Proofs.Ytbnkiefchbcfgaa.U
