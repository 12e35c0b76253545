/- The document's cache: Read, Write, Fill. -/
import Derived.Test.YtbnkiefchbcfgaaCref2
set_option linter.unusedVariables false
set_option linter.unusedSimpArgs false
namespace Go.Proofs.Ytbnkiefchbcfgaa.U
open Go.RowKit Go.Proofs Go.Lib Go.Proofs.YtbnkiefchbcfgaaW.PrintWords
variable {w w1 w2 : World} {N : Nat → Prop} {base R lvl size : Nat} {xs : List Ext} {B : List Int} {Z : List Bool} {os : List Ext} {vB vZ : Value} {rA : Option Addr} {rc : Nat}

set_option maxHeartbeats 2000000 in
theorem Rread_no (p n : Int) (h : RefC w N base R lvl B Z os vB vZ rA rc) (hs : B.length ≤ 65536) (hbad : ¬ (0 < lvl ∧ 0 < n ∧ 0 ≤ p ∧ p ≤ B.length ∧ n ≤ B.length - p)) :
    Calls Try.prog 22 #[.pointer (some ⟨R, 0, none⟩), .int .i64 p, .int .i64 n] w fun e w' => e = .returned (.tuple #[.slice none 0 0, .bool false]) ∧ w' = w := by
  have q := h.c0
  have cW := h.within hs p n
  clear h
  by_cases a1 : lvl < 1
  · have d1 : decide ((lvl : Int) < 1) = true := by simp; omega
    clear cW
    go_enter Try.func22, Try.ntmps22
    go_wp2
    go_ret2
    exact ⟨rfl, rfl⟩
  · have d1 : decide ((lvl : Int) < 1) = false := by simp; omega
    by_cases a2 : n < 1
    · have d2 : decide (n < 1) = true := by simp; omega
      clear cW
      go_enter Try.func22, Try.ntmps22
      go_wp2
      go_ret2
      exact ⟨rfl, rfl⟩
    · have d2 : decide (n < 1) = false := by simp; omega
      rw [decide_eq_false (by omega)] at cW
      have CW := Lib.hid cW
      clear cW
      go_enter Try.func22, Try.ntmps22
      go_wp2_with fail
      refine (CW.out).mono ?_
      rintro e w4 ⟨rfl, rfl⟩
      go_wp2
      go_ret2
      exact ⟨rfl, rfl⟩
theorem Rel.known {size : Nat} {xs : List Ext} {B : List Int} {Z : List Bool} (h : Rel size xs B Z) (p m : Nat) (hm : p + m ≤ size) : knB xs p m = true ↔ ∀ j, j < m → Z[p + j]? = some true := by
  rw [knB_iff]
  constructor
  · intro hh j hj
    obtain ⟨z, hz⟩ : ∃ z, Z[p + j]? = some z := ⟨_, List.getElem?_eq_getElem (by rw [h.zl]; omega)⟩
    have h1 := h.at_ _ _ hz
    cases z with
    | true => exact hz
    | false => exact absurd h1 (hh j hj)
  · intro hh j hj
    rw [h.at_ _ _ (hh j hj), if_pos rfl, List.getElem?_eq_getElem (by rw [h.bl]; omega)]
    simp
/-- What is read: bytes of the call's own. -/
def RdP (w : World) (ok : Bool) (bs : List Int) (e : Ending) (w' : World) : Prop := ∃ v n, e = .returned (.tuple #[v, .bool ok]) ∧ w'.ownsRow w.heap.size 5 1 v n (nums .u8 bs) ∧ Below w.heap.size w w'
/-- The head of Read's loop. -/
def RRRel (w0 : World) (p m : Nat) (B : List Int) (Z : List Bool) (g : Nat) (v8 v9 : Value) (wr : World) : Prop :=
  ∃ k : Nat, v9 = .int .i64 ((p + k : Nat) : Int) ∧ k + g = m ∧ wr.ownsRow w0.heap.size 5 1 v8 k (nums .u8 ((B.drop p).take k)) ∧ (∀ j, j < k → Z[p + j]? = some true) ∧ Below w0.heap.size w0 wr
set_option maxHeartbeats 8000000 in
set_option maxRecDepth 1000000 in
theorem Rread_calls (p m : Nat) (ok : Bool) (bs : List Int) (hok : knB xs p m = ok) (hbs : (if ok then bytesAt xs p m else []) = bs) (h : RefC w N base R lvl B Z os vB vZ rA rc) (hrel : Rel size xs B Z) (hs : size ≤ 65536) (hl : 0 < lvl) (hm : 0 < m) (hp : p + m ≤ size) :
    Calls Try.prog 22 #[.pointer (some ⟨R, 0, none⟩), .int .i64 (p : Int), .int .i64 (m : Int)] w fun e w' => RdP w ok bs e w' := by
  have hkn := hrel.known p m hp
  have hby := hrel.read p m hp
  have hbl := hrel.bl
  have hzl := hrel.zl
  obtain ⟨gB, kB, rfl, hgB1, hgB2⟩ := h.rb.form (by omega)
  obtain ⟨gZ, kZ, rfl, hgZ1, hgZ2⟩ := h.rz.form (by omega)
  have cW := h.within (by omega) (p : Int) (m : Int)
  rw [decide_eq_true (by omega)] at cW
  rw [hbl, hzl] at h
  have hcB : ∀ j u, B[j]? = some u → w.cell? ⟨gB, j, none⟩ = some (.int .u8 u) := fun j u hj => by
    have h1 := h.rb
    rw [← hbl] at h1
    have h1 := h1.cells (g := gB) rfl j (.int .u8 u) (by unfold nums; rw [List.getElem?_map, hj]; rfl)
    rw [Addr.add_lit, Nat.zero_add] at h1
    exact h1
  have hcZ : ∀ j u, Z[j]? = some u → w.cell? ⟨gZ, j, none⟩ = some (.bool u) := fun j u hj => by
    have h1 := h.rz
    rw [← hzl] at h1
    have h1 := h1.cells (g := gZ) rfl j (.bool u) (by unfold bools; rw [List.getElem?_map, hj]; rfl)
    rw [Addr.add_lit, Nat.zero_add] at h1
    exact h1
  have q0 := h.c0
  have q1 := h.c1
  have q2 := h.c2
  have hRl := h.lt
  obtain ⟨i0, hi0, hz0, hz1, hz2⟩ := info_parts infoU8
  have HI := Lib.hid (And.intro hi0 (And.intro hz0 (And.intro hz1 hz2)))
  have HKN := Lib.hid hkn
  have HOK := Lib.hid hok
  have HBS := Lib.hid hbs
  have HBY := Lib.hid hby
  have HCB := Lib.hid hcB
  have HCZ := Lib.hid hcZ
  have HBL := Lib.hid hbl
  have HZL := Lib.hid hzl
  have CW := Lib.hid cW
  have d1 : decide ((lvl : Int) < 1) = false := by simp; omega
  have d2 : decide ((m : Int) < 1) = false := by simp; omega
  have hwr : IntKind.i64.wrap ((p : Int) + (m : Int)) = (p : Int) + (m : Int) := wrap_small _ (by omega) (by omega)
  clear h hok hbs hkn hby hcB hcZ hbl hzl cW hi0 hz0 hz1 hz2 hrel
  go_enter Try.func22, Try.ntmps22
  go_wp2_with fail
  refine (CW.out).mono ?_
  rintro e w4 ⟨rfl, rfl⟩
  go_wp2_with fail
  go_loopg [8, 9] m (fun g v8 v9 wr => RRRel w4 p m B Z g v8 v9 wr)
  case atStart => exact ⟨0, rfl, Nat.zero_add _, ⟨rfl, .inl ⟨rfl, rfl⟩⟩, fun j hj => absurd hj (Nat.not_lt_zero _), Below.refl _ _⟩
  case round =>
    obtain ⟨k, rfl, hkg, hown, hz, hbw⟩ := hrel
    have HKG := Lib.hid hkg
    have HOWN := Lib.hid hown
    have HZ := Lib.hid hz
    have HBW := Lib.hid hbw
    have r1 := (hbw.cell (p := ⟨R, 1, none⟩) hRl).trans q1
    have r2 := (hbw.cell (p := ⟨R, 2, none⟩) hRl).trans q2
    clear hown hz hbw
    by_cases hin : k < m
    · have d3 : decide (((p + k : Nat) : Int) < (p : Int) + (m : Int)) = true := by simp; omega
      have i1 : ((p + k : Nat) : Int) < (size : Int) := by omega
      have i2 : (0 : Int) ≤ ((p + k : Nat) : Int) := by omega
      obtain ⟨z, hz⟩ : ∃ z, Z[p + k]? = some z := ⟨_, List.getElem?_eq_getElem (by have := HZL.out; omega)⟩
      obtain ⟨b, hb⟩ : ∃ b, B[p + k]? = some b := ⟨_, List.getElem?_eq_getElem (by have := HBL.out; omega)⟩
      have r3 := (HBW.out.cell (p := ⟨gZ, p + k, none⟩) hgZ2).trans (HCZ.out _ _ hz)
      have r4 := (HBW.out.cell (p := ⟨gB, p + k, none⟩) hgB2).trans (HCB.out _ _ hb)
      obtain ⟨pk, hpk⟩ : ∃ pk, p + k = pk := ⟨_, rfl⟩
      rw [hpk] at d3 i1 i2 r3 r4 ⊢
      have HPK := Lib.hid hpk
      have HZK := Lib.hid hz
      have HBK := Lib.hid hb
      clear hz hb hpk
      cases z with
      | false =>
        have e : ok = false := by
          cases he : ok with
          | false => rfl
          | true =>
            have h1 := HKN.out.1 (HOK.out.trans he) k hin
            rw [HZK.out] at h1
            cases h1
        have e2 : bs = [] := by
          rw [← HBS.out, e]
          rfl
        subst e e2
        go_wp2_with fail
        go_ret2
        exact ⟨.slice none 0 0, 0, rfl, ⟨rfl, .inl ⟨rfl, rfl⟩⟩, HBW.out⟩
      | true =>
        have hown := HOWN.out.alloc (.cells #[.int .u8 b] 5)
        have hnew := heap_alloc_new wr (.cells #[.int .u8 b] 5)
        have HOWN2 := Lib.hid hown
        have HNEW := Lib.hid hnew
        have hba : Below wr.heap.size wr (wr.alloc (.cells #[.int .u8 b] 5)) := (Below.refl _ _).alloc (Nat.le_refl _) _
        have HBA := Lib.hid hba
        have hkl : k ≤ 65536 := by omega
        have hsz := HBW.out.size
        have hza : wr.heap.size ≤ (wr.alloc (.cells #[.int .u8 b] 5)).heap.size := hba.size
        clear hown hnew hba
        go_wp2_with (at_builtin; refine wpList_append_own _ rfl _ _ 22 rfl w4.heap.size 5 i0 (.int .u8 0) 1 1 Try.underlying22 HI.out.1 HI.out.2.1 HI.out.2.2.1 HI.out.2.2.2 rfl (by decide) _ _ _ rfl HOWN2.out ⟨wr.heap.size, 0, none⟩ 1 1 [.int .u8 b] rfl rfl (World.news_of_block HNEW.out) (fun u hu => by rw [List.mem_singleton.1 hu]; rfl) (by unfold maxLen; omega) (by omega) (Nat.le_trans hsz hza) ?_)
        intro v2 w2 ho2 hg2 _
        have hb2 : Below w4.heap.size w4 w2 := (HBW.out.trans (HBA.out.mono HBW.out.size)).grown hg2 (Nat.le_trans hsz hza) (fun k hk => (HOWN.out.lt k hk).1)
        have htk : nums .u8 ((B.drop p).take k) ++ [.int .u8 b] = nums .u8 ((B.drop p).take (k + 1)) := by
          have h1 : (B.drop p)[k]? = some b := by rw [List.getElem?_drop]; exact HBK.out
          rw [List.take_add_one, h1]
          simp [nums]
        rw [htk] at ho2
        have HFIN := Lib.hid (And.intro ho2 hb2)
        clear ho2 hg2 hb2 htk hza hsz
        go_wp2_with fail
        go_roundg (gk - 1)
        case measure => have := HKG.out; omega
        case rel =>
          refine ⟨k + 1, ?_, by have := HKG.out; omega, HFIN.out.1, fun j hj => ?_, HFIN.out.2⟩
          · rw [← Nat.add_assoc, HPK.out, Int.natCast_succ]
          · rcases Nat.lt_or_ge j k with h1 | h1
            · exact HZ.out j h1
            · obtain rfl : j = k := by omega
              exact HZK.out
    · obtain rfl : k = m := by omega
      have d3 : decide (((p + k : Nat) : Int) < (p : Int) + (k : Int)) = false := by simp
      have e : ok = true := HOK.out.symm.trans (HKN.out.2 HZ.out)
      have hfin := HOWN.out
      have e2 : bs = (B.drop p).take k := by
        rw [← HBS.out, e, ← HBY.out]
        rfl
      rw [← e2] at hfin
      have HF := Lib.hid hfin
      subst e
      clear hfin e2
      go_wp2_with fail
      go_ret2
      exact ⟨_, k, rfl, HF.out, HBW.out⟩
set_option maxHeartbeats 2000000 in
theorem Rwrite_no (p : Int) (n : Nat) (A : Option Addr) (ca : Nat) (h : RefC w N base R lvl B Z os vB vZ rA rc) (hs : B.length ≤ 65536) (hbad : wrOk lvl B.length p n = false) :
    Calls Try.prog 29 #[.pointer (some ⟨R, 0, none⟩), .int .i64 p, .slice A n ca] w fun e w' => e = .returned (.bool false) ∧ w' = w := by
  have hb := of_decide_eq_false hbad
  have q := h.c0
  have cW := h.within hs p n
  clear h hbad
  by_cases a1 : lvl < 2
  · have d1 : decide ((lvl : Int) < 2) = true := by simp; omega
    clear cW
    go_enter Try.func29, Try.ntmps29
    go_wp2
    go_ret
    exact ⟨rfl, rfl⟩
  · have d1 : decide ((lvl : Int) < 2) = false := by simp; omega
    by_cases a2 : n = 0
    · subst a2
      clear cW
      go_enter Try.func29, Try.ntmps29
      go_wp2
      go_ret
      exact ⟨rfl, rfl⟩
    · have d2 : ((n : Int) == 0) = false := by simp; omega
      rw [decide_eq_false (by omega)] at cW
      have CW := Lib.hid cW
      clear cW hb
      go_enter Try.func29, Try.ntmps29
      go_wp2_with fail
      refine (CW.out).mono ?_
      rintro e w4 ⟨rfl, rfl⟩
      go_wp2
      go_ret
      exact ⟨rfl, rfl⟩
/-- The row of the open ones is laid anew into the document's cache. -/
theorem RefC.open_set {w2 w3 : World} {rA' : Option Addr} {rc' : Nat} {os' : List Ext} (h : RefC w2 N base R lvl B Z os vB vZ rA rc) (hbase : base ≤ w2.heap.size) (hg : w2.grownBy w3 (Value.slice rA os.length rc).ownBlock) (ho : OpenAt w3 (fun k => vB.ownBlock = some k ∨ N k) rA' rc' os') (hs : SameL w2 rA rA') :
    RefC (w3.setCell ⟨R, 3, none⟩ (.slice rA' os'.length rc')) N base R lvl B Z os' vB vZ rA' rc' ∧ FrR w2 (w3.setCell ⟨R, 3, none⟩ (.slice rA' os'.length rc')) R vB vZ rA vB vZ rA' := by
  have hown : ∀ k, (Value.slice rA os.length rc).ownBlock = some k → ∃ o, rA = some ⟨k, o, none⟩ := fun k e => by
    rcases h.opn with ⟨h1, _⟩ | ⟨O, k', cs, h1, _⟩
    · rw [h1] at e; cases e
    · rw [h1] at e ⊢
      simp only [Value.ownBlock, Option.some.injEq] at e
      subst e
      exact ⟨_, rfl⟩
  have hnt : ∀ (t : TypeId) (k : Nat) (cs : Array Value) (fz : Nat × Nat), w2.heap[k]? = some (.cells cs t fz) → t ≠ 32 → some k ≠ (Value.slice rA os.length rc).ownBlock := fun t k cs fz hh hne e => by
    obtain ⟨o, h1⟩ := hown k e.symm
    obtain ⟨_, cs', hL⟩ := h.opn.at_ h1
    exact ne_block hh hL hne rfl
  have hR3 : w3.heap[R]? = _ := (hg.block R h.lt (hnt _ R _ _ h.head (by decide))).trans h.head
  have hb3 := own_stay (w' := w3) h.rb fun k hk => by
    obtain ⟨cs, hc⟩ := own_type h.rb k hk
    exact hg.block k (h.rb.lt k hk).2 (hnt _ k _ _ hc (by decide))
  have hz3 := own_stay (w' := w3) h.rz fun k hk => by
    obtain ⟨cs, hc⟩ := own_type h.rz k hk
    exact hg.block k (h.rz.lt k hk).2 (hnt _ k _ _ hc (by decide))
  refine ⟨⟨?_, own_stay hb3 fun k hk => set_other _ (fun e => ?_), own_stay hz3 fun k hk => set_other _ (fun e => ?_), ho.kept (fun O o e => ?_) (fun g cs fz hh => ?_), fun L o e => ?_⟩, ?_⟩
  · rw [set_cell hR3]
    rfl
  · subst e
    exact own_ne_block hb3 hR3 (by decide) hk
  · subst e
    exact own_ne_block hz3 hR3 (by decide) hk
  · obtain ⟨_, cs, hO⟩ := ho.at_ e
    exact set_other _ (ne_block hO hR3 (by decide))
  · rw [set_other _ (ne_block hh hR3 (by decide))]
    exact hh
  · rcases hs L o e with ⟨o', h1⟩ | h1
    · exact h.bL L o' h1
    · omega
  · refine ⟨hg.os, hg.tape, hg.output, by show _ ≤ (w3.heap.modify R _).size; rw [Array.size_modify]; exact hg.size, fun k hk h1 h2 h3 h4 => (set_other _ h1).trans (hg.block k hk (fun e => ?_)), fun k hk => .inl hk, fun k hk => .inl hk, hs⟩
    obtain ⟨o, h5⟩ := hown k e.symm
    exact h4 o h5
set_option maxHeartbeats 8000000 in
set_option maxRecDepth 1000000 in
theorem Rwrite_calls (p : Nat) (A : Option Addr) (ca : Nat) (bs : List Int) (h : RefC w N base R lvl B Z os vB vZ rA rc) (ho : ∀ x ∈ os, 0 < x.2.length) (hbase : base ≤ w.heap.size) (hN : ∀ k, N k → k < w.heap.size) (hs : B.length ≤ 65536) (hz : Z.length = B.length) (hl : 2 ≤ lvl) (hR : BA w A ca bs) (h0 : 0 < bs.length) (hb : p + bs.length ≤ B.length) (hn : os.length ≤ 1000000)
    (hA : ∀ g o, A = some ⟨g, o, none⟩ → vB.ownBlock ≠ some g ∧ vZ.ownBlock ≠ some g) :
    Calls Try.prog 29 #[.pointer (some ⟨R, 0, none⟩), .int .i64 (p : Int), .slice A bs.length ca] w fun e w' => e = .returned (.bool true) ∧ ∃ rA' rc', RefC w' N base R lvl (rput p bs B) (rput p (List.replicate bs.length true) Z) (os ++ [(p, bs)]) vB vZ rA' rc' ∧ FrR w w' R vB vZ rA vB vZ rA' := by
  obtain ⟨gb, ob, rfl, hgb, hcb⟩ := hR.2 h0
  obtain ⟨n2, n3⟩ := hA gb ob rfl
  have q := h.c0
  have cW := h.within hs (p : Int) (bs.length : Int)
  rw [decide_eq_true (by omega)] at cW
  have cL := Rlay_calls p _ ca bs h ho hs hz hR (fun _ => hA) hb
  have hvB : ∀ k, vB.ownBlock = some k → k < w.heap.size := fun k hk => (h.rb.lt k hk).2
  obtain ⟨n, hn'⟩ : ∃ n, bs.length = n := ⟨_, rfl⟩
  obtain ⟨on, hon⟩ : ∃ on, os.length = on := ⟨_, rfl⟩
  rw [hn'] at cW cL h0 ⊢
  obtain ⟨i0, hi0, hz0, hz1, hz2⟩ := info_parts infoU8
  have HI := Lib.hid (And.intro hi0 (And.intro hz0 (And.intro hz1 hz2)))
  have hnl : n ≤ 65536 := by omega
  have CW := Lib.hid cW
  have CL := Lib.hid cL
  have HNK := Lib.hid hN
  have HN := Lib.hid hn'
  have HON := Lib.hid hon
  have HCB := Lib.hid hcb
  have HVB := Lib.hid hvB
  have HNE := Lib.hid (And.intro n2 n3)
  have d1 : decide ((lvl : Int) < 2) = false := by simp; omega
  have d2 : ((n : Int) == 0) = false := by simp; omega
  clear h ho hN hR hb hA cW cL hn' hcb hvB hon hi0 hz0 hz1 hz2 n2 n3 hz
  go_enter Try.func29, Try.ntmps29
  go_wp2_with fail
  refine (CW.out).mono ?_
  rintro e w4 ⟨rfl, rfl⟩
  clear q
  go_wp2_with fail
  refine (CL.out).mono ?_
  rintro e w1 ⟨rfl, h1, hf1⟩
  have hown : w1.ownsRow w1.heap.size 5 1 (.slice none 0 0) 0 [] := ⟨rfl, .inl ⟨rfl, rfl⟩⟩
  have hcell : ∀ j u, (nums .u8 bs)[j]? = some u → w1.cell? ((⟨gb, ob, none⟩ : Addr).add j) = some u := fun j u hj => by
    rw [← HCB.out j u hj, Addr.add_lit]
    exact World.cell?_of_block (a := ⟨gb, ob + j, none⟩) (hf1.block gb hgb HNE.out.1 HNE.out.2)
  have HC1 := Lib.hid h1
  have HF1 := Lib.hid hf1
  have HCELL := Lib.hid hcell
  clear h1 hf1 hcell CW CL
  go_wp2_with (at_builtin; refine wpList_append_own _ rfl _ _ 22 rfl w1.heap.size 5 i0 (.int .u8 0) 1 1 Try.underlying22 HI.out.1 HI.out.2.1 HI.out.2.2.1 HI.out.2.2.2 rfl (by decide) _ 0 [] rfl hown ⟨gb, ob, none⟩ n ca (nums .u8 bs) rfl (by rw [nums_len, HN.out, Nat.mul_one]) HCELL.out (nums_one bs) (by unfold maxLen; omega) (by omega) (Nat.le_refl _) ?_)
  intro v5 w5 ho5 hg5 _
  have hb5 : Below w1.heap.size w1 w5 := (Below.refl _ _).grown hg5 (Nat.le_refl _) (fun k hk => (hown.lt k hk).1)
  obtain ⟨O, cap, rfl, hO, hBO⟩ := BR.of_own ho5 h0
  have hC5 := HC1.out.below hb5
  have q3 := hC5.c3
  rw [HON.out] at q3
  have hbv : Below w5.heap.size w5 (w5.alloc (.cells #[.int .i64 (p : Int), .slice (some ⟨O, 0, none⟩) n cap] 32)) := (Below.refl _ _).alloc (Nat.le_refl _) _
  have hV := heap_alloc_new w5 (.cells #[.int .i64 (p : Int), .slice (some ⟨O, 0, none⟩) n cap] 32)
  obtain ⟨wv, hwv⟩ : ∃ wv, w5.alloc (.cells #[.int .i64 (p : Int), .slice (some ⟨O, 0, none⟩) n cap] 32) = wv := ⟨_, rfl⟩
  rw [hwv] at hbv hV
  have hC7 := hC5.below hbv
  have hOn : ∀ g o, (some ⟨O, 0, none⟩ : Option Addr) = some ⟨g, o, none⟩ → ¬ (vB.ownBlock = some g ∨ N g) := fun g o e hg => by
    injection e with e
    injection e with e
    have h2 := HF1.out.size
    have h3 : w1.heap.size ≤ O := hO
    rcases hg with hg | hg
    · have := HVB.out g hg
      omega
    · have h1 := HNK.out g hg
      omega
  have hV' : wv.heap[w5.heap.size]? = some (.cells #[.int .i64 (((p, bs) : Ext).1 : Int), .slice (some ⟨O, 0, none⟩) ((p, bs) : Ext).2.length cap] 32 (0, 0)) := by
    rw [HN.out]
    exact hV
  obtain ⟨rA', rc', w8, r1, r2, r3, r4⟩ := run_appendO wv 23 hC7.opn w5.heap.size 1 (p, bs) (some ⟨O, 0, none⟩) cap _ hV' (hBO.kept fun g cs fz hh => kept_below hbv _ _ hh) hOn hn
  have hbb : Below w1.heap.size w1 wv := hb5.trans (hbv.mono hb5.size)
  obtain ⟨s1, s2⟩ := hC7.open_set (Nat.le_trans hbase (Nat.le_trans HF1.out.size hbb.size)) r3 r2 r4
  rw [List.length_append, List.length_singleton, HON.out] at s1 s2
  rw [HON.out] at r1
  have hR8 : w8.heap[R]? = wv.heap[R]? := r3.block R hC7.lt (fun e => by
    rcases hC7.opn with ⟨h1, _⟩ | ⟨O', k', cs, h1, hO', _⟩
    · rw [h1] at e; cases e
    · rw [h1] at e
      simp only [Value.ownBlock, Option.some.injEq] at e
      subst e
      exact ne_block hC7.head hO' (by decide) rfl)
  have q8 : w8.cell? ⟨R, 3, none⟩ = some (.slice rA on rc) := by
    rw [World.cell?_of_block (a := ⟨R, 3, none⟩) hR8, hC7.c3, HON.out]
  have f8 : w8.frozen? ⟨R, 3, none⟩ = false := by
    have hh : w8.heap[R]? = _ := hR8.trans hC7.head
    exact Lib.frozen_of_heap hh 3
  have hfin := ((HF1.out.toR R rA).below hbb).trans s2
  have HS := Lib.hid (And.intro s1 hfin)
  have HR1 := Lib.hid r1
  clear s1 s2 r1 r2 r3 r4 hR8 hfin hbb hV' hOn hC7 hbv hV hC5 hBO hO ho5 hb5 hg5 hown
  go_wp2_with (at_builtin; refine Lib.wpList_append_run _ rfl _ _ _ _ rfl _ _ rfl rfl _ _ HR1.out ?_)
  go_wp2_with fail
  go_ret
  exact ⟨rfl, rA', rc', HS.out.1, HS.out.2⟩
set_option maxHeartbeats 2000000 in
theorem Rfill_arg (p : Int) (n : Nat) (A : Option Addr) (ca : Nat) (h : RefC w N base R lvl B Z os vB vZ rA rc) (hs : B.length ≤ 65536) (hbad : ¬ (0 ≤ p ∧ p ≤ B.length ∧ (n : Int) ≤ B.length - p)) :
    Calls Try.prog 30 #[.pointer (some ⟨R, 0, none⟩), .int .i64 p, .slice A n ca] w fun e w' => e = .returned (.int .i64 2) ∧ w' = w := by
  have cW := h.within hs p n
  rw [decide_eq_false hbad] at cW
  have CW := Lib.hid cW
  clear h hbad cW
  go_enter Try.func30, Try.ntmps30
  go_wp2_with fail
  refine (CW.out).mono ?_
  rintro e w4 ⟨rfl, rfl⟩
  go_wp2
  go_ret
  exact ⟨rfl, rfl⟩
set_option maxHeartbeats 2000000 in
theorem Rfill_zero (p : Int) (n : Nat) (A : Option Addr) (ca : Nat) (h : RefC w N base R 0 B Z os vB vZ rA rc) (hs : B.length ≤ 65536) (hok : 0 ≤ p ∧ p ≤ B.length ∧ (n : Int) ≤ B.length - p) :
    Calls Try.prog 30 #[.pointer (some ⟨R, 0, none⟩), .int .i64 p, .slice A n ca] w fun e w' => e = .returned (.int .i64 0) ∧ w' = w := by
  have q := h.c0
  have cW := h.within hs p n
  rw [decide_eq_true hok] at cW
  have CW := Lib.hid cW
  clear h hok cW
  go_enter Try.func30, Try.ntmps30
  go_wp2_with fail
  refine (CW.out).mono ?_
  rintro e w4 ⟨rfl, rfl⟩
  go_wp2
  go_ret
  exact ⟨rfl, rfl⟩
/-- The head of Fill's loop. -/
def RFRel (w0 : World) (N : Nat → Prop) (base R lvl size on : Nat) (X os : List Ext) (vB vZ : Value) (rA : Option Addr) (rc : Nat) (g : Nat) (v : Value) (wr : World) : Prop :=
  ∃ (i : Nat) (Bi : List Int) (Zi : List Bool), v = .int .i64 (i : Int) ∧ i + g = on ∧ RefC wr N base R lvl Bi Zi os vB vZ rA rc ∧ Rel size (lays (os.take i) X) Bi Zi ∧ FrL w0 wr vB vZ
set_option maxHeartbeats 8000000 in
set_option maxRecDepth 1000000 in
theorem Rfill_calls (p : Nat) (A : Option Addr) (ca : Nat) (bs : List Int) (h : RefC w N base R lvl B Z os vB vZ rA rc) (hrel : Rel size xs B Z) (hw : Within size os) (hs : size ≤ 65536) (hl : 0 < lvl) (hR : BA w A ca bs) (hb : p + bs.length ≤ size) (hn : os.length ≤ 1000000)
    (hA : 0 < bs.length → ∀ g o, A = some ⟨g, o, none⟩ → vB.ownBlock ≠ some g ∧ vZ.ownBlock ≠ some g) :
    Calls Try.prog 30 #[.pointer (some ⟨R, 0, none⟩), .int .i64 (p : Int), .slice A bs.length ca] w fun e w' => e = .returned (.int .i64 0) ∧ ∃ B' Z', RefC w' N base R lvl B' Z' os vB vZ rA rc ∧ Rel size (lays os (wr0 p bs xs)) B' Z' ∧ FrL w w' vB vZ := by
  have hbl := hrel.bl
  have hzl := hrel.zl
  have q := h.c0
  have cW := h.within (by omega) (p : Int) (bs.length : Int)
  rw [decide_eq_true (by omega)] at cW
  have ho : ∀ x ∈ os, 0 < x.2.length := fun x hx => (hw x hx).1
  have cL := Rlay_calls p A ca bs h ho (by omega) (by omega) hR hA (by omega)
  have hrel0 := hrel.lay0 p bs hb
  obtain ⟨on, hon⟩ : ∃ on, os.length = on := ⟨_, rfl⟩
  obtain ⟨n, hn'⟩ : ∃ n, bs.length = n := ⟨_, rfl⟩
  obtain ⟨X, hX⟩ : ∃ X, wr0 p bs xs = X := ⟨_, rfl⟩
  rw [hn'] at cW cL hrel0 ⊢
  rw [hX] at hrel0 ⊢
  have CW := Lib.hid cW
  have CL := Lib.hid cL
  have HON := Lib.hid hon
  have HREL0 := Lib.hid hrel0
  have HW := Lib.hid hw
  have HO := Lib.hid ho
  have d1 : ((lvl : Int) == 0) = false := by simp; omega
  clear h hrel hw hR hb hA cW cL hn' hX hbl hzl hrel0 ho
  go_enter Try.func30, Try.ntmps30
  go_wp2_with fail
  refine (CW.out).mono ?_
  rintro e w4 ⟨rfl, rfl⟩
  go_wp2_with fail
  refine (CL.out).mono ?_
  rintro e w1 ⟨rfl, h1, hf1⟩
  have HC1 := Lib.hid (And.intro h1 hf1)
  rw [hon] at hn
  clear h1 hf1 CW CL q hon
  go_wp2_with fail
  go_loopg [7] on (fun g v wr => RFRel w4 N base R lvl size on X os vB vZ rA rc g v wr)
  case atStart => exact ⟨0, _, _, rfl, Nat.zero_add _, HC1.out.1, HREL0.out, HC1.out.2⟩
  case round =>
    clear HC1
    obtain ⟨i, Bi, Zi, rfl, hig, h2, hrel2, hf2⟩ := hrel
    have q3 := h2.c3
    rw [HON.out] at q3
    have HIG := Lib.hid hig
    by_cases hin : i < on
    · have d3 : decide ((i : Int) < (on : Int)) = true := by simp; omega
      obtain ⟨x, hxi⟩ : ∃ x, os[i]? = some x := ⟨_, List.getElem?_eq_getElem (by have := HON.out; omega)⟩
      obtain ⟨O, k, A2, ca2, hrO, hO, p4, p5, hBR, hNO⟩ := h2.opn.piece_ hxi
      have hxw := HW.out x (List.mem_of_getElem? hxi)
      have htk : lays (os.take (i + 1)) X = wr0 x.1 x.2 (lays (os.take i) X) := by
        obtain ⟨h1, h2⟩ := List.getElem?_eq_some_iff.1 hxi
        rw [List.take_succ_eq_append_getElem h1, h2, lays_snoc]
        unfold wr0
        rw [if_neg (by omega)]
      have ex : en x = x.1 + x.2.length := rfl
      have hbl := hrel2.bl
      have hzl := hrel2.zl
      have hAx : ∀ g o, A2 = some ⟨g, o, none⟩ → vB.ownBlock ≠ some g ∧ vZ.ownBlock ≠ some g := fun g o e => by
        refine ⟨fun e2 => hNO g o e (.inl e2), fun e2 => ?_⟩
        obtain ⟨g', o', cs, fz, e3, hg', _⟩ := hBR.2 hxw.1
        rw [e3] at e
        injection e with e
        injection e with e
        subst e
        exact own_ne_block h2.rz hg' (by decide) e2
      have cX := Rlay_calls x.1 A2 ca2 x.2 h2.drew HO.out (by omega) (by omega) (hBR.ba.keep (below_drew1 (Below.refl _ _))) (fun _ => hAx) (by omega)
      have hrelx := hrel2.lay0 x.1 x.2 (by omega)
      rw [← htk] at hrelx
      have hnB : vB.ownBlock ≠ some O := fun e => by
        obtain ⟨_, cs, hh⟩ := h2.opn.at_ hrO
        exact own_ne_block h2.rb hh (by decide) e
      have hnZ : vZ.ownBlock ≠ some O := fun e => by
        obtain ⟨_, cs, hh⟩ := h2.opn.at_ hrO
        exact own_ne_block h2.rz hh (by decide) e
      have hnBR : vB.ownBlock ≠ some R := fun e => own_ne_block h2.rb h2.head (by decide) e
      have hnZR : vZ.ownBlock ≠ some R := fun e => own_ne_block h2.rz h2.head (by decide) e
      have hRl := h2.lt
      have i2 : k * 2 + i * 2 + 1 = k * 2 + (i * 2 + 1) := by omega
      rw [← i2] at p5
      subst hrO
      have hKS : ∀ w', FrL wr w' vB vZ → w'.cell? ⟨R, 3, none⟩ = some (.slice (some ⟨O, k * 2, none⟩) on rc) ∧ w'.cell? ⟨O, k * 2 + i * 2, none⟩ = some (.int .i64 (x.1 : Int)) ∧ w'.cell? ⟨O, k * 2 + i * 2 + 1, none⟩ = some (.slice A2 x.2.length ca2) := fun w' h =>
        ⟨(World.cell?_of_block (a := ⟨R, 3, none⟩) (h.block R hRl hnBR hnZR)).trans q3, (World.cell?_of_block (a := ⟨O, k * 2 + i * 2, none⟩) (h.block O hO hnB hnZ)).trans p4, (World.cell?_of_block (a := ⟨O, k * 2 + i * 2 + 1, none⟩) (h.block O hO hnB hnZ)).trans p5⟩
      have KS := Lib.hid hKS
      have CX := Lib.hid cX
      have HF2 := Lib.hid hf2
      have HRX := Lib.hid hrelx
      have i1 : (i : Int) < (on : Int) := by omega
      have hS0 := hKS _ (FrL.refl wr vB vZ).drew
      clear htk h2 hf2 hBR hNO hxi ex i2 hKS cX hrelx hAx hrel2 hbl hzl hnB hnZ hnBR hnZR
      go_wp2_with fail
      refine AnyL.start (fun w' => w'.cell? ⟨R, 3, none⟩ = some (.slice (some ⟨O, k * 2, none⟩) on rc) ∧ w'.cell? ⟨O, k * 2 + i * 2, none⟩ = some (.int .i64 (x.1 : Int)) ∧ w'.cell? ⟨O, k * 2 + i * 2 + 1, none⟩ = some (.slice A2 x.2.length ca2)) 99 (by kernel_rfl) hS0 (fun hHeld => ?_)
      refine AnyL.take (i := 0) (v := ?vy0) rfl (by kernel_rfl) (by kernel_rfl) (by kernel_rfl) (by kernel_rfl) (fun _ _ _ h => h) (by assumption) (Or.inl ⟨by rfl, ?y0⟩) ?ry0
      case y0 => (intro w hSw; (try dsimp only at hSw); go_simp; try with_reducible rfl)
      try simp only [Act.put, List.setIfInBounds_toArray, List.set_cons_zero, List.set_cons_succ]
      refine AnyL.take (i := 1) (v := ?vy1) rfl (by kernel_rfl) (by kernel_rfl) (by kernel_rfl) (by kernel_rfl) (fun _ _ _ h => h) (by assumption) (Or.inl ⟨by rfl, ?y1⟩) ?ry1
      case y1 => (intro w hSw; (try dsimp only at hSw); go_simp; try with_reducible rfl)
      try simp only [Act.put, List.setIfInBounds_toArray, List.set_cons_zero, List.set_cons_succ]
      refine AnyL.take (i := 2) (v := ?vy2) rfl (by kernel_rfl) (by kernel_rfl) (by kernel_rfl) (by kernel_rfl) (fun _ _ _ h => h) (by assumption) (Or.inl ⟨by rfl, ?y2⟩) ?ry2
      case y2 => (intro w hSw; (try dsimp only at hSw); go_simp; try with_reducible rfl)
      try simp only [Act.put, List.setIfInBounds_toArray, List.set_cons_zero, List.set_cons_succ]
      refine AnyL.take (i := 3) (v := ?vy3) rfl (by kernel_rfl) (by kernel_rfl) (by kernel_rfl) (by kernel_rfl) (fun _ _ _ h => h) (by assumption) (Or.inl ⟨by rfl, ?y3⟩) ?ry3
      case y3 => (intro w hSw; (try dsimp only at hSw); go_simp; try with_reducible rfl)
      try simp only [Act.put, List.setIfInBounds_toArray, List.set_cons_zero, List.set_cons_succ]
      refine AnyL.take (i := 4) (v := ?vy4) rfl (by kernel_rfl) (by kernel_rfl) (by kernel_rfl) (by kernel_rfl) (fun _ _ _ h => h) (by assumption) (Or.inl ⟨by rfl, ?y4⟩) ?ry4
      case y4 => (intro w hSw; (try dsimp only at hSw); go_simp; try with_reducible rfl)
      try simp only [Act.put, List.setIfInBounds_toArray, List.set_cons_zero, List.set_cons_succ]
      refine AnyL.take (i := 5) (v := ?vy5) rfl (by kernel_rfl) (by kernel_rfl) (by kernel_rfl) (by kernel_rfl) (fun _ _ _ h => h) (by assumption) (Or.inl ⟨by rfl, ?y5⟩) ?ry5
      case y5 => (intro w hSw; (try dsimp only at hSw); go_simp; try with_reducible rfl)
      try simp only [Act.put, List.setIfInBounds_toArray, List.set_cons_zero, List.set_cons_succ]
      refine AnyL.take (i := 6) (v := ?vy6) rfl (by kernel_rfl) (by kernel_rfl) (by kernel_rfl) (by kernel_rfl) (fun _ _ _ h => h) (by assumption) (Or.inl ⟨by rfl, ?y6⟩) ?ry6
      case y6 => (intro w hSw; (try dsimp only at hSw); go_simp; try with_reducible rfl)
      try simp only [Act.put, List.setIfInBounds_toArray, List.set_cons_zero, List.set_cons_succ]
      refine AnyL.take (i := 7) (v := ?vy7) rfl (by kernel_rfl) (by kernel_rfl) (by kernel_rfl) (by kernel_rfl) (fun _ _ _ h => h) (by assumption) (Or.inl ⟨by rfl, ?y7⟩) ?ry7
      case y7 => (intro w hSw; (try dsimp only at hSw); go_simp; try with_reducible rfl)
      try simp only [Act.put, List.setIfInBounds_toArray, List.set_cons_zero, List.set_cons_succ]
      refine AnyL.take (i := 8) (v := ?vy8) rfl (by kernel_rfl) (by kernel_rfl) (by kernel_rfl) (by kernel_rfl) (fun _ _ _ h => h) (by assumption) (Or.inl ⟨by rfl, ?y8⟩) ?ry8
      case y8 => (intro w hSw; (try dsimp only at hSw); go_simp; try with_reducible rfl)
      try simp only [Act.put, List.setIfInBounds_toArray, List.set_cons_zero, List.set_cons_succ]
      refine AnyL.take (i := 9) (v := ?vy9) rfl (by kernel_rfl) (by kernel_rfl) (by kernel_rfl) (by kernel_rfl) (fun _ _ _ h => h) (by assumption) (Or.inl ⟨by rfl, ?y9⟩) ?ry9
      case y9 => (intro w hSw; (try dsimp only at hSw); go_simp; try with_reducible rfl)
      try simp only [Act.put, List.setIfInBounds_toArray, List.set_cons_zero, List.set_cons_succ]
      refine AnyL.take (i := 10) (v := ?vy10) rfl (by kernel_rfl) (by kernel_rfl) (by kernel_rfl) (by kernel_rfl) (fun _ _ _ h => h) (by assumption) (Or.inl ⟨by rfl, ?y10⟩) ?ry10
      case y10 => (intro w hSw; (try dsimp only at hSw); go_simp; try with_reducible rfl)
      try simp only [Act.put, List.setIfInBounds_toArray, List.set_cons_zero, List.set_cons_succ]
      refine AnyL.take (i := 11) (v := ?vy11) rfl (by kernel_rfl) (by kernel_rfl) (by kernel_rfl) (by kernel_rfl) (fun _ _ _ h => h) (by assumption) (Or.inl ⟨by rfl, ?y11⟩) ?ry11
      case y11 => (intro w hSw; (try dsimp only at hSw); go_simp; try with_reducible rfl)
      try simp only [Act.put, List.setIfInBounds_toArray, List.set_cons_zero, List.set_cons_succ]
      refine AnyL.take (i := 12) (v := ?vy12) rfl (by kernel_rfl) (by kernel_rfl) (by kernel_rfl) (by kernel_rfl) (fun _ _ _ h => h) (by assumption) (Or.inl ⟨by rfl, ?y12⟩) ?ry12
      case y12 => (intro w hSw; (try dsimp only at hSw); go_simp; try with_reducible rfl)
      try simp only [Act.put, List.setIfInBounds_toArray, List.set_cons_zero, List.set_cons_succ]
      refine AnyL.take (i := 13) (v := ?vy13) rfl (by kernel_rfl) (by kernel_rfl) (by kernel_rfl) (by kernel_rfl) (fun _ _ _ h => h) (by assumption) (Or.inl ⟨by rfl, ?y13⟩) ?ry13
      case y13 => (intro w hSw; (try dsimp only at hSw); go_simp; try with_reducible rfl)
      try simp only [Act.put, List.setIfInBounds_toArray, List.set_cons_zero, List.set_cons_succ]
      refine AnyL.take (i := 14) (v := ?vy14) rfl (by kernel_rfl) (by kernel_rfl) (by kernel_rfl) (by kernel_rfl) (fun _ _ _ h => h) (by assumption) (Or.inl ⟨by rfl, ?y14⟩) ?ry14
      case y14 => (intro w hSw; (try dsimp only at hSw); go_simp; try with_reducible rfl)
      try simp only [Act.put, List.setIfInBounds_toArray, List.set_cons_zero, List.set_cons_succ]
      refine AnyL.take (i := 15) (v := ?vy15) rfl (by kernel_rfl) (by kernel_rfl) (by kernel_rfl) (by kernel_rfl) (fun _ _ _ h => h) (by assumption) (Or.inl ⟨by rfl, ?y15⟩) ?ry15
      case y15 => (intro w hSw; (try dsimp only at hSw); go_simp; try with_reducible rfl)
      try simp only [Act.put, List.setIfInBounds_toArray, List.set_cons_zero, List.set_cons_succ]
      refine AnyL.take (i := 16) (v := ?vy16) rfl (by kernel_rfl) (by kernel_rfl) (by kernel_rfl) (by kernel_rfl) (fun _ _ _ h => h) (by assumption) (Or.inl ⟨by rfl, ?y16⟩) ?ry16
      case y16 => (intro w hSw; (try dsimp only at hSw); go_simp; try with_reducible rfl)
      try simp only [Act.put, List.setIfInBounds_toArray, List.set_cons_zero, List.set_cons_succ]
      refine AnyL.one (i := 17) (by kernel_rfl) rfl (fun K hK => ?_)
      go_simp
      refine (CX.out).mono ?_
      rintro e w5 ⟨rfl, h5, hf5⟩
      have hfl := (FrL.refl wr vB vZ).drew.trans hf5
      refine hK.out _ _ (.inr (KS.out _ hfl)) ?_
      clear hHeld hK K
      refine AnyL.done (by kernel_rfl) ?_ _
      have HFIN := Lib.hid (And.intro h5 (HF2.out.trans hfl))
      clear h5 hf5 hfl CX KS hS0 p4 p5 q3
      go_wp2_with fail
      go_roundg (gk - 1)
      case measure => have := HIG.out; omega
      case rel => exact ⟨i + 1, _, _, by rw [Int.natCast_succ], by have := HIG.out; omega, HFIN.out.1, HRX.out, HFIN.out.2⟩
    · obtain rfl : i = on := by omega
      have d3 : decide ((i : Int) < (i : Int)) = false := by simp
      have htl : os.take i = os := List.take_of_length_le (by have := HON.out; omega)
      rw [htl] at hrel2
      have HFIN := Lib.hid (And.intro h2 (And.intro hrel2 hf2))
      clear h2 hf2 htl hrel2
      go_wp2_with fail
      go_ret
      exact ⟨rfl, Bi, Zi, HFIN.out.1, HFIN.out.2.1, HFIN.out.2.2⟩
end Go.Proofs.Ytbnkiefchbcfgaa.U
