/- The plain law of glob: texts that are short, patterns that are put together, ? alone. -/
import Derived.Test.YtfglhnnbfmpfeaaDoorGbase
import Derived.Test.YtfglhnnbfmpfeaaDoorPRx36
set_option linter.unusedVariables false
set_option linter.unusedSimpArgs false
namespace Go.Proofs.YtfglhnnbfmpfeaaDoor.U
open Go.RowKit Go.Proofs Go.Lib Go.Proofs.YtfglhnnbfmpfeaaDoorW.PrintWords Go.Proofs.YtfglhnnbfmpfeaaDoor.PR

theorem fnums_length (l : List UInt8) : (fnums l).length = (letters l).length := by simp [fnums, flet]
theorem lnums_length (l : List UInt8) : (lnums l).length = (letters l).length := by simp [lnums]
/-- A text of at most so many letters. -/
def shortB (l : List UInt8) (m : Nat) : Bool := valid l && decide ((fnums l).length ≤ m)
theorem short_eq (s : ByteArray) (m : Nat) (hs : s.size ≤ 17592186044415) (k : Nat) (hk : s.size + 9 ≤ k) : refectorylaw05_short.f k s (m : Int) = some (shortB s.data.toList m) := by
  unfold refectorylaw05_short.f shortB
  rw [Letters_eq s hs k hk, Option.bind_some]
  dsimp only
  cases valid s.data.toList with
  | true =>
    rw [if_pos rfl, Bool.true_and, lnums_length, fnums_length]
    congr 1
    exact decide_eq_decide.2 (by omega)
  | false => rfl
theorem short_calls (s : ByteArray) (m : Nat) (W : World) (hs : s.size ≤ 17592186044415) :
    Calls Tryd.prog 13 #[.string s, .int .i64 (m : Int)] W fun e w' => e = .returned (.bool (shortB s.data.toList m)) ∧ Below W.heap.size W w' := by
  exact (refectorylaw05_short.calls _ s m _ W (short_eq s m hs _ (Nat.le_refl _))).mono fun e w' ⟨he, hb⟩ => ⟨he, by first | exact hb | exact hb.below⟩
theorem short_iff (l : List UInt8) (m : Nat) : shortB l m = true ↔ valid l = true ∧ (fnums l).length ≤ m := by
  unfold shortB
  rw [Bool.and_eq_true, decide_eq_true_eq]
theorem ask_short {a b : List UInt8} (h1 : shortB a 64 = true) (h2 : shortB b 256 = true) : askE a b = 0 ∧ fitB a b = mt (fnums a) (fnums b) := by
  obtain ⟨v1, l1⟩ := (short_iff _ _).1 h1
  obtain ⟨v2, l2⟩ := (short_iff _ _).1 h2
  have e : askE a b = 0 := by
    unfold askE
    rw [if_pos ⟨v1, v2⟩, if_neg (by omega)]
  refine ⟨e, ?_⟩
  unfold fitB
  rw [if_pos e]
theorem fnums_append {a b : List UInt8} (h : valid a = true) : fnums (a ++ b) = fnums a ++ fnums b := by
  unfold fnums flet
  rw [letters_append a b h, List.map_append, List.map_append]
theorem letters_ascii : ∀ l : List UInt8, (∀ b ∈ l, b.toNat < 128) → letters l = l.map (fun b => b.toNat) := by
  intro l
  induction l with
  | nil => intro _; rfl
  | cons b t ih =>
    intro h
    have hb := h b List.mem_cons_self
    have e : b :: t = enc b.toNat ++ t := by
      unfold enc
      rw [if_pos hb]
      simp
    have hi : IsLetter b.toNat := .inl (by omega)
    have := letters_enc [b.toNat] t (fun n hn => by rw [List.mem_singleton.1 hn]; exact hi)
    simp only [List.flatMap_cons, List.flatMap_nil, List.append_nil] at this
    rw [show letters (b :: t) = letters (enc b.toNat ++ t) from by rw [← e], this, ih fun c hc => h c (List.mem_cons_of_mem _ hc), List.map_cons]
    rfl
theorem valid_ascii (l : List UInt8) (h : ∀ b ∈ l, b.toNat < 128) : valid l = true := by
  rw [valid_iff, letters_ascii l h]
  intro n hn
  obtain ⟨b, hb, rfl⟩ := List.mem_map.1 hn
  exact .inl (by have := h b hb; omega)
theorem fnums_star : fnums [42] = [42] ∧ valid [42] = true := by decide +kernel
theorem fnums_marks (k : Nat) : fnums (List.replicate k 63) = List.replicate k 63 ∧ valid (List.replicate k 63) = true := by
  have h : ∀ b ∈ List.replicate k (63 : UInt8), b.toNat < 128 := fun b hb => by rw [List.eq_of_mem_replicate hb]; decide
  refine ⟨?_, valid_ascii _ h⟩
  unfold fnums flet
  rw [letters_ascii _ h]
  simp [foldN]

/-- Patterns that are put together. -/
theorem joins_law {p q s t b : List UInt8} (h1 : shortB (p ++ q) 60 = true) (h2 : shortB (s ++ b ++ t) 256 = true) (h3 : shortB p 64 = true) (h4 : shortB q 64 = true) (h5 : shortB s 256 = true) (h6 : shortB t 256 = true) (h7 : shortB b 256 = true) :
    askE (p ++ q) (s ++ t) = 0 ∧ askE (p ++ [42] ++ q) (s ++ b ++ t) = 0 ∧ (fitB p s = true → fitB q t = true → fitB (p ++ q) (s ++ t) = true ∧ fitB (p ++ [42] ++ q) (s ++ b ++ t) = true) := by
  obtain ⟨vp, lp⟩ := (short_iff _ _).1 h3
  obtain ⟨vq, lq⟩ := (short_iff _ _).1 h4
  obtain ⟨vs, ls⟩ := (short_iff _ _).1 h5
  obtain ⟨vt, lt⟩ := (short_iff _ _).1 h6
  obtain ⟨vb, lb⟩ := (short_iff _ _).1 h7
  obtain ⟨_, l1⟩ := (short_iff _ _).1 h1
  obtain ⟨v2, l2⟩ := (short_iff _ _).1 h2
  have v3 : valid (s ++ b) = true := by rw [valid_append s b vs, vb]
  have v4 : valid (p ++ [42]) = true := by rw [valid_append p _ vp, fnums_star.2]
  have e1 : fnums (p ++ q) = fnums p ++ fnums q := fnums_append vp
  have e2 : fnums (s ++ t) = fnums s ++ fnums t := fnums_append vs
  have e3 : fnums (p ++ [42] ++ q) = fnums p ++ [42] ++ fnums q := by rw [fnums_append v4, fnums_append vp, fnums_star.1]
  have e4 : fnums (s ++ b ++ t) = fnums s ++ fnums b ++ fnums t := by rw [fnums_append v3, fnums_append vs]
  rw [e1, List.length_append] at l1
  rw [e4, List.length_append, List.length_append] at l2
  have a1 := ask_short (a := p ++ q) (b := s ++ t) ((short_iff _ _).2 ⟨by rw [valid_append p q vp, vq], by rw [e1, List.length_append]; omega⟩) ((short_iff _ _).2 ⟨by rw [valid_append s t vs, vt], by rw [e2, List.length_append]; omega⟩)
  have a2 := ask_short (a := p ++ [42] ++ q) (b := s ++ b ++ t) ((short_iff _ _).2 ⟨by rw [valid_append _ q v4, vq], by rw [e3, List.length_append, List.length_append]; simp; omega⟩) h2
  have a3 := ask_short h3 h5
  have a4 := ask_short h4 h6
  refine ⟨a1.1, a2.1, fun f1 f2 => ?_⟩
  rw [a3.2] at f1
  rw [a4.2] at f2
  rw [a1.2, a2.2, e1, e2, e3, e4]
  refine ⟨(mt_append _ _ _).2 ⟨_, _, rfl, f1, f2⟩, (mt_append _ _ _).2 ⟨_, _, rfl, (mt_snoc_star _ _).2 ⟨_, _, rfl, f1⟩, f2⟩⟩
/-- ? alone. -/
theorem marks_law {s : List UInt8} (h : shortB s 256 = true) (k : Nat) (hk : k < 60) :
    askE (List.replicate k 63) s = 0 ∧ askE (List.replicate k 63 ++ [42]) s = 0 ∧ askE ([42] ++ List.replicate k 63) s = 0 ∧
    fitB (List.replicate k 63) s = decide ((letters s).length = k) ∧ fitB (List.replicate k 63 ++ [42]) s = decide (k ≤ (letters s).length) ∧ fitB ([42] ++ List.replicate k 63) s = decide (k ≤ (letters s).length) := by
  obtain ⟨m1, m2⟩ := fnums_marks k
  have f1 : fnums (List.replicate k 63 ++ [42]) = List.replicate k 63 ++ [42] := by rw [fnums_append m2, m1, fnums_star.1]
  have f2 : fnums ([42] ++ List.replicate k 63) = 42 :: List.replicate k 63 := by rw [fnums_append fnums_star.2, m1, fnums_star.1]; rfl
  have a1 := ask_short (a := List.replicate k 63) (b := s) ((short_iff _ _).2 ⟨m2, by rw [m1]; simp; omega⟩) h
  have a2 := ask_short (a := List.replicate k 63 ++ [42]) (b := s) ((short_iff _ _).2 ⟨by rw [valid_append _ _ m2]; exact fnums_star.2, by rw [f1]; simp; omega⟩) h
  have a3 := ask_short (a := [42] ++ List.replicate k 63) (b := s) ((short_iff _ _).2 ⟨by rw [valid_append _ _ fnums_star.2]; exact m2, by rw [f2]; simp; omega⟩) h
  refine ⟨a1.1, a2.1, a3.1, ?_, ?_, ?_⟩
  · rw [a1.2, m1, mt_marks, fnums_length]
  · rw [a2.2, f1, mt_marks_star, fnums_length]
  · rw [a3.2, f2, mt_star_marks, fnums_length]
end Go.Proofs.YtfglhnnbfmpfeaaDoor.U
