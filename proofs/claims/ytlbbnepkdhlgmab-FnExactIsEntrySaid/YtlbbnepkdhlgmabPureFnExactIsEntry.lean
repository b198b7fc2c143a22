/- The pure side of FnExactIsEntry: the program's IsEntry answers what the reference's does, for every entry. No condition. -/
import Derived.Test.YtlbbnepkdhlgmabPFnExactIsEntryx1
import Derived.OpenShut
import Derived.Laws.BitsLemmas
set_option linter.unusedVariables false
set_option linter.unusedSimpArgs false
namespace Go.Proofs.Ytlbbnepkdhlgmab.Pure
open Go.RowKit Go.Proofs.Ytlbbnepkdhlgmab.PFnExactIsEntry Go.Proofs.YtlbbnepkdhlgmabW.PrintWords Go.Proofs.YtlbbnepkdhlgmabW.PrintLast

theorem w64 {x : Int} (h : -9223372036854775808 ≤ x) (h' : x ≤ 9223372036854775807) : wrap64 x = x := by unfold wrap64; omega
theorem tdiv_pos {x y : Int} (h : 0 ≤ x) : Int.tdiv x y = x / y := Int.tdiv_eq_ediv_of_nonneg h
theorem tmod_pos {x y : Int} (h : 0 ≤ x) : Int.tmod x y = x % y := Int.tmod_eq_emod_of_nonneg h
theorem eq_strs {g w : Option ByteArray} {r : ByteArray} (h1 : w = some r) (h2 : g = some r) : (w.bind fun t => g.bind fun u => if u.toList = t.toList then some true else some false) = some true := by
  subst h1; subst h2; simp
theorem eq_ints {g w : Option Int} {r : Int} (h1 : w = some r) (h2 : g = some r) : (w.bind fun t => g.bind fun u => if u = t then some true else some false) = some true := by
  subst h1; subst h2; simp
theorem eq_bools {g w : Option Bool} {r : Bool} (h1 : w = some r) (h2 : g = some r) : (w.bind fun t => g.bind fun u => if (u != t) = true then some false else some true) = some true := by
  subst h1; subst h2; simp
theorem ev_strs {g w : Nat → Option ByteArray} {r : ByteArray} (h1 : Ev w r) (h2 : Ev g r) : ∃ k, ((w k).bind fun t => (g k).bind fun u => if u.toList = t.toList then some true else some false) = some true := by
  obtain ⟨K, h1⟩ := h1
  obtain ⟨L, h2⟩ := h2
  exact ⟨max K L, eq_strs (h1 _ (by omega)) (h2 _ (by omega))⟩
theorem ev2 {α β : Type} {g : Nat → Option α} {f : Nat → Option β} {a : α} {b : β} {F : α → β → Option Bool} (hg : Ev g a) (hf : Ev f b) (h : F a b = some true) : ∃ k, ((g k).bind fun t => (f k).bind fun u => F t u) = some true :=
  (Ev.bind hg (Ev.bind hf ⟨0, fun _ _ => h⟩)).rounds
theorem rd_eq (l : List Int) (i : Nat) (h : i < l.length) : rd l (i : Int) = l[i] := by
  unfold rd
  rw [show ((i : Int)).toNat = i by omega, List.getD_eq_getElem?_getD, List.getElem?_eq_getElem h]
  rfl

def isH (h : Int) : Prop := 2 ≤ h ∧ h / 2 % 64 ≠ 0 ∧ h / 2 / 64 ≤ 9999
instance (h : Int) : Decidable (isH h) := by unfold isH; infer_instance
theorem s_IsHandle (h : Int) (h1 : h ≤ 9223372036854775807) : spec_IsHandle.f h = some (decide (isH h)) := by
  unfold spec_IsHandle.f isH
  by_cases h2 : h > 1
  · rw [if_pos h2, tdiv_pos (by omega), w64 (by omega) (by omega), tmod_pos (by omega), tdiv_pos (by omega), w64 (by omega) (by omega)]
    by_cases h3 : h / 2 % 64 > 0
    · rw [if_pos h3]
      congr 1
      exact decide_eq_decide.2 (by omega)
    · rw [if_neg h3]
      exact congrArg some (decide_eq_false (by omega)).symm
  · rw [if_neg h2]
    exact congrArg some (decide_eq_false (by omega)).symm

theorem i_parts (h : Int) (h1 : h ≤ 9223372036854775807) : impl_parts.f h = some (if isH h then (h / 2 % 64 - 1, h / 2 / 64, true) else (-1, -1, false)) := by
  unfold impl_parts.f
  by_cases h2 : h < 2
  · rw [if_pos h2, if_neg (by unfold isH; omega)]
  · rw [if_neg h2, tdiv_pos (by omega), w64 (x := h / 2) (by omega) (by omega), w64 (x := h / 2 - 1) (by omega) (by omega), tmod_pos (by omega), tdiv_pos (by omega), w64 (by omega) (by omega)]
    by_cases h3 : isH h
    · rw [if_pos h3]
      unfold isH at h3
      rw [if_neg (by omega), if_neg (by omega)]
      have e1 : (h / 2 - 1) % 64 = h / 2 % 64 - 1 := by omega
      have e2 : (h / 2 - 1) / 64 = h / 2 / 64 := by omega
      rw [e1, e2]
    · rw [if_neg h3]
      unfold isH at h3
      repeat' split
      all_goals first | rfl | omega

theorem i_IsHandle (h : Int) (h1 : h ≤ 9223372036854775807) : impl_IsHandle.f h = some (decide (isH h)) := by
  unfold impl_IsHandle.f
  rw [i_parts h h1]
  by_cases h2 : isH h <;> simp [h2]

def isM (h : Int) : Prop := h = 1 ∨ isH h ∧ h % 2 = 1
instance (h : Int) : Decidable (isM h) := by unfold isM; infer_instance
theorem s_IsMarked (h : Int) (h1 : h ≤ 9223372036854775807) : spec_IsMarked.f h = some (decide (isM h)) := by
  unfold spec_IsMarked.f isM
  by_cases h2 : h = 1
  · simp [h2]
  · rw [if_neg h2, s_IsHandle h h1]
    simp only [Option.bind_some, decide_eq_true_eq]
    by_cases h3 : isH h
    · rw [if_pos h3, tmod_pos (by unfold isH at h3; omega)]
      by_cases h4 : h % 2 = 1 <;> simp [h2, h3, h4]
    · rw [if_neg h3]
      simp [h2, h3]
theorem i_IsMarked (h : Int) (h1 : h ≤ 9223372036854775807) : impl_IsMarked.f h = some (decide (isM h)) := by
  unfold impl_IsMarked.f isM
  by_cases h2 : h = 1
  · simp [h2]
  · rw [if_neg h2, i_IsHandle h h1]
    simp only [Option.bind_some, decide_eq_true_eq]
    by_cases h3 : isH h
    · rw [if_pos h3, tmod_pos (by unfold isH at h3; omega)]
      by_cases h4 : h % 2 = 1 <;> simp [h2, h3, h4]
    · rw [if_neg h3]
      simp [h2, h3]

theorem l1In_ (x a b : Int) : spec_l1In.f x a b = some (decide (a ≤ x ∧ x ≤ b)) := by
  unfold spec_l1In.f
  by_cases h : a ≤ x <;> simp [h]

theorem in_ (x a b : Int) : impl_in.f x a b = some (decide (a ≤ x ∧ x ≤ b)) := by
  unfold impl_in.f
  by_cases h : a ≤ x <;> simp [h]

def isE (h k lo hi : Int) : Prop := isH h ∧ ¬ isM h ∧ (0 ≤ k ∧ k ≤ 9) ∧ 1 ≤ lo ∧ lo ≤ hi ∧ hi ≤ 99
instance (h k lo hi : Int) : Decidable (isE h k lo hi) := by unfold isE; infer_instance
theorem s_IsEntry (h k lo hi : Int) (h1 : h ≤ 9223372036854775807) : spec_IsEntry.f h k lo hi = some (decide (isE h k lo hi)) := by
  unfold spec_IsEntry.f isE
  simp only [s_IsHandle h h1, s_IsMarked h h1, l1In_, Option.bind_some, decide_eq_true_eq]
  by_cases c1 : isH h <;> by_cases c2 : isM h <;> by_cases c3 : 0 ≤ k ∧ k ≤ 9 <;> by_cases c4 : 1 ≤ lo <;> by_cases c5 : lo ≤ hi <;> simp [c1, c2, c3, c4, c5]
theorem i_IsEntry (h k lo hi : Int) (h1 : h ≤ 9223372036854775807) : impl_IsEntry.f h k lo hi = some (decide (isE h k lo hi)) := by
  unfold impl_IsEntry.f isE
  simp only [i_IsHandle h h1, i_IsMarked h h1, in_, Option.bind_some, decide_eq_true_eq]
  by_cases c1 : isH h <;> by_cases c2 : isM h <;> by_cases c3 : 0 ≤ k ∧ k ≤ 9 <;> by_cases c4 : 1 ≤ lo <;> by_cases c5 : lo ≤ hi <;> simp [c1, c2, c3, c4, c5]

theorem FnExactIsEntry : ∀ a b c d : Int, (Lit.int .i64 a).wf = true → (Lit.int .i64 b).wf = true → (Lit.int .i64 c).wf = true → (Lit.int .i64 d).wf = true → laws_FnExactIsEntry.f a b c d = some true := by
  intro a b c d wa _ _ _
  have h := (bounds_i64 wa).2
  unfold laws_FnExactIsEntry.f laws_toEntry.f
  simp only [Option.bind_some]
  exact eq_bools (s_IsEntry a b c d h) (i_IsEntry a b c d h)

end Go.Proofs.Ytlbbnepkdhlgmab.Pure
