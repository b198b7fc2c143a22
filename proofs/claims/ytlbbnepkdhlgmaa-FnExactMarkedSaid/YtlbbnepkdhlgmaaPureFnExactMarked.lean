/- The pure side of FnExactMarked: the program's Marked answers what the reference's does, for every number. No condition. -/
import Derived.Test.YtlbbnepkdhlgmaaPFnExactMarkedx1
import Derived.OpenShut
import Derived.Laws.BitsLemmas
set_option linter.unusedVariables false
set_option linter.unusedSimpArgs false
namespace Go.Proofs.Ytlbbnepkdhlgmaa.Pure
open Go.RowKit Go.Proofs.Ytlbbnepkdhlgmaa.PFnExactMarked Go.Proofs.YtlbbnepkdhlgmaaW.PrintWords Go.Proofs.YtlbbnepkdhlgmaaW.PrintLast

theorem w64 {x : Int} (h : -9223372036854775808 ≤ x) (h' : x ≤ 9223372036854775807) : wrap64 x = x := by unfold wrap64; omega
theorem tdiv_pos {x y : Int} (h : 0 ≤ x) : Int.tdiv x y = x / y := Int.tdiv_eq_ediv_of_nonneg h
theorem tmod_pos {x y : Int} (h : 0 ≤ x) : Int.tmod x y = x % y := Int.tmod_eq_emod_of_nonneg h
theorem eq_strs {g w : Option ByteArray} {r : ByteArray} (h1 : w = some r) (h2 : g = some r) : (w.bind fun t => g.bind fun u => if u.toList = t.toList then some true else some false) = some true := by
  subst h1; subst h2; simp
theorem eq_ints {g w : Option Int} {r : Int} (h1 : w = some r) (h2 : g = some r) : (w.bind fun t => g.bind fun u => if u = t then some true else some false) = some true := by
  subst h1; subst h2; simp
theorem eq_bools {g w : Option Bool} {r : Bool} (h1 : w = some r) (h2 : g = some r) : (w.bind fun t => g.bind fun u => if (u != t) = true then some false else some true) = some true := by
  subst h1; subst h2; simp
theorem ev_strs {g w : Nat → Option ByteArray} {r : ByteArray} (h1 : Ev w r) (h2 : Ev g r) : ∃ k, ((w k).bind fun t => (g k).bind fun u => if u.toList = t.toList then some true else some false) = some true := by
  obtain ⟨K, h1⟩ := h1
  obtain ⟨L, h2⟩ := h2
  exact ⟨max K L, eq_strs (h1 _ (by omega)) (h2 _ (by omega))⟩
theorem ev2 {α β : Type} {g : Nat → Option α} {f : Nat → Option β} {a : α} {b : β} {F : α → β → Option Bool} (hg : Ev g a) (hf : Ev f b) (h : F a b = some true) : ∃ k, ((g k).bind fun t => (f k).bind fun u => F t u) = some true :=
  (Ev.bind hg (Ev.bind hf ⟨0, fun _ _ => h⟩)).rounds
theorem rd_eq (l : List Int) (i : Nat) (h : i < l.length) : rd l (i : Int) = l[i] := by
  unfold rd
  rw [show ((i : Int)).toNat = i by omega, List.getD_eq_getElem?_getD, List.getElem?_eq_getElem h]
  rfl

def isH (h : Int) : Prop := 2 ≤ h ∧ h / 2 % 64 ≠ 0 ∧ h / 2 / 64 ≤ 9999
instance (h : Int) : Decidable (isH h) := by unfold isH; infer_instance
theorem s_IsHandle (h : Int) (h1 : h ≤ 9223372036854775807) : spec_IsHandle.f h = some (decide (isH h)) := by
  unfold spec_IsHandle.f isH
  by_cases h2 : h > 1
  · rw [if_pos h2, tdiv_pos (by omega), w64 (by omega) (by omega), tmod_pos (by omega), tdiv_pos (by omega), w64 (by omega) (by omega)]
    by_cases h3 : h / 2 % 64 > 0
    · rw [if_pos h3]
      congr 1
      exact decide_eq_decide.2 (by omega)
    · rw [if_neg h3]
      exact congrArg some (decide_eq_false (by omega)).symm
  · rw [if_neg h2]
    exact congrArg some (decide_eq_false (by omega)).symm

theorem i_parts (h : Int) (h1 : h ≤ 9223372036854775807) : impl_parts.f h = some (if isH h then (h / 2 % 64 - 1, h / 2 / 64, true) else (-1, -1, false)) := by
  unfold impl_parts.f
  by_cases h2 : h < 2
  · rw [if_pos h2, if_neg (by unfold isH; omega)]
  · rw [if_neg h2, tdiv_pos (by omega), w64 (x := h / 2) (by omega) (by omega), w64 (x := h / 2 - 1) (by omega) (by omega), tmod_pos (by omega), tdiv_pos (by omega), w64 (by omega) (by omega)]
    by_cases h3 : isH h
    · rw [if_pos h3]
      unfold isH at h3
      rw [if_neg (by omega), if_neg (by omega)]
      have e1 : (h / 2 - 1) % 64 = h / 2 % 64 - 1 := by omega
      have e2 : (h / 2 - 1) / 64 = h / 2 / 64 := by omega
      rw [e1, e2]
    · rw [if_neg h3]
      unfold isH at h3
      repeat' split
      all_goals first | rfl | omega

theorem i_IsHandle (h : Int) (h1 : h ≤ 9223372036854775807) : impl_IsHandle.f h = some (decide (isH h)) := by
  unfold impl_IsHandle.f
  rw [i_parts h h1]
  by_cases h2 : isH h <;> simp [h2]

def mrk (h : Int) : Int := if h = 0 ∨ isH h ∧ h % 2 = 0 then h + 1 else h
theorem s_Marked (h : Int) (h1 : h ≤ 9223372036854775807) : spec_Marked.f h = some (mrk h) := by
  unfold spec_Marked.f mrk
  by_cases h2 : h = 0
  · rw [if_pos h2, if_pos (.inl h2), w64 (by omega) (by omega)]
  · rw [if_neg h2, s_IsHandle h h1]
    simp only [Option.bind_some, decide_eq_true_eq]
    by_cases h3 : isH h
    · have h4 := h3
      unfold isH at h4
      rw [if_pos h3, tmod_pos (x := h) (by omega)]
      by_cases h5 : h % 2 = 0
      · rw [if_pos h5, if_pos (.inr ⟨h3, h5⟩), w64 (by omega) (by omega)]
      · rw [if_neg h5, if_neg (fun x => x.elim h2 (fun y => h5 y.2))]
    · rw [if_neg h3, if_neg (fun x => x.elim h2 (fun y => h3 y.1))]
theorem i_Marked (h : Int) (h1 : h ≤ 9223372036854775807) : impl_Marked.f h = some (mrk h) := by
  unfold impl_Marked.f mrk
  by_cases h2 : h = 0
  · rw [if_pos h2, if_pos (.inl h2), w64 (by omega) (by omega)]
  · rw [if_neg h2, i_IsHandle h h1]
    simp only [Option.bind_some, decide_eq_true_eq]
    by_cases h3 : isH h
    · have h4 := h3
      unfold isH at h4
      rw [if_pos h3, tmod_pos (x := h) (by omega)]
      by_cases h5 : h % 2 = 0
      · rw [if_pos h5, if_pos (.inr ⟨h3, h5⟩), w64 (by omega) (by omega)]
      · rw [if_neg h5, if_neg (fun x => x.elim h2 (fun y => h5 y.2))]
    · rw [if_neg h3, if_neg (fun x => x.elim h2 (fun y => h3 y.1))]

theorem FnExactMarked : laws_FnExactMarked.Pure := by
  intro a0 w
  have h := (bounds_i64 w).2
  exact eq_ints (s_Marked a0 h) (i_Marked a0 h)

end Go.Proofs.Ytlbbnepkdhlgmaa.Pure
