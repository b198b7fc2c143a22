/- The pure side of FnExactIsOp: the program's IsOp answers what the reference's does, for every operation. No condition. -/
import Derived.Test.YtlbbnepkdhlgmaaPFnExactIsOpx1
import Derived.OpenShut
import Derived.Laws.BitsLemmas
set_option linter.unusedVariables false
set_option linter.unusedSimpArgs false
namespace Go.Proofs.Ytlbbnepkdhlgmaa.Pure
open Go.RowKit Go.Proofs.Ytlbbnepkdhlgmaa.PFnExactIsOp Go.Proofs.YtlbbnepkdhlgmaaW.PrintWords Go.Proofs.YtlbbnepkdhlgmaaW.PrintLast

theorem w64 {x : Int} (h : -9223372036854775808 ≤ x) (h' : x ≤ 9223372036854775807) : wrap64 x = x := by unfold wrap64; omega
theorem tdiv_pos {x y : Int} (h : 0 ≤ x) : Int.tdiv x y = x / y := Int.tdiv_eq_ediv_of_nonneg h
theorem tmod_pos {x y : Int} (h : 0 ≤ x) : Int.tmod x y = x % y := Int.tmod_eq_emod_of_nonneg h
theorem eq_strs {g w : Option ByteArray} {r : ByteArray} (h1 : w = some r) (h2 : g = some r) : (w.bind fun t => g.bind fun u => if u.toList = t.toList then some true else some false) = some true := by
  subst h1; subst h2; simp
theorem eq_ints {g w : Option Int} {r : Int} (h1 : w = some r) (h2 : g = some r) : (w.bind fun t => g.bind fun u => if u = t then some true else some false) = some true := by
  subst h1; subst h2; simp
theorem eq_bools {g w : Option Bool} {r : Bool} (h1 : w = some r) (h2 : g = some r) : (w.bind fun t => g.bind fun u => if (u != t) = true then some false else some true) = some true := by
  subst h1; subst h2; simp
theorem ev_strs {g w : Nat → Option ByteArray} {r : ByteArray} (h1 : Ev w r) (h2 : Ev g r) : ∃ k, ((w k).bind fun t => (g k).bind fun u => if u.toList = t.toList then some true else some false) = some true := by
  obtain ⟨K, h1⟩ := h1
  obtain ⟨L, h2⟩ := h2
  exact ⟨max K L, eq_strs (h1 _ (by omega)) (h2 _ (by omega))⟩
theorem ev2 {α β : Type} {g : Nat → Option α} {f : Nat → Option β} {a : α} {b : β} {F : α → β → Option Bool} (hg : Ev g a) (hf : Ev f b) (h : F a b = some true) : ∃ k, ((g k).bind fun t => (f k).bind fun u => F t u) = some true :=
  (Ev.bind hg (Ev.bind hf ⟨0, fun _ _ => h⟩)).rounds
theorem rd_eq (l : List Int) (i : Nat) (h : i < l.length) : rd l (i : Int) = l[i] := by
  unfold rd
  rw [show ((i : Int)).toNat = i by omega, List.getD_eq_getElem?_getD, List.getElem?_eq_getElem h]
  rfl

theorem l1In_ (x a b : Int) : spec_l1In.f x a b = some (decide (a ≤ x ∧ x ≤ b)) := by
  unfold spec_l1In.f
  by_cases h : a ≤ x <;> simp [h]

theorem in_ (x a b : Int) : impl_in.f x a b = some (decide (a ≤ x ∧ x ≤ b)) := by
  unfold impl_in.f
  by_cases h : a ≤ x <;> simp [h]

def isO (a b c : Int) : Prop := ((a = 1 ∨ a = 4 ∨ a = 5) ∧ b = 0 ∧ c = 0) ∨ (a = 2 ∧ (0 ≤ b ∧ b ≤ 9) ∧ c = 0) ∨ (a = 3 ∧ (0 ≤ b ∧ b ≤ 9) ∧ (0 ≤ c ∧ c ≤ 99))
instance (a b c : Int) : Decidable (isO a b c) := by unfold isO; infer_instance
theorem s_IsOp (a b c : Int) : Ev (fun k => spec_IsOp.f k a b c) (decide (isO a b c)) := by
  have e : ∀ k, spec_IsOp.f k a b c = spec_IsOp.j0 k a (decide (a = 1 ∨ a = 4 ∨ a = 5)) a b c := by
    intro k
    unfold spec_IsOp.f
    by_cases h1 : a = 1
    · subst h1; rfl
    · rw [if_neg h1]
      by_cases h2 : a = 4
      · subst h2; rfl
      · rw [if_neg h2]
        congr 1
        show decide (a = 5) = _
        exact decide_eq_decide.2 (by omega)
  simp only [e]
  refine Ev.step (f := fun _ => some (decide (isO a b c))) (fun k => ?_) (Ev.now _)
  simp only [spec_IsOp.j0, l1In_, Option.bind_some, decide_eq_true_eq]
  unfold isO
  repeat' split
  all_goals first
    | exact congrArg some (decide_eq_decide.2 (by omega))
    | exact congrArg some (decide_eq_true (by omega)).symm
    | exact congrArg some (decide_eq_false (by omega)).symm
    | (show some (decide (c = 0)) = _; exact congrArg some (decide_eq_decide.2 (by omega)))
theorem i_IsOp (a b c : Int) : Ev (fun k => impl_IsOp.f k a b c) (decide (isO a b c)) := by
  have e : ∀ k, impl_IsOp.f k a b c = impl_IsOp.j0 k a (decide (a = 1 ∨ a = 4 ∨ a = 5)) a b c := by
    intro k
    unfold impl_IsOp.f
    by_cases h1 : a = 1
    · subst h1; rfl
    · rw [if_neg h1]
      by_cases h2 : a = 4
      · subst h2; rfl
      · rw [if_neg h2]
        congr 1
        show decide (a = 5) = _
        exact decide_eq_decide.2 (by omega)
  simp only [e]
  refine Ev.step (f := fun _ => some (decide (isO a b c))) (fun k => ?_) (Ev.now _)
  simp only [impl_IsOp.j0, in_, Option.bind_some, decide_eq_true_eq]
  unfold isO
  repeat' split
  all_goals first
    | exact congrArg some (decide_eq_decide.2 (by omega))
    | exact congrArg some (decide_eq_true (by omega)).symm
    | exact congrArg some (decide_eq_false (by omega)).symm
    | (show some (decide (c = 0)) = _; exact congrArg some (decide_eq_decide.2 (by omega)))

theorem FnExactIsOp : ∀ a b c : Int, (Lit.int .i64 a).wf = true → (Lit.int .i64 b).wf = true → (Lit.int .i64 c).wf = true → ∃ k, laws_FnExactIsOp.f k a b c = some true := by
  intro a b c _ _ _
  unfold laws_FnExactIsOp.f laws_toOp.f
  simp only [Option.bind_some]
  exact ev2 (s_IsOp a b c) (i_IsOp a b c) (by simp)

end Go.Proofs.Ytlbbnepkdhlgmaa.Pure
