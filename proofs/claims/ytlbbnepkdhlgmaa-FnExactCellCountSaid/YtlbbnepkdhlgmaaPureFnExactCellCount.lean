/- The pure side of FnExactCellCount: the program's CellCount answers what the reference's does, for all arguments. No condition. -/
import Derived.Test.YtlbbnepkdhlgmaaPFnExactCellCountx1
import Derived.OpenShut
import Derived.Laws.BitsLemmas
set_option linter.unusedVariables false
set_option linter.unusedSimpArgs false
namespace Go.Proofs.Ytlbbnepkdhlgmaa.Pure
open Go.RowKit Go.Proofs.Ytlbbnepkdhlgmaa.PFnExactCellCount Go.Proofs.YtlbbnepkdhlgmaaW.PrintWords Go.Proofs.YtlbbnepkdhlgmaaW.PrintLast

theorem w64 {x : Int} (h : -9223372036854775808 ≤ x) (h' : x ≤ 9223372036854775807) : wrap64 x = x := by unfold wrap64; omega
theorem tdiv_pos {x y : Int} (h : 0 ≤ x) : Int.tdiv x y = x / y := Int.tdiv_eq_ediv_of_nonneg h
theorem tmod_pos {x y : Int} (h : 0 ≤ x) : Int.tmod x y = x % y := Int.tmod_eq_emod_of_nonneg h
theorem eq_strs {g w : Option ByteArray} {r : ByteArray} (h1 : w = some r) (h2 : g = some r) : (w.bind fun t => g.bind fun u => if u.toList = t.toList then some true else some false) = some true := by
  subst h1; subst h2; simp
theorem eq_ints {g w : Option Int} {r : Int} (h1 : w = some r) (h2 : g = some r) : (w.bind fun t => g.bind fun u => if u = t then some true else some false) = some true := by
  subst h1; subst h2; simp
theorem eq_bools {g w : Option Bool} {r : Bool} (h1 : w = some r) (h2 : g = some r) : (w.bind fun t => g.bind fun u => if (u != t) = true then some false else some true) = some true := by
  subst h1; subst h2; simp
theorem ev_strs {g w : Nat → Option ByteArray} {r : ByteArray} (h1 : Ev w r) (h2 : Ev g r) : ∃ k, ((w k).bind fun t => (g k).bind fun u => if u.toList = t.toList then some true else some false) = some true := by
  obtain ⟨K, h1⟩ := h1
  obtain ⟨L, h2⟩ := h2
  exact ⟨max K L, eq_strs (h1 _ (by omega)) (h2 _ (by omega))⟩
theorem ev2 {α β : Type} {g : Nat → Option α} {f : Nat → Option β} {a : α} {b : β} {F : α → β → Option Bool} (hg : Ev g a) (hf : Ev f b) (h : F a b = some true) : ∃ k, ((g k).bind fun t => (f k).bind fun u => F t u) = some true :=
  (Ev.bind hg (Ev.bind hf ⟨0, fun _ _ => h⟩)).rounds
theorem rd_eq (l : List Int) (i : Nat) (h : i < l.length) : rd l (i : Int) = l[i] := by
  unfold rd
  rw [show ((i : Int)).toNat = i by omega, List.getD_eq_getElem?_getD, List.getElem?_eq_getElem h]
  rfl

theorem l1In_ (x a b : Int) : spec_l1In.f x a b = some (decide (a ≤ x ∧ x ≤ b)) := by
  unfold spec_l1In.f
  by_cases h : a ≤ x <;> simp [h]

theorem in_ (x a b : Int) : impl_in.f x a b = some (decide (a ≤ x ∧ x ≤ b)) := by
  unfold impl_in.f
  by_cases h : a ≤ x <;> simp [h]

def isC (a b c d e f : Int) : Prop := (1 ≤ a ∧ a ≤ 4) ∧ (1 ≤ b ∧ b ≤ 4) ∧ (1 ≤ c ∧ c ≤ 24) ∧ (1 ≤ d ∧ d ≤ 4) ∧ (0 ≤ e ∧ e ≤ 2) ∧ (1 ≤ f ∧ f ≤ 99)
instance (a b c d e f : Int) : Decidable (isC a b c d e f) := by unfold isC; infer_instance
theorem s_IsConfig (a b c d e f : Int) : spec_IsConfig.f a b c d e f = some (decide (isC a b c d e f)) := by
  unfold spec_IsConfig.f isC
  simp only [l1In_, Option.bind_some, decide_eq_true_eq]
  repeat' split
  all_goals simp [*]
theorem i_IsConfig (a b c d e f : Int) : impl_IsConfig.f a b c d e f = some (decide (isC a b c d e f)) := by
  unfold impl_IsConfig.f isC
  simp only [in_, Option.bind_some, decide_eq_true_eq]
  repeat' split
  all_goals simp [*]

def cntC (a b c d e f : Int) : Int := if isC a b c d e f then 2 + 3 * a + b + 3 * c else 0
theorem s_CellCount (a b c d e f : Int) : spec_CellCount.f a b c d e f = some (cntC a b c d e f) := by
  unfold spec_CellCount.f cntC
  simp only [s_IsConfig, l1In_, Option.bind_some, decide_eq_true_eq]
  by_cases h : isC a b c d e f
  · have h' := h
    unfold isC at h'
    rw [if_pos h, if_pos h]
    congr 1
    unfold wrap64
    omega
  · rw [if_neg h, if_neg h]
theorem i_CellCount (a b c d e f : Int) : impl_CellCount.f a b c d e f = some (cntC a b c d e f) := by
  unfold impl_CellCount.f cntC
  simp only [i_IsConfig, in_, Option.bind_some, decide_eq_true_eq]
  by_cases h : isC a b c d e f
  · have h' := h
    unfold isC at h'
    rw [if_pos h, if_pos h]
    congr 1
    unfold wrap64
    omega
  · rw [if_neg h, if_neg h]

theorem FnExactCellCount : ∀ a b c d e f : Int, (Lit.int .i64 a).wf = true → (Lit.int .i64 b).wf = true → (Lit.int .i64 c).wf = true → (Lit.int .i64 d).wf = true → (Lit.int .i64 e).wf = true → (Lit.int .i64 f).wf = true → laws_FnExactCellCount.f a b c d e f = some true := by
  intro a b c d e f _ _ _ _ _ _
  unfold laws_FnExactCellCount.f laws_toConfig.f
  simp only [Option.bind_some]
  exact eq_ints (s_CellCount a b c d e f) (i_CellCount a b c d e f)

end Go.Proofs.Ytlbbnepkdhlgmaa.Pure
