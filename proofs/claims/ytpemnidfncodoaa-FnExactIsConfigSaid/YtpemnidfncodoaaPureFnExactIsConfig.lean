/- The pure side of FnExactIsConfig: the program's IsConfig answers what the reference's does, for every configuration. No condition. -/
import Derived.Test.YtpemnidfncodoaaPFnExactIsConfigx1
import Derived.OpenShut
import Derived.Laws.BitsLemmas
set_option linter.unusedVariables false
set_option linter.unusedSimpArgs false
namespace Go.Proofs.Ytpemnidfncodoaa.Pure
open Go.RowKit Go.Proofs.Ytpemnidfncodoaa.PFnExactIsConfig Go.Proofs.YtpemnidfncodoaaW.PrintWords Go.Proofs.YtpemnidfncodoaaW.PrintLast

theorem w64 {x : Int} (h : -9223372036854775808 ≤ x) (h' : x ≤ 9223372036854775807) : wrap64 x = x := by unfold wrap64; omega
theorem tdiv_pos {x y : Int} (h : 0 ≤ x) : Int.tdiv x y = x / y := Int.tdiv_eq_ediv_of_nonneg h
theorem tmod_pos {x y : Int} (h : 0 ≤ x) : Int.tmod x y = x % y := Int.tmod_eq_emod_of_nonneg h
theorem eq_strs {g w : Option ByteArray} {r : ByteArray} (h1 : w = some r) (h2 : g = some r) : (w.bind fun t => g.bind fun u => if u.toList = t.toList then some true else some false) = some true := by
  subst h1; subst h2; simp
theorem eq_ints {g w : Option Int} {r : Int} (h1 : w = some r) (h2 : g = some r) : (w.bind fun t => g.bind fun u => if u = t then some true else some false) = some true := by
  subst h1; subst h2; simp
theorem eq_bools {g w : Option Bool} {r : Bool} (h1 : w = some r) (h2 : g = some r) : (w.bind fun t => g.bind fun u => if (u != t) = true then some false else some true) = some true := by
  subst h1; subst h2; simp
theorem ev_strs {g w : Nat → Option ByteArray} {r : ByteArray} (h1 : Ev w r) (h2 : Ev g r) : ∃ k, ((w k).bind fun t => (g k).bind fun u => if u.toList = t.toList then some true else some false) = some true := by
  obtain ⟨K, h1⟩ := h1
  obtain ⟨L, h2⟩ := h2
  exact ⟨max K L, eq_strs (h1 _ (by omega)) (h2 _ (by omega))⟩
theorem ev2 {α β : Type} {g : Nat → Option α} {f : Nat → Option β} {a : α} {b : β} {F : α → β → Option Bool} (hg : Ev g a) (hf : Ev f b) (h : F a b = some true) : ∃ k, ((g k).bind fun t => (f k).bind fun u => F t u) = some true :=
  (Ev.bind hg (Ev.bind hf ⟨0, fun _ _ => h⟩)).rounds

theorem l1In_ (x a b : Int) : spec_l1In.f x a b = some (decide (a ≤ x ∧ x ≤ b)) := by
  unfold spec_l1In.f
  by_cases h : a ≤ x <;> simp [h]

theorem in_ (x a b : Int) : impl_in.f x a b = some (decide (a ≤ x ∧ x ≤ b)) := by
  unfold impl_in.f
  by_cases h : a ≤ x <;> simp [h]

theorem s_IsConfig (a b c d e f : Int) : spec_IsConfig.f a b c d e f = some (decide ((1 ≤ a ∧ a ≤ 4) ∧ (1 ≤ b ∧ b ≤ 4) ∧ (1 ≤ c ∧ c ≤ 24) ∧ (1 ≤ d ∧ d ≤ 4) ∧ (0 ≤ e ∧ e ≤ 2) ∧ (1 ≤ f ∧ f ≤ 99))) := by
  unfold spec_IsConfig.f
  simp only [l1In_, Option.bind_some, decide_eq_true_eq]
  repeat' split
  all_goals simp [*]
theorem i_IsConfig (a b c d e f : Int) : impl_IsConfig.f a b c d e f = some (decide ((1 ≤ a ∧ a ≤ 4) ∧ (1 ≤ b ∧ b ≤ 4) ∧ (1 ≤ c ∧ c ≤ 24) ∧ (1 ≤ d ∧ d ≤ 4) ∧ (0 ≤ e ∧ e ≤ 2) ∧ (1 ≤ f ∧ f ≤ 99))) := by
  unfold impl_IsConfig.f
  simp only [in_, Option.bind_some, decide_eq_true_eq]
  repeat' split
  all_goals simp [*]
theorem FnExactIsConfig : ∀ a0 a1 a2 a3 a4 a5 : Int, (Lit.int .i64 a0).wf = true → (Lit.int .i64 a1).wf = true → (Lit.int .i64 a2).wf = true → (Lit.int .i64 a3).wf = true → (Lit.int .i64 a4).wf = true → (Lit.int .i64 a5).wf = true → laws_FnExactIsConfig.f a0 a1 a2 a3 a4 a5 = some true := by
  intro a b c d e f _ _ _ _ _ _
  unfold laws_FnExactIsConfig.f laws_toConfig.f
  simp only [Option.bind_some]
  exact eq_bools (s_IsConfig a b c d e f) (i_IsConfig a b c d e f)

end Go.Proofs.Ytpemnidfncodoaa.Pure
