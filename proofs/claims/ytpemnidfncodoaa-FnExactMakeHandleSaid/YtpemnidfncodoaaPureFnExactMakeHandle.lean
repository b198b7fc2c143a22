/- The pure side of FnExactMakeHandle: the program's MakeHandle answers what the reference's does, for all index and generation. No condition. -/
import Derived.Test.YtpemnidfncodoaaPFnExactMakeHandlex1
import Derived.OpenShut
import Derived.Laws.BitsLemmas
set_option linter.unusedVariables false
set_option linter.unusedSimpArgs false
namespace Go.Proofs.Ytpemnidfncodoaa.Pure
open Go.RowKit Go.Proofs.Ytpemnidfncodoaa.PFnExactMakeHandle Go.Proofs.YtpemnidfncodoaaW.PrintWords Go.Proofs.YtpemnidfncodoaaW.PrintLast

theorem w64 {x : Int} (h : -9223372036854775808 ≤ x) (h' : x ≤ 9223372036854775807) : wrap64 x = x := by unfold wrap64; omega
theorem tdiv_pos {x y : Int} (h : 0 ≤ x) : Int.tdiv x y = x / y := Int.tdiv_eq_ediv_of_nonneg h
theorem tmod_pos {x y : Int} (h : 0 ≤ x) : Int.tmod x y = x % y := Int.tmod_eq_emod_of_nonneg h
theorem eq_strs {g w : Option ByteArray} {r : ByteArray} (h1 : w = some r) (h2 : g = some r) : (w.bind fun t => g.bind fun u => if u.toList = t.toList then some true else some false) = some true := by
  subst h1; subst h2; simp
theorem eq_ints {g w : Option Int} {r : Int} (h1 : w = some r) (h2 : g = some r) : (w.bind fun t => g.bind fun u => if u = t then some true else some false) = some true := by
  subst h1; subst h2; simp
theorem eq_bools {g w : Option Bool} {r : Bool} (h1 : w = some r) (h2 : g = some r) : (w.bind fun t => g.bind fun u => if (u != t) = true then some false else some true) = some true := by
  subst h1; subst h2; simp
theorem ev_strs {g w : Nat → Option ByteArray} {r : ByteArray} (h1 : Ev w r) (h2 : Ev g r) : ∃ k, ((w k).bind fun t => (g k).bind fun u => if u.toList = t.toList then some true else some false) = some true := by
  obtain ⟨K, h1⟩ := h1
  obtain ⟨L, h2⟩ := h2
  exact ⟨max K L, eq_strs (h1 _ (by omega)) (h2 _ (by omega))⟩
theorem ev2 {α β : Type} {g : Nat → Option α} {f : Nat → Option β} {a : α} {b : β} {F : α → β → Option Bool} (hg : Ev g a) (hf : Ev f b) (h : F a b = some true) : ∃ k, ((g k).bind fun t => (f k).bind fun u => F t u) = some true :=
  (Ev.bind hg (Ev.bind hf ⟨0, fun _ _ => h⟩)).rounds

theorem l1In_ (x a b : Int) : spec_l1In.f x a b = some (decide (a ≤ x ∧ x ≤ b)) := by
  unfold spec_l1In.f
  by_cases h : a ≤ x <;> simp [h]

def mkH (a b : Int) : Int := if 0 ≤ a ∧ a ≤ 62 ∧ 0 ≤ b ∧ b ≤ 9999 then (b * 64 + a + 1) * 2 else 0
theorem s_MakeHandle (a b : Int) : spec_MakeHandle.f a b = some (mkH a b) := by
  unfold spec_MakeHandle.f mkH
  simp only [l1In_, Option.bind_some, decide_eq_true_eq]
  by_cases h1 : 0 ≤ a ∧ a ≤ 62
  · by_cases h2 : 0 ≤ b ∧ b ≤ 9999
    · rw [if_pos h1, if_pos h2, if_pos ⟨h1.1, h1.2, h2.1, h2.2⟩]
      congr 1
      unfold wrap64
      omega
    · rw [if_pos h1, if_neg h2, if_neg (by omega)]
  · rw [if_neg h1, if_neg (by omega)]
theorem i_MakeHandle (a b : Int) : impl_MakeHandle.f a b = some (mkH a b) := by
  unfold impl_MakeHandle.f mkH
  by_cases h1 : 0 ≤ a ∧ a ≤ 62 ∧ 0 ≤ b ∧ b ≤ 9999
  · rw [if_neg (by omega), if_neg (by omega), if_neg (by omega), if_neg (by omega), if_pos h1]
    congr 1
    unfold wrap64
    omega
  · rw [if_neg h1]
    repeat' split
    all_goals first | rfl | omega

theorem FnExactMakeHandle : laws_FnExactMakeHandle.Pure := by
  intro a0 a1 _ _
  exact eq_ints (s_MakeHandle a0 a1) (i_MakeHandle a0 a1)

end Go.Proofs.Ytpemnidfncodoaa.Pure
