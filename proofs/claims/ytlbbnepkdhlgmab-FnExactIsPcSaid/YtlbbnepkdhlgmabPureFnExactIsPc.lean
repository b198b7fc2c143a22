/- The pure side of FnExactIsPc: the program's IsPc answers what the reference's does, for every number. No condition. -/
import Derived.Test.YtlbbnepkdhlgmabGFnExactIsPcx1
import Derived.OpenShut
import Derived.Laws.BitsLemmas
set_option linter.unusedVariables false
set_option linter.unusedSimpArgs false
namespace Go.Proofs.Ytlbbnepkdhlgmab.Pure
open Go.RowKit Go.Proofs.Ytlbbnepkdhlgmab.GFnExactIsPc Go.Proofs.YtlbbnepkdhlgmabW.PrintWords Go.Proofs.YtlbbnepkdhlgmabW.PrintLast

theorem w64 {x : Int} (h : -9223372036854775808 ≤ x) (h' : x ≤ 9223372036854775807) : wrap64 x = x := by unfold wrap64; omega
theorem tdiv_pos {x y : Int} (h : 0 ≤ x) : Int.tdiv x y = x / y := Int.tdiv_eq_ediv_of_nonneg h
theorem tmod_pos {x y : Int} (h : 0 ≤ x) : Int.tmod x y = x % y := Int.tmod_eq_emod_of_nonneg h
theorem eq_strs {g w : Option ByteArray} {r : ByteArray} (h1 : w = some r) (h2 : g = some r) : (w.bind fun t => g.bind fun u => if u.toList = t.toList then some true else some false) = some true := by
  subst h1; subst h2; simp
theorem eq_ints {g w : Option Int} {r : Int} (h1 : w = some r) (h2 : g = some r) : (w.bind fun t => g.bind fun u => if u = t then some true else some false) = some true := by
  subst h1; subst h2; simp
theorem eq_bools {g w : Option Bool} {r : Bool} (h1 : w = some r) (h2 : g = some r) : (w.bind fun t => g.bind fun u => if (u != t) = true then some false else some true) = some true := by
  subst h1; subst h2; simp
theorem ev_strs {g w : Nat → Option ByteArray} {r : ByteArray} (h1 : Ev w r) (h2 : Ev g r) : ∃ k, ((w k).bind fun t => (g k).bind fun u => if u.toList = t.toList then some true else some false) = some true := by
  obtain ⟨K, h1⟩ := h1
  obtain ⟨L, h2⟩ := h2
  exact ⟨max K L, eq_strs (h1 _ (by omega)) (h2 _ (by omega))⟩
theorem ev2 {α β : Type} {g : Nat → Option α} {f : Nat → Option β} {a : α} {b : β} {F : α → β → Option Bool} (hg : Ev g a) (hf : Ev f b) (h : F a b = some true) : ∃ k, ((g k).bind fun t => (f k).bind fun u => F t u) = some true :=
  (Ev.bind hg (Ev.bind hf ⟨0, fun _ _ => h⟩)).rounds
theorem rd_eq (l : List Int) (i : Nat) (h : i < l.length) : rd l (i : Int) = l[i] := by
  unfold rd
  rw [show ((i : Int)).toNat = i by omega, List.getD_eq_getElem?_getD, List.getElem?_eq_getElem h]
  rfl

def pcs : List Int := spec_l7Pcs.f.getD []
def pcNames : List ByteArray := spec_l7Names.f.getD []
def pcFind : List Int → List ByteArray → Int → ByteArray
  | p :: ps, n :: ns, a => if p = a then n else pcFind ps ns a
  | [], _, _ => ⟨#[]⟩
  | _ :: _, [], _ => ⟨#[]⟩
theorem pcs_len : pcs.length = 43 ∧ pcNames.length = 43 := ⟨rfl, rfl⟩
theorem ite_step {a p : Int} {x y : ByteArray} {o : Option ByteArray} (h : o = some y) : (if a = p then some x else o) = some (if p = a then x else y) := by
  by_cases e : a = p
  · rw [if_pos e, if_pos e.symm]
  · rw [if_neg e, if_neg (fun h => e h.symm), h]
def pcN (a : Int) : ByteArray := pcFind pcs pcNames a
theorem s_PcName_l (a : Int) (d : Nat) : ∀ i : Nat, i + d = 43 → Ev (fun k => spec_PcName.l0 k a pcs i) (pcFind (pcs.drop i) (pcNames.drop i) a) := by
  have hl := pcs_len
  induction d with
  | zero =>
    intro i hi
    rw [List.drop_eq_nil_of_le (by omega), pcFind]
    refine Ev.step (f := fun _ => some _) (fun k => ?_) (Ev.now _)
    simp only [spec_PcName.l0]
    rw [if_neg (by omega)]
  | succ d ih =>
    intro i hi
    rw [List.drop_eq_getElem_cons (show i < pcs.length by omega), List.drop_eq_getElem_cons (show i < pcNames.length by omega), pcFind]
    by_cases h : pcs[i] = a
    · rw [if_pos h]
      refine Ev.step (f := fun _ => some _) (fun k => ?_) (Ev.now _)
      simp only [spec_PcName.l0]
      rw [if_pos (by omega), if_pos (by omega), rd_eq pcs i (by omega), if_pos h, show spec_l7Names.f = some pcNames from rfl]
      simp only [Option.bind_some]
      rw [if_pos (by omega)]
      unfold rdOf
      rw [show ((i : Int)).toNat = i by omega, List.getD_eq_getElem?_getD, List.getElem?_eq_getElem (by omega)]
      rfl
    · rw [if_neg h]
      refine Ev.step (fun k => ?_) (ih (i + 1) (by omega))
      simp only [spec_PcName.l0]
      rw [if_pos (by omega), if_pos (by omega), rd_eq pcs i (by omega), if_neg h, w64 (by omega) (by omega)]
      rfl
theorem s_PcName (a : Int) : Ev (fun k => spec_PcName.f k a) (pcN a) := by
  unfold spec_PcName.f
  rw [show spec_l7Pcs.f = some pcs from rfl]
  simp only [Option.bind_some]
  exact s_PcName_l a 43 0 rfl
set_option maxRecDepth 10000 in
theorem i_PcName (a : Int) : impl_PcName.f a = some (pcN a) := by
  simp only [impl_PcName.f, pcN, pcs, pcNames, spec_l7Pcs.f, spec_l7Names.f, Option.getD_some, pcFind]
  repeat (first | rfl | refine ite_step ?_)

theorem FnExactIsPc : laws_FnExactIsPc.Pure := by
  intro a _
  unfold laws_FnExactIsPc.f impl_IsPc.f
  simp only [i_PcName a, Option.bind_some]
  have h : Ev (fun k => spec_IsPc.f k a) ((pcN a).toList != ([] : List UInt8)) := by
    obtain ⟨K, h⟩ := s_PcName a
    exact ⟨K, fun k hk => by unfold spec_IsPc.f; simp only [h k hk]; rfl⟩
  refine (Ev.bind h ?_).rounds
  simp only [bne_self_eq_false, Bool.false_eq_true, if_false]
  exact Ev.now _

end Go.Proofs.Ytlbbnepkdhlgmab.Pure
