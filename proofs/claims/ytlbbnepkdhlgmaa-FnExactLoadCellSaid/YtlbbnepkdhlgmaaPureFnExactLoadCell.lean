/- The pure side of FnExactLoadCell: the program's LoadCell answers what the reference's does, for every list and place (the law itself answers true past 1048576 cells). No condition. -/
import Derived.Test.YtlbbnepkdhlgmaaPFnExactLoadCellx1
import Derived.OpenShut
import Derived.Laws.BitsLemmas
set_option linter.unusedVariables false
set_option linter.unusedSimpArgs false
namespace Go.Proofs.Ytlbbnepkdhlgmaa.Pure
open Go.RowKit Go.Proofs.Ytlbbnepkdhlgmaa.PFnExactLoadCell Go.Proofs.YtlbbnepkdhlgmaaW.PrintWords Go.Proofs.YtlbbnepkdhlgmaaW.PrintLast

theorem w64 {x : Int} (h : -9223372036854775808 ≤ x) (h' : x ≤ 9223372036854775807) : wrap64 x = x := by unfold wrap64; omega
theorem tdiv_pos {x y : Int} (h : 0 ≤ x) : Int.tdiv x y = x / y := Int.tdiv_eq_ediv_of_nonneg h
theorem tmod_pos {x y : Int} (h : 0 ≤ x) : Int.tmod x y = x % y := Int.tmod_eq_emod_of_nonneg h
theorem eq_strs {g w : Option ByteArray} {r : ByteArray} (h1 : w = some r) (h2 : g = some r) : (w.bind fun t => g.bind fun u => if u.toList = t.toList then some true else some false) = some true := by
  subst h1; subst h2; simp
theorem eq_ints {g w : Option Int} {r : Int} (h1 : w = some r) (h2 : g = some r) : (w.bind fun t => g.bind fun u => if u = t then some true else some false) = some true := by
  subst h1; subst h2; simp
theorem eq_bools {g w : Option Bool} {r : Bool} (h1 : w = some r) (h2 : g = some r) : (w.bind fun t => g.bind fun u => if (u != t) = true then some false else some true) = some true := by
  subst h1; subst h2; simp
theorem ev_strs {g w : Nat → Option ByteArray} {r : ByteArray} (h1 : Ev w r) (h2 : Ev g r) : ∃ k, ((w k).bind fun t => (g k).bind fun u => if u.toList = t.toList then some true else some false) = some true := by
  obtain ⟨K, h1⟩ := h1
  obtain ⟨L, h2⟩ := h2
  exact ⟨max K L, eq_strs (h1 _ (by omega)) (h2 _ (by omega))⟩
theorem ev2 {α β : Type} {g : Nat → Option α} {f : Nat → Option β} {a : α} {b : β} {F : α → β → Option Bool} (hg : Ev g a) (hf : Ev f b) (h : F a b = some true) : ∃ k, ((g k).bind fun t => (f k).bind fun u => F t u) = some true :=
  (Ev.bind hg (Ev.bind hf ⟨0, fun _ _ => h⟩)).rounds
theorem rd_eq (l : List Int) (i : Nat) (h : i < l.length) : rd l (i : Int) = l[i] := by
  unfold rd
  rw [show ((i : Int)).toNat = i by omega, List.getD_eq_getElem?_getD, List.getElem?_eq_getElem h]
  rfl

theorem l1In_ (x a b : Int) : spec_l1In.f x a b = some (decide (a ≤ x ∧ x ≤ b)) := by
  unfold spec_l1In.f
  by_cases h : a ≤ x <;> simp [h]

theorem in_ (x a b : Int) : impl_in.f x a b = some (decide (a ≤ x ∧ x ≤ b)) := by
  unfold impl_in.f
  by_cases h : a ≤ x <;> simp [h]

def loadC (l : List Int) (a : Int) : Int × Bool := if 0 ≤ a ∧ a < l.length then (rd l a, true) else (0, false)
theorem s_LoadCell (l : List Int) (a : Int) (hl : l.length ≤ 1048576) : spec_LoadCell.f l a = some (loadC l a) := by
  unfold spec_LoadCell.f loadC
  rw [l1In_, w64 (by omega) (by omega)]
  simp only [Option.bind_some, decide_eq_true_eq]
  by_cases h : 0 ≤ a ∧ a < l.length
  · rw [if_pos (by omega), if_pos h.1, if_pos h.2, if_pos h]
  · rw [if_neg (by omega), if_neg h]
theorem i_LoadCell (l : List Int) (a : Int) (hl : l.length ≤ 1048576) : impl_LoadCell.f l a = some (loadC l a) := by
  unfold impl_LoadCell.f loadC
  rw [in_, w64 (by omega) (by omega)]
  simp only [Option.bind_some, decide_eq_true_eq]
  by_cases h : 0 ≤ a ∧ a < l.length
  · rw [if_pos (by omega), if_pos h.1, if_pos h.2, if_pos h]
  · rw [if_neg (by omega), if_neg h]

theorem toIntS_l (l : List Int) (hl : l.length ≤ 1048576) (d : Nat) : ∀ i : Nat, i + d = l.length → Ev (fun k => laws_toIntS.l0 k l (l.take i ++ List.replicate d 0) i) l := by
  induction d with
  | zero =>
    intro i hi
    refine Ev.step (f := fun _ => some l) (fun k => ?_) (Ev.now _)
    simp only [laws_toIntS.l0]
    rw [if_neg (by omega), List.take_of_length_le (by omega)]
    simp
  | succ d ih =>
    intro i hi
    refine Ev.step (fun k => ?_) (ih (i + 1) (by omega))
    simp only [laws_toIntS.l0]
    have hlen : (l.take i).length = i := by rw [List.length_take]; omega
    rw [if_pos (by omega), if_pos (by omega), if_pos (by rw [List.length_append, hlen, List.length_replicate]; omega), w64 (by omega) (by omega), rd_eq l i (by omega)]
    congr 1
    rw [show ((i : Int)).toNat = i by omega, List.set_append_right _ _ (by omega), hlen, List.take_succ_eq_append_getElem (by omega), List.append_assoc]
    simp [List.replicate_succ]
theorem toIntS (l : List Int) (hl : l.length ≤ 1048576) : Ev (fun k => laws_toIntS.f k l) l := by
  unfold laws_toIntS.f
  simp only [if_pos (show 0 ≤ (l.length : Int) by omega), if_pos (show ((l.length : Int)).toNat ≤ 35184372088832 by omega)]
  exact toIntS_l l hl l.length 0 (by omega)

theorem eqIntS_l (l : List Int) (hl : l.length ≤ 1048576) (d : Nat) : ∀ i : Nat, i + d = l.length → Ev (fun k => laws_eqIntS.l0 k l l i) true := by
  induction d with
  | zero =>
    intro i hi
    refine Ev.step (f := fun _ => some true) (fun k => ?_) (Ev.now _)
    simp only [laws_eqIntS.l0]
    rw [if_neg (by omega)]
  | succ d ih =>
    intro i hi
    refine Ev.step (fun k => ?_) (ih (i + 1) (by omega))
    simp only [laws_eqIntS.l0, if_true]
    rw [if_pos (by omega), if_pos (by omega), w64 (by omega) (by omega), if_pos (by omega)]
    rfl
theorem eqIntS_refl (l : List Int) (hl : l.length ≤ 1048576) : Ev (fun k => laws_eqIntS.f k l l) true := by
  unfold laws_eqIntS.f
  simp only [if_true]
  exact eqIntS_l l hl l.length 0 (by omega)

theorem FnExactLoadCell : laws_FnExactLoadCell.Pure := by
  intro l a _ _ _ _
  unfold laws_FnExactLoadCell.f
  by_cases h : (l.length : Int) > 1048576
  · exact ⟨0, by rw [if_pos h]⟩
  · have hl : l.length ≤ 1048576 := by omega
    simp only [if_neg h]
    refine (Ev.bind (toIntS l hl) ?_).rounds
    simp only [s_LoadCell l a hl, Option.bind_some]
    refine Ev.bind (toIntS l hl) ?_
    simp only [i_LoadCell l a hl, Option.bind_some, if_true, bne_self_eq_false]
    refine Ev.step (fun k => by simp only [laws_FnExactLoadCell.j0]; rw [if_neg (by simp)]) ?_
    refine Ev.bind (toIntS l hl) ?_
    refine Ev.bind (eqIntS_refl l hl) ?_
    simp only [if_true]
    exact Ev.now _

end Go.Proofs.Ytlbbnepkdhlgmaa.Pure
