/- The pure side of FnExactIsPast: the program's IsPast answers what the reference's does, for every entry and list of stamps (the law itself answers true past 1048576 stamps). No condition. -/
import Derived.Test.YtlbbnepkdhlgmabGFnExactIsPastx1
import Derived.OpenShut
import Derived.Laws.BitsLemmas
set_option linter.unusedVariables false
set_option linter.unusedSimpArgs false
namespace Go.Proofs.Ytlbbnepkdhlgmab.Pure
open Go.RowKit Go.Proofs.Ytlbbnepkdhlgmab.GFnExactIsPast Go.Proofs.YtlbbnepkdhlgmabW.PrintWords Go.Proofs.YtlbbnepkdhlgmabW.PrintLast

theorem w64 {x : Int} (h : -9223372036854775808 ≤ x) (h' : x ≤ 9223372036854775807) : wrap64 x = x := by unfold wrap64; omega
theorem tdiv_pos {x y : Int} (h : 0 ≤ x) : Int.tdiv x y = x / y := Int.tdiv_eq_ediv_of_nonneg h
theorem tmod_pos {x y : Int} (h : 0 ≤ x) : Int.tmod x y = x % y := Int.tmod_eq_emod_of_nonneg h
theorem eq_strs {g w : Option ByteArray} {r : ByteArray} (h1 : w = some r) (h2 : g = some r) : (w.bind fun t => g.bind fun u => if u.toList = t.toList then some true else some false) = some true := by
  subst h1; subst h2; simp
theorem eq_ints {g w : Option Int} {r : Int} (h1 : w = some r) (h2 : g = some r) : (w.bind fun t => g.bind fun u => if u = t then some true else some false) = some true := by
  subst h1; subst h2; simp
theorem eq_bools {g w : Option Bool} {r : Bool} (h1 : w = some r) (h2 : g = some r) : (w.bind fun t => g.bind fun u => if (u != t) = true then some false else some true) = some true := by
  subst h1; subst h2; simp
theorem ev_strs {g w : Nat → Option ByteArray} {r : ByteArray} (h1 : Ev w r) (h2 : Ev g r) : ∃ k, ((w k).bind fun t => (g k).bind fun u => if u.toList = t.toList then some true else some false) = some true := by
  obtain ⟨K, h1⟩ := h1
  obtain ⟨L, h2⟩ := h2
  exact ⟨max K L, eq_strs (h1 _ (by omega)) (h2 _ (by omega))⟩
theorem ev2 {α β : Type} {g : Nat → Option α} {f : Nat → Option β} {a : α} {b : β} {F : α → β → Option Bool} (hg : Ev g a) (hf : Ev f b) (h : F a b = some true) : ∃ k, ((g k).bind fun t => (f k).bind fun u => F t u) = some true :=
  (Ev.bind hg (Ev.bind hf ⟨0, fun _ _ => h⟩)).rounds
theorem rd_eq (l : List Int) (i : Nat) (h : i < l.length) : rd l (i : Int) = l[i] := by
  unfold rd
  rw [show ((i : Int)).toNat = i by omega, List.getD_eq_getElem?_getD, List.getElem?_eq_getElem h]
  rfl

def isP (hi : Int) (l : List Int) : Bool := !(l.any fun n => decide (n < hi))
theorem s_IsPast_l (l : List Int) (hl : l.length ≤ 1048576) (a b lo hi : Int) (d : Nat) : ∀ i : Nat, i + d = l.length → Ev (fun k => spec_IsPast.l0 k l i a b lo hi) (isP hi (l.drop i)) := by
  induction d with
  | zero =>
    intro i h
    rw [List.drop_eq_nil_of_le (by omega)]
    refine Ev.step (f := fun _ => some _) (fun k => ?_) (Ev.now _)
    simp only [spec_IsPast.l0]
    rw [if_neg (by omega)]
    rfl
  | succ d ih =>
    intro i h
    have ih := ih (i + 1) (by omega)
    unfold isP at ih ⊢
    rw [List.drop_eq_getElem_cons (by omega), List.any_cons, ← rd_eq l i (by omega)]
    by_cases h2 : rd l i < hi
    · rw [decide_eq_true h2]
      refine Ev.step (f := fun _ => some false) (fun k => ?_) (Ev.now _)
      simp only [spec_IsPast.l0]
      rw [if_pos (by omega), if_pos (by omega), if_pos h2]
    · rw [decide_eq_false h2, Bool.false_or]
      refine Ev.step (fun k => ?_) ih
      simp only [spec_IsPast.l0]
      rw [if_pos (by omega), if_pos (by omega), if_neg h2, w64 (by omega) (by omega)]
      rfl
theorem s_IsPast (a b lo hi : Int) (l : List Int) (hl : l.length ≤ 1048576) : Ev (fun k => spec_IsPast.f k a b lo hi l) (isP hi l) := s_IsPast_l l hl a b lo hi l.length 0 (by omega)
theorem i_IsPast (a b lo hi : Int) (l : List Int) : impl_IsPast.f a b lo hi l = some (isP hi l) := rfl

theorem toIntS_l (l : List Int) (hl : l.length ≤ 1048576) (d : Nat) : ∀ i : Nat, i + d = l.length → Ev (fun k => laws_toIntS.l0 k l (l.take i ++ List.replicate d 0) i) l := by
  induction d with
  | zero =>
    intro i hi
    refine Ev.step (f := fun _ => some l) (fun k => ?_) (Ev.now _)
    simp only [laws_toIntS.l0]
    rw [if_neg (by omega), List.take_of_length_le (by omega)]
    simp
  | succ d ih =>
    intro i hi
    refine Ev.step (fun k => ?_) (ih (i + 1) (by omega))
    simp only [laws_toIntS.l0]
    have hlen : (l.take i).length = i := by rw [List.length_take]; omega
    rw [if_pos (by omega), if_pos (by omega), if_pos (by rw [List.length_append, hlen, List.length_replicate]; omega), w64 (by omega) (by omega), rd_eq l i (by omega)]
    congr 1
    rw [show ((i : Int)).toNat = i by omega, List.set_append_right _ _ (by omega), hlen, List.take_succ_eq_append_getElem (by omega), List.append_assoc]
    simp [List.replicate_succ]
theorem toIntS (l : List Int) (hl : l.length ≤ 1048576) : Ev (fun k => laws_toIntS.f k l) l := by
  unfold laws_toIntS.f
  simp only [if_pos (show 0 ≤ (l.length : Int) by omega), if_pos (show ((l.length : Int)).toNat ≤ 35184372088832 by omega)]
  exact toIntS_l l hl l.length 0 (by omega)

theorem eqIntS_l (l : List Int) (hl : l.length ≤ 1048576) (d : Nat) : ∀ i : Nat, i + d = l.length → Ev (fun k => laws_eqIntS.l0 k l l i) true := by
  induction d with
  | zero =>
    intro i hi
    refine Ev.step (f := fun _ => some true) (fun k => ?_) (Ev.now _)
    simp only [laws_eqIntS.l0]
    rw [if_neg (by omega)]
  | succ d ih =>
    intro i hi
    refine Ev.step (fun k => ?_) (ih (i + 1) (by omega))
    simp only [laws_eqIntS.l0, if_true]
    rw [if_pos (by omega), if_pos (by omega), w64 (by omega) (by omega), if_pos (by omega)]
    rfl
theorem eqIntS_refl (l : List Int) (hl : l.length ≤ 1048576) : Ev (fun k => laws_eqIntS.f k l l) true := by
  unfold laws_eqIntS.f
  simp only [if_true]
  exact eqIntS_l l hl l.length 0 (by omega)

theorem FnExactIsPast : ∀ (a b c d : Int) (l : List Int), (Lit.int .i64 a).wf = true → (Lit.int .i64 b).wf = true → (Lit.int .i64 c).wf = true → (Lit.int .i64 d).wf = true → l.length ≤ maxLen → (∀ x ∈ l, (Lit.int .i64 x).wf = true) → ∃ k, laws_FnExactIsPast.f k a b c d l = some true := by
  intro a b c d l _ _ _ _ _ _
  unfold laws_FnExactIsPast.f laws_toEntry.f
  by_cases h : (l.length : Int) > 1048576
  · exact ⟨0, by rw [if_pos h]⟩
  · have hl : l.length ≤ 1048576 := by omega
    simp only [if_neg h, Option.bind_some, i_IsPast]
    refine (Ev.bind (toIntS l hl) ?_).rounds
    refine Ev.bind (s_IsPast a b c d l hl) ?_
    refine Ev.bind (toIntS l hl) ?_
    simp only [bne_self_eq_false, Bool.false_eq_true, if_false]
    refine Ev.bind (toIntS l hl) ?_
    refine Ev.bind (eqIntS_refl l hl) ?_
    simp only [if_true]
    exact Ev.now _

end Go.Proofs.Ytlbbnepkdhlgmab.Pure
