/- The pure side of FnExactCountDifferences: the program's CountDifferences answers what the reference's does, for every two lists (the law itself answers true past 1048576 cells). No condition. -/
import Derived.Test.YtlbbnepkdhlgmaaGFnExactCountDifferencesx1
import Derived.OpenShut
import Derived.Laws.BitsLemmas
set_option linter.unusedVariables false
set_option linter.unusedSimpArgs false
namespace Go.Proofs.Ytlbbnepkdhlgmaa.Pure
open Go.RowKit Go.Proofs.Ytlbbnepkdhlgmaa.GFnExactCountDifferences Go.Proofs.YtlbbnepkdhlgmaaW.PrintWords Go.Proofs.YtlbbnepkdhlgmaaW.PrintLast

theorem w64 {x : Int} (h : -9223372036854775808 ≤ x) (h' : x ≤ 9223372036854775807) : wrap64 x = x := by unfold wrap64; omega
theorem tdiv_pos {x y : Int} (h : 0 ≤ x) : Int.tdiv x y = x / y := Int.tdiv_eq_ediv_of_nonneg h
theorem tmod_pos {x y : Int} (h : 0 ≤ x) : Int.tmod x y = x % y := Int.tmod_eq_emod_of_nonneg h
theorem eq_strs {g w : Option ByteArray} {r : ByteArray} (h1 : w = some r) (h2 : g = some r) : (w.bind fun t => g.bind fun u => if u.toList = t.toList then some true else some false) = some true := by
  subst h1; subst h2; simp
theorem eq_ints {g w : Option Int} {r : Int} (h1 : w = some r) (h2 : g = some r) : (w.bind fun t => g.bind fun u => if u = t then some true else some false) = some true := by
  subst h1; subst h2; simp
theorem eq_bools {g w : Option Bool} {r : Bool} (h1 : w = some r) (h2 : g = some r) : (w.bind fun t => g.bind fun u => if (u != t) = true then some false else some true) = some true := by
  subst h1; subst h2; simp
theorem ev_strs {g w : Nat → Option ByteArray} {r : ByteArray} (h1 : Ev w r) (h2 : Ev g r) : ∃ k, ((w k).bind fun t => (g k).bind fun u => if u.toList = t.toList then some true else some false) = some true := by
  obtain ⟨K, h1⟩ := h1
  obtain ⟨L, h2⟩ := h2
  exact ⟨max K L, eq_strs (h1 _ (by omega)) (h2 _ (by omega))⟩
theorem ev2 {α β : Type} {g : Nat → Option α} {f : Nat → Option β} {a : α} {b : β} {F : α → β → Option Bool} (hg : Ev g a) (hf : Ev f b) (h : F a b = some true) : ∃ k, ((g k).bind fun t => (f k).bind fun u => F t u) = some true :=
  (Ev.bind hg (Ev.bind hf ⟨0, fun _ _ => h⟩)).rounds
theorem rd_eq (l : List Int) (i : Nat) (h : i < l.length) : rd l (i : Int) = l[i] := by
  unfold rd
  rw [show ((i : Int)).toNat = i by omega, List.getD_eq_getElem?_getD, List.getElem?_eq_getElem h]
  rfl

theorem toIntS_l (l : List Int) (hl : l.length ≤ 1048576) (d : Nat) : ∀ i : Nat, i + d = l.length → Ev (fun k => laws_toIntS.l0 k l (l.take i ++ List.replicate d 0) i) l := by
  induction d with
  | zero =>
    intro i hi
    refine Ev.step (f := fun _ => some l) (fun k => ?_) (Ev.now _)
    simp only [laws_toIntS.l0]
    rw [if_neg (by omega), List.take_of_length_le (by omega)]
    simp
  | succ d ih =>
    intro i hi
    refine Ev.step (fun k => ?_) (ih (i + 1) (by omega))
    simp only [laws_toIntS.l0]
    have hlen : (l.take i).length = i := by rw [List.length_take]; omega
    rw [if_pos (by omega), if_pos (by omega), if_pos (by rw [List.length_append, hlen, List.length_replicate]; omega), w64 (by omega) (by omega), rd_eq l i (by omega)]
    congr 1
    rw [show ((i : Int)).toNat = i by omega, List.set_append_right _ _ (by omega), hlen, List.take_succ_eq_append_getElem (by omega), List.append_assoc]
    simp [List.replicate_succ]
theorem toIntS (l : List Int) (hl : l.length ≤ 1048576) : Ev (fun k => laws_toIntS.f k l) l := by
  unfold laws_toIntS.f
  simp only [if_pos (show 0 ≤ (l.length : Int) by omega), if_pos (show ((l.length : Int)).toNat ≤ 35184372088832 by omega)]
  exact toIntS_l l hl l.length 0 (by omega)

def cdif : List Int → List Int → Nat
  | [], m => m.length
  | _ :: l, [] => l.length + 1
  | x :: l, y :: m => (if x = y then 0 else 1) + cdif l m
theorem cdif_nil (l : List Int) : cdif l [] = l.length := by cases l <;> simp [cdif]
theorem cdif_out (l m : List Int) (i : Nat) (h : i < l.length ∨ i < m.length) (h2 : l.length ≤ i ∨ m.length ≤ i) : cdif (l.drop i) (m.drop i) = cdif (l.drop (i + 1)) (m.drop (i + 1)) + 1 := by
  rcases h2 with h2 | h2
  · rw [List.drop_eq_nil_of_le h2, List.drop_eq_nil_of_le (show l.length ≤ i + 1 by omega), cdif, cdif, List.length_drop, List.length_drop]
    omega
  · rw [List.drop_eq_nil_of_le h2, List.drop_eq_nil_of_le (show m.length ≤ i + 1 by omega), cdif_nil, cdif_nil, List.length_drop, List.length_drop]
    omega
theorem cdif_in (l m : List Int) (i : Nat) (h : i < l.length) (h2 : i < m.length) : cdif (l.drop i) (m.drop i) = cdif (l.drop (i + 1)) (m.drop (i + 1)) + (if rd l i = rd m i then 0 else 1) := by
  rw [List.drop_eq_getElem_cons h, List.drop_eq_getElem_cons h2, cdif, rd_eq l i h, rd_eq m i h2]
  omega
theorem cdif_end (l m : List Int) (i : Nat) (h : l.length ≤ i) (h2 : m.length ≤ i) : cdif (l.drop i) (m.drop i) = 0 := by
  rw [List.drop_eq_nil_of_le h, List.drop_eq_nil_of_le h2]; rfl
theorem cdif_self (l : List Int) : cdif l l = 0 := by
  induction l with
  | nil => rfl
  | cons x l ih => rw [cdif, ih]; simp
theorem cdif_set (l : List Int) : ∀ (i : Nat) (v : Int), cdif l (l.set i v) ≤ 1 := by
  induction l with
  | nil => intro i v; simp [cdif]
  | cons x l ih =>
    intro i v
    cases i with
    | zero =>
      rw [List.set_cons_zero, cdif, cdif_self]
      split <;> omega
    | succ i =>
      rw [List.set_cons_succ, cdif]
      have := ih i v
      simp only [if_true]
      omega

theorem s_CountDifferences_l (l m : List Int) (hl : l.length ≤ 1048576) (hm : m.length ≤ 1048576) (d : Nat) : ∀ (i : Nat) (acc : Int), l.length ≤ i + d → m.length ≤ i + d → i ≤ 1048576 → 0 ≤ acc → acc ≤ i →
    Ev (fun k => spec_CountDifferences.l0 k l m acc i) (acc + cdif (l.drop i) (m.drop i)) := by
  have stop : ∀ (i : Nat) (acc : Int), l.length ≤ i → m.length ≤ i → Ev (fun k => spec_CountDifferences.l0 k l m acc i) (acc + cdif (l.drop i) (m.drop i)) := by
    intro i acc h1 h2
    rw [cdif_end l m i h1 h2]
    refine Ev.step (f := fun k => spec_CountDifferences.j1 k l m acc i false) (fun k => ?_) (Ev.step (f := fun _ => some _) (fun k => ?_) (Ev.now _))
    · simp only [spec_CountDifferences.l0]
      rw [if_neg (by omega), decide_eq_false (by omega)]
    · simp only [spec_CountDifferences.j1]
      simp
  induction d with
  | zero =>
    intro i acc h1 h2 _ _ _
    exact stop i acc h1 h2
  | succ d ih =>
    intro i acc h1 h2 h3 h4 h5
    by_cases h6 : l.length ≤ i ∧ m.length ≤ i
    · exact stop i acc h6.1 h6.2
    · refine Ev.step (f := fun k => spec_CountDifferences.j1 k l m acc i true) (fun k => ?_) ?_
      · simp only [spec_CountDifferences.l0]
        by_cases h7 : (i : Int) < l.length
        · rw [if_pos h7]
        · rw [if_neg h7, decide_eq_true (by omega)]
      · by_cases h7 : l.length ≤ i ∨ m.length ≤ i
        · have := ih (i + 1) (acc + 1) (by omega) (by omega) (by omega) (by omega) (by omega)
          rw [cdif_out l m i (by omega) h7]
          rw [show acc + ((cdif (l.drop (i + 1)) (m.drop (i + 1)) + 1 : Nat) : Int) = acc + 1 + (cdif (l.drop (i + 1)) (m.drop (i + 1)) : Int) by omega]
          refine Ev.step (fun k => ?_) this
          simp only [spec_CountDifferences.j1, if_true]
          rw [w64 (x := acc + 1) (by omega) (by omega), w64 (x := (i : Int) + 1) (by omega) (by omega)]
          by_cases h8 : (i : Int) ≥ l.length
          · rw [if_pos h8]; rfl
          · rw [if_neg h8, if_pos (by omega)]; rfl
        · have e := cdif_in l m i (by omega) (by omega)
          by_cases h8 : rd l i = rd m i
          · have := ih (i + 1) acc (by omega) (by omega) (by omega) (by omega) (by omega)
            rw [if_pos h8] at e
            rw [e]
            refine Ev.step (fun k => ?_) this
            simp only [spec_CountDifferences.j1, if_true]
            rw [if_neg (by omega), if_neg (by omega), if_pos (by omega), if_pos (by omega), if_pos (by omega), if_pos h8, w64 (x := (i : Int) + 1) (by omega) (by omega)]
            rfl
          · have := ih (i + 1) (acc + 1) (by omega) (by omega) (by omega) (by omega) (by omega)
            rw [if_neg h8] at e
            rw [e, show acc + ((cdif (l.drop (i + 1)) (m.drop (i + 1)) + 1 : Nat) : Int) = acc + 1 + (cdif (l.drop (i + 1)) (m.drop (i + 1)) : Int) by omega]
            refine Ev.step (fun k => ?_) this
            simp only [spec_CountDifferences.j1, if_true]
            rw [if_neg (by omega), if_neg (by omega), if_pos (by omega), if_pos (by omega), if_pos (by omega), if_neg h8, w64 (x := acc + 1) (by omega) (by omega), w64 (x := (i : Int) + 1) (by omega) (by omega)]
            rfl
theorem i_CountDifferences_l (l m : List Int) (hl : l.length ≤ 1048576) (hm : m.length ≤ 1048576) (M : Int) (hM : M = mx l.length m.length) (d : Nat) : ∀ (i : Nat) (acc : Int), l.length ≤ i + d → m.length ≤ i + d → i ≤ 1048576 → 0 ≤ acc → acc ≤ i →
    Ev (fun k => impl_CountDifferences.l0 k l m acc M i) (acc + cdif (l.drop i) (m.drop i)) := by
  have hM' : (l.length : Int) ≤ M ∧ (m.length : Int) ≤ M ∧ (M = l.length ∨ M = m.length) := by
    subst hM; unfold mx; split <;> omega
  have stop : ∀ (i : Nat) (acc : Int), l.length ≤ i → m.length ≤ i → Ev (fun k => impl_CountDifferences.l0 k l m acc M i) (acc + cdif (l.drop i) (m.drop i)) := by
    intro i acc h1 h2
    rw [cdif_end l m i h1 h2]
    refine Ev.step (f := fun _ => some _) (fun k => ?_) (Ev.now _)
    simp only [impl_CountDifferences.l0]
    rw [if_neg (by omega)]
    simp
  induction d with
  | zero =>
    intro i acc h1 h2 _ _ _
    exact stop i acc h1 h2
  | succ d ih =>
    intro i acc h1 h2 h3 h4 h5
    by_cases h6 : l.length ≤ i ∧ m.length ≤ i
    · exact stop i acc h6.1 h6.2
    · by_cases h7 : l.length ≤ i ∨ m.length ≤ i
      · have := ih (i + 1) (acc + 1) (by omega) (by omega) (by omega) (by omega) (by omega)
        rw [cdif_out l m i (by omega) h7]
        rw [show acc + ((cdif (l.drop (i + 1)) (m.drop (i + 1)) + 1 : Nat) : Int) = acc + 1 + (cdif (l.drop (i + 1)) (m.drop (i + 1)) : Int) by omega]
        refine Ev.step (fun k => ?_) this
        simp only [impl_CountDifferences.l0]
        rw [if_pos (by omega), w64 (x := acc + 1) (by omega) (by omega), w64 (x := (i : Int) + 1) (by omega) (by omega)]
        by_cases h8 : (i : Int) ≥ l.length
        · rw [if_pos h8]; rfl
        · rw [if_neg h8, if_pos (by omega)]; rfl
      · have e := cdif_in l m i (by omega) (by omega)
        by_cases h8 : rd l i = rd m i
        · have := ih (i + 1) acc (by omega) (by omega) (by omega) (by omega) (by omega)
          rw [if_pos h8] at e
          rw [e]
          refine Ev.step (fun k => ?_) this
          simp only [impl_CountDifferences.l0]
          rw [if_pos (by omega), if_neg (by omega), if_neg (by omega), if_pos (by omega), if_pos (by omega), if_pos (by omega), if_pos h8, w64 (x := (i : Int) + 1) (by omega) (by omega)]
          rfl
        · have := ih (i + 1) (acc + 1) (by omega) (by omega) (by omega) (by omega) (by omega)
          rw [if_neg h8] at e
          rw [e, show acc + ((cdif (l.drop (i + 1)) (m.drop (i + 1)) + 1 : Nat) : Int) = acc + 1 + (cdif (l.drop (i + 1)) (m.drop (i + 1)) : Int) by omega]
          refine Ev.step (fun k => ?_) this
          simp only [impl_CountDifferences.l0]
          rw [if_pos (by omega), if_neg (by omega), if_neg (by omega), if_pos (by omega), if_pos (by omega), if_pos (by omega), if_neg h8, w64 (x := acc + 1) (by omega) (by omega), w64 (x := (i : Int) + 1) (by omega) (by omega)]
          rfl
theorem s_CountDifferences (l m : List Int) (hl : l.length ≤ 1048576) (hm : m.length ≤ 1048576) : Ev (fun k => spec_CountDifferences.f k l m) (cdif l m) := by
  have := s_CountDifferences_l l m hl hm 1048576 0 0 (by omega) (by omega) (by omega) (by omega) (by omega)
  simpa [spec_CountDifferences.f] using this
theorem i_CountDifferences (l m : List Int) (hl : l.length ≤ 1048576) (hm : m.length ≤ 1048576) : Ev (fun k => impl_CountDifferences.f k l m) (cdif l m) := by
  have := i_CountDifferences_l l m hl hm _ rfl 1048576 0 0 (by omega) (by omega) (by omega) (by omega) (by omega)
  simpa [impl_CountDifferences.f] using this

theorem eqIntS_l (l : List Int) (hl : l.length ≤ 1048576) (d : Nat) : ∀ i : Nat, i + d = l.length → Ev (fun k => laws_eqIntS.l0 k l l i) true := by
  induction d with
  | zero =>
    intro i hi
    refine Ev.step (f := fun _ => some true) (fun k => ?_) (Ev.now _)
    simp only [laws_eqIntS.l0]
    rw [if_neg (by omega)]
  | succ d ih =>
    intro i hi
    refine Ev.step (fun k => ?_) (ih (i + 1) (by omega))
    simp only [laws_eqIntS.l0, if_true]
    rw [if_pos (by omega), if_pos (by omega), w64 (by omega) (by omega), if_pos (by omega)]
    rfl
theorem eqIntS_refl (l : List Int) (hl : l.length ≤ 1048576) : Ev (fun k => laws_eqIntS.f k l l) true := by
  unfold laws_eqIntS.f
  simp only [if_true]
  exact eqIntS_l l hl l.length 0 (by omega)

theorem FnExactCountDifferences : laws_FnExactCountDifferences.Pure := by
  intro l m _ _ _ _ _ _
  unfold laws_FnExactCountDifferences.f
  by_cases h : (l.length : Int) > 1048576
  · exact ⟨0, by rw [if_pos h]⟩
  · by_cases h2 : (m.length : Int) > 1048576
    · exact ⟨0, by rw [if_neg h, if_pos h2]⟩
    · have hl : l.length ≤ 1048576 := by omega
      have hm : m.length ≤ 1048576 := by omega
      simp only [if_neg h, if_neg h2]
      refine (Ev.bind (toIntS l hl) ?_).rounds
      refine Ev.bind (toIntS m hm) ?_
      refine Ev.bind (s_CountDifferences l m hl hm) ?_
      refine Ev.bind (toIntS l hl) ?_
      refine Ev.bind (toIntS m hm) ?_
      refine Ev.bind (i_CountDifferences l m hl hm) ?_
      simp only [if_true]
      refine Ev.bind (toIntS l hl) ?_
      refine Ev.bind (eqIntS_refl l hl) ?_
      simp only [if_true]
      refine Ev.bind (toIntS m hm) ?_
      refine Ev.bind (eqIntS_refl m hm) ?_
      simp only [if_true]
      exact Ev.now _

end Go.Proofs.Ytlbbnepkdhlgmaa.Pure
