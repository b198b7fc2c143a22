/- The pure side of FnExactNewCells: the program's NewCells answers what the reference's does, for every configuration, in cells of its own. No condition. -/
import Derived.Test.YtlbbnepkdhlgmabPFnExactNewCellsx2
import Derived.OpenShut
import Derived.Laws.BitsLemmas
set_option linter.unusedVariables false
set_option linter.unusedSimpArgs false
namespace Go.Proofs.Ytlbbnepkdhlgmab.Pure
open Go.RowKit Go.Proofs.Ytlbbnepkdhlgmab.PFnExactNewCells Go.Proofs.YtlbbnepkdhlgmabW.PrintWords Go.Proofs.YtlbbnepkdhlgmabW.PrintLast

theorem w64 {x : Int} (h : -9223372036854775808 ≤ x) (h' : x ≤ 9223372036854775807) : wrap64 x = x := by unfold wrap64; omega
theorem tdiv_pos {x y : Int} (h : 0 ≤ x) : Int.tdiv x y = x / y := Int.tdiv_eq_ediv_of_nonneg h
theorem tmod_pos {x y : Int} (h : 0 ≤ x) : Int.tmod x y = x % y := Int.tmod_eq_emod_of_nonneg h
theorem eq_strs {g w : Option ByteArray} {r : ByteArray} (h1 : w = some r) (h2 : g = some r) : (w.bind fun t => g.bind fun u => if u.toList = t.toList then some true else some false) = some true := by
  subst h1; subst h2; simp
theorem eq_ints {g w : Option Int} {r : Int} (h1 : w = some r) (h2 : g = some r) : (w.bind fun t => g.bind fun u => if u = t then some true else some false) = some true := by
  subst h1; subst h2; simp
theorem eq_bools {g w : Option Bool} {r : Bool} (h1 : w = some r) (h2 : g = some r) : (w.bind fun t => g.bind fun u => if (u != t) = true then some false else some true) = some true := by
  subst h1; subst h2; simp
theorem ev_strs {g w : Nat → Option ByteArray} {r : ByteArray} (h1 : Ev w r) (h2 : Ev g r) : ∃ k, ((w k).bind fun t => (g k).bind fun u => if u.toList = t.toList then some true else some false) = some true := by
  obtain ⟨K, h1⟩ := h1
  obtain ⟨L, h2⟩ := h2
  exact ⟨max K L, eq_strs (h1 _ (by omega)) (h2 _ (by omega))⟩
theorem ev2 {α β : Type} {g : Nat → Option α} {f : Nat → Option β} {a : α} {b : β} {F : α → β → Option Bool} (hg : Ev g a) (hf : Ev f b) (h : F a b = some true) : ∃ k, ((g k).bind fun t => (f k).bind fun u => F t u) = some true :=
  (Ev.bind hg (Ev.bind hf ⟨0, fun _ _ => h⟩)).rounds
theorem rd_eq (l : List Int) (i : Nat) (h : i < l.length) : rd l (i : Int) = l[i] := by
  unfold rd
  rw [show ((i : Int)).toNat = i by omega, List.getD_eq_getElem?_getD, List.getElem?_eq_getElem h]
  rfl

theorem l1In_ (x a b : Int) : spec_l1In.f x a b = some (decide (a ≤ x ∧ x ≤ b)) := by
  unfold spec_l1In.f
  by_cases h : a ≤ x <;> simp [h]

theorem in_ (x a b : Int) : impl_in.f x a b = some (decide (a ≤ x ∧ x ≤ b)) := by
  unfold impl_in.f
  by_cases h : a ≤ x <;> simp [h]

def isC (a b c d e f : Int) : Prop := (1 ≤ a ∧ a ≤ 4) ∧ (1 ≤ b ∧ b ≤ 4) ∧ (1 ≤ c ∧ c ≤ 24) ∧ (1 ≤ d ∧ d ≤ 4) ∧ (0 ≤ e ∧ e ≤ 2) ∧ (1 ≤ f ∧ f ≤ 99)
instance (a b c d e f : Int) : Decidable (isC a b c d e f) := by unfold isC; infer_instance
theorem s_IsConfig (a b c d e f : Int) : spec_IsConfig.f a b c d e f = some (decide (isC a b c d e f)) := by
  unfold spec_IsConfig.f isC
  simp only [l1In_, Option.bind_some, decide_eq_true_eq]
  repeat' split
  all_goals simp [*]
theorem i_IsConfig (a b c d e f : Int) : impl_IsConfig.f a b c d e f = some (decide (isC a b c d e f)) := by
  unfold impl_IsConfig.f isC
  simp only [in_, Option.bind_some, decide_eq_true_eq]
  repeat' split
  all_goals simp [*]

def cntC (a b c d e f : Int) : Int := if isC a b c d e f then 2 + 3 * a + b + 3 * c else 0
theorem s_CellCount (a b c d e f : Int) : spec_CellCount.f a b c d e f = some (cntC a b c d e f) := by
  unfold spec_CellCount.f cntC
  simp only [s_IsConfig, l1In_, Option.bind_some, decide_eq_true_eq]
  by_cases h : isC a b c d e f
  · have h' := h
    unfold isC at h'
    rw [if_pos h, if_pos h]
    congr 1
    unfold wrap64
    omega
  · rw [if_neg h, if_neg h]
theorem i_CellCount (a b c d e f : Int) : impl_CellCount.f a b c d e f = some (cntC a b c d e f) := by
  unfold impl_CellCount.f cntC
  simp only [i_IsConfig, in_, Option.bind_some, decide_eq_true_eq]
  by_cases h : isC a b c d e f
  · have h' := h
    unfold isC at h'
    rw [if_pos h, if_pos h]
    congr 1
    unfold wrap64
    omega
  · rw [if_neg h, if_neg h]

def newC (a b c d e f : Int) : List Int := if isC a b c d e f then (List.replicate (cntC a b c d e f).toNat 0).set 0 1 else []
theorem cntC_b (a b c d e f : Int) (h : isC a b c d e f) : 2 ≤ cntC a b c d e f ∧ cntC a b c d e f ≤ 90 := by
  unfold cntC
  rw [if_pos h]
  unfold isC at h
  omega
theorem newC_len (a b c d e f : Int) : (newC a b c d e f).length = (cntC a b c d e f).toNat := by
  unfold newC
  by_cases h : isC a b c d e f
  · rw [if_pos h]; simp
  · rw [if_neg h]
    unfold cntC
    rw [if_neg h]
    rfl
theorem newC_small (a b c d e f : Int) : (newC a b c d e f).length ≤ 90 := by
  rw [newC_len]
  by_cases h : isC a b c d e f
  · have := cntC_b a b c d e f h
    omega
  · unfold cntC
    rw [if_neg h]
    simp
theorem s_NewCells (a b c d e f : Int) : spec_NewCells.f a b c d e f = some (newC a b c d e f) := by
  unfold spec_NewCells.f newC
  simp only [s_IsConfig, s_CellCount, Option.bind_some, decide_eq_true_eq, spec_ClockCell.f]
  by_cases h : isC a b c d e f
  · have hb := cntC_b a b c d e f h
    rw [if_pos h, if_pos h, if_pos (by omega), if_pos (by omega), if_pos (by omega), if_pos (by simp; omega)]
    rfl
  · rw [if_neg h, if_neg h]
theorem i_NewCells (a b c d e f : Int) : impl_NewCells.f a b c d e f = some (newC a b c d e f) := by
  unfold impl_NewCells.f newC
  simp only [i_IsConfig, i_CellCount, Option.bind_some, decide_eq_true_eq, impl_ClockCell.f]
  by_cases h : isC a b c d e f
  · have hb := cntC_b a b c d e f h
    rw [if_pos h, if_pos h, if_pos (by omega), if_pos (by omega), if_pos (by omega), if_pos (by simp; omega)]
    rfl
  · rw [if_neg h, if_neg h]

theorem eqIntS_l (l : List Int) (hl : l.length ≤ 1048576) (d : Nat) : ∀ i : Nat, i + d = l.length → Ev (fun k => laws_eqIntS.l0 k l l i) true := by
  induction d with
  | zero =>
    intro i hi
    refine Ev.step (f := fun _ => some true) (fun k => ?_) (Ev.now _)
    simp only [laws_eqIntS.l0]
    rw [if_neg (by omega)]
  | succ d ih =>
    intro i hi
    refine Ev.step (fun k => ?_) (ih (i + 1) (by omega))
    simp only [laws_eqIntS.l0, if_true]
    rw [if_pos (by omega), if_pos (by omega), w64 (by omega) (by omega), if_pos (by omega)]
    rfl
theorem eqIntS_refl (l : List Int) (hl : l.length ≤ 1048576) : Ev (fun k => laws_eqIntS.f k l l) true := by
  unfold laws_eqIntS.f
  simp only [if_true]
  exact eqIntS_l l hl l.length 0 (by omega)

def seqL (a : Int) (n : Nat) : List Int := (List.range n).map fun (j : Nat) => a + (j : Int)
theorem seqL_len (a : Int) (n : Nat) : (seqL a n).length = n := by simp [seqL]
theorem seqL_succ (a : Int) (n : Nat) : seqL a (n + 1) = seqL a n ++ [a + (n : Int)] := by simp [seqL, List.range_succ]
theorem rd_seqL (a : Int) (n i : Nat) (h : i < n) : rd (seqL a n) (i : Int) = a + (i : Int) := by
  rw [rd_eq _ _ (by rw [seqL_len]; exact h)]
  simp [seqL]
theorem markIntS_l (l : List Int) (hl : l.length ≤ 1048576) (a : Int) (h0 : 0 ≤ a) (h1 : a ≤ 4611686018427387904) (d : Nat) : ∀ i : Nat, i + d = l.length →
    Ev (fun k => laws_markIntS.l0 k (seqL a i ++ l.drop i) (a + (i : Int)) i) (a + (l.length : Int), seqL a l.length) := by
  induction d with
  | zero =>
    intro i hi
    refine Ev.step (f := fun _ => some _) (fun k => ?_) (Ev.now _)
    simp only [laws_markIntS.l0]
    rw [if_neg (by rw [List.length_append, seqL_len, List.length_drop]; omega), List.drop_eq_nil_of_le (by omega), List.append_nil, show i = l.length by omega]
  | succ d ih =>
    intro i hi
    refine Ev.step (fun k => ?_) (ih (i + 1) (by omega))
    simp only [laws_markIntS.l0]
    rw [if_pos (by rw [List.length_append, seqL_len, List.length_drop]; omega), if_pos (by omega), w64 (x := a + (i : Int) + 1) (by omega) (by omega), w64 (x := (i : Int) + 1) (by omega) (by omega)]
    congr 1
    · rw [show ((i : Int)).toNat = i by omega, List.set_append_right _ _ (by rw [seqL_len]; omega), seqL_len, Nat.sub_self, List.drop_eq_getElem_cons (by omega), List.set_cons_zero, seqL_succ, List.append_assoc]
      rfl
    · omega
theorem markIntS (l : List Int) (hl : l.length ≤ 1048576) (a : Int) (h0 : 0 ≤ a) (h1 : a ≤ 4611686018427387904) : Ev (fun k => laws_markIntS.f k l a) (a + (l.length : Int), seqL a l.length) := by
  have := markIntS_l l hl a h0 h1 l.length 0 (by omega)
  simpa [laws_markIntS.f, seqL] using this
theorem heldIntS_l (n : Nat) (hl : n ≤ 1048576) (a : Int) (h0 : 0 ≤ a) (h1 : a ≤ 4611686018427387904) (d : Nat) : ∀ i : Nat, i + d = n →
    Ev (fun k => laws_heldIntS.l0 k (seqL a n) (a + (i : Int)) i) (a + (n : Int)) := by
  induction d with
  | zero =>
    intro i hi
    refine Ev.step (f := fun _ => some _) (fun k => ?_) (Ev.now _)
    simp only [laws_heldIntS.l0]
    rw [if_neg (by rw [seqL_len]; omega), show i = n by omega]
  | succ d ih =>
    intro i hi
    refine Ev.step (fun k => ?_) (ih (i + 1) (by omega))
    simp only [laws_heldIntS.l0]
    rw [if_pos (by rw [seqL_len]; omega), if_pos (by omega), rd_seqL a n i (by omega), if_pos rfl, w64 (x := a + (i : Int) + 1) (by omega) (by omega), w64 (x := (i : Int) + 1) (by omega) (by omega)]
    congr 1
    omega
theorem heldIntS (n : Nat) (hl : n ≤ 1048576) (a : Int) (h0 : 0 ≤ a) (h1 : a ≤ 4611686018427387904) : Ev (fun k => laws_heldIntS.f k (seqL a n) a) (a + (n : Int)) := by
  have := heldIntS_l n hl a h0 h1 n 0 (by omega)
  simpa [laws_heldIntS.f] using this

theorem FnExactNewCells : ∀ a b c d e f : Int, (Lit.int .i64 a).wf = true → (Lit.int .i64 b).wf = true → (Lit.int .i64 c).wf = true → (Lit.int .i64 d).wf = true → (Lit.int .i64 e).wf = true → (Lit.int .i64 f).wf = true → ∃ k, laws_FnExactNewCells.f k a b c d e f = some true := by
  intro a b c d e f _ _ _ _ _ _
  unfold laws_FnExactNewCells.f laws_toConfig.f
  simp only [Option.bind_some, s_NewCells, i_NewCells]
  have hl := newC_small a b c d e f
  generalize newC a b c d e f = l at hl
  refine (Ev.bind (eqIntS_refl l (by omega)) ?_).rounds
  simp only [if_true]
  refine Ev.bind (markIntS l (by omega) 1 (by omega) (by omega)) ?_
  refine Ev.bind (heldIntS l.length (by omega) 1 (by omega) (by omega)) ?_
  simp only [if_neg (show ¬ (1 + (l.length : Int) < 0) by omega), if_true]
  refine Ev.bind (eqIntS_refl l (by omega)) ?_
  simp only [if_true]
  refine Ev.bind (heldIntS l.length (by omega) 1 (by omega) (by omega)) ?_
  simp only [if_neg (show ¬ (1 + (l.length : Int) < 0) by omega), if_true]
  exact Ev.now _

end Go.Proofs.Ytlbbnepkdhlgmab.Pure
