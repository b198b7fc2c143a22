/- The pure side of FnExactSwapCell: the program's SwapCell answers what the reference's does, in cells of its own, for every list, place and value (the law itself answers true past 1048576 cells). No condition. -/
import Derived.Test.YtlbbnepkdhlgmabGFnExactSwapCellx2
import Derived.OpenShut
import Derived.Laws.BitsLemmas
set_option linter.unusedVariables false
set_option linter.unusedSimpArgs false
namespace Go.Proofs.Ytlbbnepkdhlgmab.Pure
open Go.RowKit Go.Proofs.Ytlbbnepkdhlgmab.GFnExactSwapCell Go.Proofs.YtlbbnepkdhlgmabW.PrintWords Go.Proofs.YtlbbnepkdhlgmabW.PrintLast

theorem w64 {x : Int} (h : -9223372036854775808 ≤ x) (h' : x ≤ 9223372036854775807) : wrap64 x = x := by unfold wrap64; omega
theorem tdiv_pos {x y : Int} (h : 0 ≤ x) : Int.tdiv x y = x / y := Int.tdiv_eq_ediv_of_nonneg h
theorem tmod_pos {x y : Int} (h : 0 ≤ x) : Int.tmod x y = x % y := Int.tmod_eq_emod_of_nonneg h
theorem eq_strs {g w : Option ByteArray} {r : ByteArray} (h1 : w = some r) (h2 : g = some r) : (w.bind fun t => g.bind fun u => if u.toList = t.toList then some true else some false) = some true := by
  subst h1; subst h2; simp
theorem eq_ints {g w : Option Int} {r : Int} (h1 : w = some r) (h2 : g = some r) : (w.bind fun t => g.bind fun u => if u = t then some true else some false) = some true := by
  subst h1; subst h2; simp
theorem eq_bools {g w : Option Bool} {r : Bool} (h1 : w = some r) (h2 : g = some r) : (w.bind fun t => g.bind fun u => if (u != t) = true then some false else some true) = some true := by
  subst h1; subst h2; simp
theorem ev_strs {g w : Nat → Option ByteArray} {r : ByteArray} (h1 : Ev w r) (h2 : Ev g r) : ∃ k, ((w k).bind fun t => (g k).bind fun u => if u.toList = t.toList then some true else some false) = some true := by
  obtain ⟨K, h1⟩ := h1
  obtain ⟨L, h2⟩ := h2
  exact ⟨max K L, eq_strs (h1 _ (by omega)) (h2 _ (by omega))⟩
theorem ev2 {α β : Type} {g : Nat → Option α} {f : Nat → Option β} {a : α} {b : β} {F : α → β → Option Bool} (hg : Ev g a) (hf : Ev f b) (h : F a b = some true) : ∃ k, ((g k).bind fun t => (f k).bind fun u => F t u) = some true :=
  (Ev.bind hg (Ev.bind hf ⟨0, fun _ _ => h⟩)).rounds
theorem rd_eq (l : List Int) (i : Nat) (h : i < l.length) : rd l (i : Int) = l[i] := by
  unfold rd
  rw [show ((i : Int)).toNat = i by omega, List.getD_eq_getElem?_getD, List.getElem?_eq_getElem h]
  rfl

theorem l1In_ (x a b : Int) : spec_l1In.f x a b = some (decide (a ≤ x ∧ x ≤ b)) := by
  unfold spec_l1In.f
  by_cases h : a ≤ x <;> simp [h]

theorem in_ (x a b : Int) : impl_in.f x a b = some (decide (a ≤ x ∧ x ≤ b)) := by
  unfold impl_in.f
  by_cases h : a ≤ x <;> simp [h]

def swapC (l : List Int) (a o v : Int) : List Int × Bool := if (0 ≤ a ∧ a < l.length) ∧ rd l a = o then (l.set a.toNat v, true) else (l, false)
theorem swapC_len (l : List Int) (a o v : Int) : (swapC l a o v).1.length = l.length := by
  unfold swapC
  split <;> simp
theorem s_SwapCell (l : List Int) (a o v : Int) (hl : l.length ≤ 1048576) : spec_SwapCell.f l a o v = some (swapC l a o v) := by
  unfold spec_SwapCell.f swapC
  simp only [Option.bind_some, List.nil_append, List.length_nil, l1In_, decide_eq_true_eq]
  rw [if_pos (by omega), w64 (by omega) (by omega)]
  by_cases h : 0 ≤ a ∧ a < l.length
  · by_cases h2 : rd l a = o
    · rw [if_pos (by omega), if_pos h.1, if_pos h.2, if_pos h2, if_pos h.2, if_pos ⟨h, h2⟩]
    · rw [if_pos (by omega), if_pos h.1, if_pos h.2, if_neg h2, if_neg (fun x => h2 x.2)]
  · rw [if_neg (by omega), if_neg (fun x => h x.1)]
theorem i_SwapCell (l : List Int) (a o v : Int) (hl : l.length ≤ 1048576) : impl_SwapCell.f l a o v = some (swapC l a o v) := by
  unfold impl_SwapCell.f slices_Clone_int_int.f swapC
  rw [if_pos (by omega)]
  simp only [Option.bind_some, in_, decide_eq_true_eq]
  rw [w64 (by omega) (by omega)]
  by_cases h : 0 ≤ a ∧ a < l.length
  · by_cases h2 : rd l a = o
    · rw [if_pos (by omega), if_pos h.1, if_pos h.2, if_pos h2, if_pos h.2, if_pos ⟨h, h2⟩]
    · rw [if_pos (by omega), if_pos h.1, if_pos h.2, if_neg h2, if_neg (fun x => h2 x.2)]
  · rw [if_neg (by omega), if_neg (fun x => h x.1)]

theorem toIntS_l (l : List Int) (hl : l.length ≤ 1048576) (d : Nat) : ∀ i : Nat, i + d = l.length → Ev (fun k => laws_toIntS.l0 k l (l.take i ++ List.replicate d 0) i) l := by
  induction d with
  | zero =>
    intro i hi
    refine Ev.step (f := fun _ => some l) (fun k => ?_) (Ev.now _)
    simp only [laws_toIntS.l0]
    rw [if_neg (by omega), List.take_of_length_le (by omega)]
    simp
  | succ d ih =>
    intro i hi
    refine Ev.step (fun k => ?_) (ih (i + 1) (by omega))
    simp only [laws_toIntS.l0]
    have hlen : (l.take i).length = i := by rw [List.length_take]; omega
    rw [if_pos (by omega), if_pos (by omega), if_pos (by rw [List.length_append, hlen, List.length_replicate]; omega), w64 (by omega) (by omega), rd_eq l i (by omega)]
    congr 1
    rw [show ((i : Int)).toNat = i by omega, List.set_append_right _ _ (by omega), hlen, List.take_succ_eq_append_getElem (by omega), List.append_assoc]
    simp [List.replicate_succ]
theorem toIntS (l : List Int) (hl : l.length ≤ 1048576) : Ev (fun k => laws_toIntS.f k l) l := by
  unfold laws_toIntS.f
  simp only [if_pos (show 0 ≤ (l.length : Int) by omega), if_pos (show ((l.length : Int)).toNat ≤ 35184372088832 by omega)]
  exact toIntS_l l hl l.length 0 (by omega)

theorem eqIntS_l (l : List Int) (hl : l.length ≤ 1048576) (d : Nat) : ∀ i : Nat, i + d = l.length → Ev (fun k => laws_eqIntS.l0 k l l i) true := by
  induction d with
  | zero =>
    intro i hi
    refine Ev.step (f := fun _ => some true) (fun k => ?_) (Ev.now _)
    simp only [laws_eqIntS.l0]
    rw [if_neg (by omega)]
  | succ d ih =>
    intro i hi
    refine Ev.step (fun k => ?_) (ih (i + 1) (by omega))
    simp only [laws_eqIntS.l0, if_true]
    rw [if_pos (by omega), if_pos (by omega), w64 (by omega) (by omega), if_pos (by omega)]
    rfl
theorem eqIntS_refl (l : List Int) (hl : l.length ≤ 1048576) : Ev (fun k => laws_eqIntS.f k l l) true := by
  unfold laws_eqIntS.f
  simp only [if_true]
  exact eqIntS_l l hl l.length 0 (by omega)

def seqL (a : Int) (n : Nat) : List Int := (List.range n).map fun (j : Nat) => a + (j : Int)
theorem seqL_len (a : Int) (n : Nat) : (seqL a n).length = n := by simp [seqL]
theorem seqL_succ (a : Int) (n : Nat) : seqL a (n + 1) = seqL a n ++ [a + (n : Int)] := by simp [seqL, List.range_succ]
theorem rd_seqL (a : Int) (n i : Nat) (h : i < n) : rd (seqL a n) (i : Int) = a + (i : Int) := by
  rw [rd_eq _ _ (by rw [seqL_len]; exact h)]
  simp [seqL]
theorem markIntS_l (l : List Int) (hl : l.length ≤ 1048576) (a : Int) (h0 : 0 ≤ a) (h1 : a ≤ 4611686018427387904) (d : Nat) : ∀ i : Nat, i + d = l.length →
    Ev (fun k => laws_markIntS.l0 k (seqL a i ++ l.drop i) (a + (i : Int)) i) (a + (l.length : Int), seqL a l.length) := by
  induction d with
  | zero =>
    intro i hi
    refine Ev.step (f := fun _ => some _) (fun k => ?_) (Ev.now _)
    simp only [laws_markIntS.l0]
    rw [if_neg (by rw [List.length_append, seqL_len, List.length_drop]; omega), List.drop_eq_nil_of_le (by omega), List.append_nil, show i = l.length by omega]
  | succ d ih =>
    intro i hi
    refine Ev.step (fun k => ?_) (ih (i + 1) (by omega))
    simp only [laws_markIntS.l0]
    rw [if_pos (by rw [List.length_append, seqL_len, List.length_drop]; omega), if_pos (by omega), w64 (x := a + (i : Int) + 1) (by omega) (by omega), w64 (x := (i : Int) + 1) (by omega) (by omega)]
    congr 1
    · rw [show ((i : Int)).toNat = i by omega, List.set_append_right _ _ (by rw [seqL_len]; omega), seqL_len, Nat.sub_self, List.drop_eq_getElem_cons (by omega), List.set_cons_zero, seqL_succ, List.append_assoc]
      rfl
    · omega
theorem markIntS (l : List Int) (hl : l.length ≤ 1048576) (a : Int) (h0 : 0 ≤ a) (h1 : a ≤ 4611686018427387904) : Ev (fun k => laws_markIntS.f k l a) (a + (l.length : Int), seqL a l.length) := by
  have := markIntS_l l hl a h0 h1 l.length 0 (by omega)
  simpa [laws_markIntS.f, seqL] using this
theorem heldIntS_l (n : Nat) (hl : n ≤ 1048576) (a : Int) (h0 : 0 ≤ a) (h1 : a ≤ 4611686018427387904) (d : Nat) : ∀ i : Nat, i + d = n →
    Ev (fun k => laws_heldIntS.l0 k (seqL a n) (a + (i : Int)) i) (a + (n : Int)) := by
  induction d with
  | zero =>
    intro i hi
    refine Ev.step (f := fun _ => some _) (fun k => ?_) (Ev.now _)
    simp only [laws_heldIntS.l0]
    rw [if_neg (by rw [seqL_len]; omega), show i = n by omega]
  | succ d ih =>
    intro i hi
    refine Ev.step (fun k => ?_) (ih (i + 1) (by omega))
    simp only [laws_heldIntS.l0]
    rw [if_pos (by rw [seqL_len]; omega), if_pos (by omega), rd_seqL a n i (by omega), if_pos rfl, w64 (x := a + (i : Int) + 1) (by omega) (by omega), w64 (x := (i : Int) + 1) (by omega) (by omega)]
    congr 1
    omega
theorem heldIntS (n : Nat) (hl : n ≤ 1048576) (a : Int) (h0 : 0 ≤ a) (h1 : a ≤ 4611686018427387904) : Ev (fun k => laws_heldIntS.f k (seqL a n) a) (a + (n : Int)) := by
  have := heldIntS_l n hl a h0 h1 n 0 (by omega)
  simpa [laws_heldIntS.f] using this

theorem FnExactSwapCell : laws_FnExactSwapCell.Pure := by
  intro l a o v _ _ _ _ _ _
  unfold laws_FnExactSwapCell.f
  by_cases h : (l.length : Int) > 1048576
  · exact ⟨0, by rw [if_pos h]⟩
  · have hl : l.length ≤ 1048576 := by omega
    simp only [if_neg h]
    refine (Ev.bind (toIntS l hl) ?_).rounds
    simp only [s_SwapCell l a o v hl, Option.bind_some]
    refine Ev.bind (toIntS l hl) ?_
    simp only [i_SwapCell l a o v hl, Option.bind_some]
    have hr : (swapC l a o v).1.length ≤ 1048576 := by rw [swapC_len]; exact hl
    generalize hR : swapC l a o v = R at hr
    refine Ev.bind (eqIntS_refl R.1 hr) ?_
    simp only [if_true, bne_self_eq_false]
    refine Ev.step (fun k => by simp only [laws_FnExactSwapCell.j0]; rw [if_neg (by simp)]) ?_
    refine Ev.bind (toIntS l hl) ?_
    refine Ev.bind (eqIntS_refl l hl) ?_
    simp only [if_true]
    refine Ev.bind (markIntS l hl 1 (by omega) (by omega)) ?_
    simp only [if_neg (show ¬ (1 + (l.length : Int) < 0) by omega)]
    refine Ev.bind (eqIntS_refl R.1 hr) ?_
    simp only [if_true, bne_self_eq_false]
    refine Ev.step (fun k => by simp only [laws_FnExactSwapCell.j1]; rw [if_neg (by simp)]) ?_
    refine Ev.bind (markIntS R.1 hr 1 (by omega) (by omega)) ?_
    refine Ev.bind (heldIntS R.1.length hr 1 (by omega) (by omega)) ?_
    simp only [if_neg (show ¬ (1 + (R.1.length : Int) < 0) by omega), if_true]
    refine Ev.bind (toIntS l hl) ?_
    simp only [i_SwapCell l a o v hl, hR, Option.bind_some]
    refine Ev.bind (eqIntS_refl R.1 hr) ?_
    simp only [if_true, bne_self_eq_false]
    refine Ev.step (fun k => by simp only [laws_FnExactSwapCell.j2]; rw [if_neg (by simp)]) ?_
    refine Ev.bind (heldIntS R.1.length hr 1 (by omega) (by omega)) ?_
    simp only [if_neg (show ¬ (1 + (R.1.length : Int) < 0) by omega), if_true]
    exact Ev.now _

end Go.Proofs.Ytlbbnepkdhlgmab.Pure
