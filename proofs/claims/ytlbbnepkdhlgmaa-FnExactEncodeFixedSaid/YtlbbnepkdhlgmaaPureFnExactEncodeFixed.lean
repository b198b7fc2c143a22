/- The pure side of FnExactEncodeFixed: the program's EncodeFixed answers what the reference's does, for every number and width. No condition. -/
import Derived.Test.YtlbbnepkdhlgmaaPFnExactEncodeFixedx1
import Derived.OpenShut
import Derived.Laws.BitsLemmas
set_option linter.unusedVariables false
set_option linter.unusedSimpArgs false
namespace Go.Proofs.Ytlbbnepkdhlgmaa.Pure
open Go.RowKit Go.Proofs.Ytlbbnepkdhlgmaa.PFnExactEncodeFixed Go.Proofs.YtlbbnepkdhlgmaaW.PrintWords Go.Proofs.YtlbbnepkdhlgmaaW.PrintLast

theorem w64 {x : Int} (h : -9223372036854775808 ≤ x) (h' : x ≤ 9223372036854775807) : wrap64 x = x := by unfold wrap64; omega
theorem tdiv_pos {x y : Int} (h : 0 ≤ x) : Int.tdiv x y = x / y := Int.tdiv_eq_ediv_of_nonneg h
theorem tmod_pos {x y : Int} (h : 0 ≤ x) : Int.tmod x y = x % y := Int.tmod_eq_emod_of_nonneg h
theorem eq_strs {g w : Option ByteArray} {r : ByteArray} (h1 : w = some r) (h2 : g = some r) : (w.bind fun t => g.bind fun u => if u.toList = t.toList then some true else some false) = some true := by
  subst h1; subst h2; simp
theorem eq_ints {g w : Option Int} {r : Int} (h1 : w = some r) (h2 : g = some r) : (w.bind fun t => g.bind fun u => if u = t then some true else some false) = some true := by
  subst h1; subst h2; simp
theorem eq_bools {g w : Option Bool} {r : Bool} (h1 : w = some r) (h2 : g = some r) : (w.bind fun t => g.bind fun u => if (u != t) = true then some false else some true) = some true := by
  subst h1; subst h2; simp
theorem ev_strs {g w : Nat → Option ByteArray} {r : ByteArray} (h1 : Ev w r) (h2 : Ev g r) : ∃ k, ((w k).bind fun t => (g k).bind fun u => if u.toList = t.toList then some true else some false) = some true := by
  obtain ⟨K, h1⟩ := h1
  obtain ⟨L, h2⟩ := h2
  exact ⟨max K L, eq_strs (h1 _ (by omega)) (h2 _ (by omega))⟩
theorem ev2 {α β : Type} {g : Nat → Option α} {f : Nat → Option β} {a : α} {b : β} {F : α → β → Option Bool} (hg : Ev g a) (hf : Ev f b) (h : F a b = some true) : ∃ k, ((g k).bind fun t => (f k).bind fun u => F t u) = some true :=
  (Ev.bind hg (Ev.bind hf ⟨0, fun _ _ => h⟩)).rounds
theorem rd_eq (l : List Int) (i : Nat) (h : i < l.length) : rd l (i : Int) = l[i] := by
  unfold rd
  rw [show ((i : Int)).toNat = i by omega, List.getD_eq_getElem?_getD, List.getElem?_eq_getElem h]
  rfl

theorem l1In_ (x a b : Int) : spec_l1In.f x a b = some (decide (a ≤ x ∧ x ≤ b)) := by
  unfold spec_l1In.f
  by_cases h : a ≤ x <;> simp [h]

theorem strOfNums_nil : strOfNums [] = ByteArray.empty := rfl
theorem strOfNums_append (xs ys : List Int) : strOfNums (xs ++ ys) = strOfNums xs ++ strOfNums ys := by
  apply ByteArray.ext
  rw [ByteArray.data_append]
  simp [strOfNums]
theorem app_nil (s : ByteArray) : s ++ (⟨#[]⟩ : ByteArray) = s := ByteArray.append_empty

def efL : Nat → Int → List Int
  | 0, _ => []
  | w + 1, n => efL w (n / 256) ++ [n % 256]
theorem efL_length (w : Nat) : ∀ n, (efL w n).length = w := by
  induction w with
  | zero => intro n; rfl
  | succ w ih => intro n; rw [efL, List.length_append, ih]; rfl
theorem s_EncodeFixed_l (w : Nat) (hw : w ≤ 7) (d : Nat) : ∀ (i : Nat) (n : Int) (out : ByteArray), i + d = w → 0 ≤ n → n ≤ 9223372036854775807 → out.size ≤ 100 - d →
    Ev (fun k => spec_EncodeFixed.l0 k n w out i) (if ((256 ^ d : Nat) : Int) ≤ n then ⟨#[]⟩ else strOfNums (efL d n) ++ out) := by
  induction d with
  | zero =>
    intro i n out hi h0 h1 ho
    refine Ev.step (f := fun _ => some _) (fun k => ?_) (Ev.now _)
    simp only [spec_EncodeFixed.l0]
    rw [if_neg (by omega)]
    by_cases h : n > 0
    · rw [if_pos h, if_pos (by simp; omega)]
    · rw [if_neg h, if_neg (by simp; omega), efL, strOfNums_nil, ByteArray.empty_append]
  | succ d ih =>
    intro i n out hi h0 h1 ho
    have := ih (i + 1) (n / 256) (strOfNums [n % 256] ++ out) (by omega) (by omega) (by omega) (by rw [ByteArray.size_append, strOfNums_size]; simp; omega)
    have e : (if ((256 ^ (d + 1) : Nat) : Int) ≤ n then (⟨#[]⟩ : ByteArray) else strOfNums (efL (d + 1) n) ++ out) = (if ((256 ^ d : Nat) : Int) ≤ n / 256 then ⟨#[]⟩ else strOfNums (efL d (n / 256)) ++ (strOfNums [n % 256] ++ out)) := by
      by_cases h : ((256 ^ d : Nat) : Int) ≤ n / 256
      · rw [if_pos h, if_pos (by rw [Nat.pow_succ]; omega)]
      · rw [if_neg h, if_neg (by rw [Nat.pow_succ]; omega), efL, strOfNums_append, ByteArray.append_assoc]
    rw [e]
    refine Ev.step (fun k => ?_) this
    simp only [spec_EncodeFixed.l0, Option.bind_some]
    rw [if_pos (by omega), tmod_pos h0, tdiv_pos h0, w64 (x := n / 256) (by omega) (by omega), w64 (x := (i : Int) + 1) (by omega) (by omega), show n % 256 % 256 = n % 256 by omega, if_pos (by rw [strOfNums_size]; simp; omega)]
    rfl
theorem i_EncodeFixed_l (m : Nat) : ∀ (n : Int) (tail : List Int), 0 ≤ n → m ≤ 7 →
    Ev (fun k => impl_EncodeFixed.l0 k n (List.replicate m 0 ++ tail) ((m : Int) - 1)) (strOfNums (efL m n ++ tail)) := by
  induction m with
  | zero =>
    intro n tail h0 hm
    refine Ev.step (f := fun _ => some _) (fun k => ?_) (Ev.now _)
    simp only [impl_EncodeFixed.l0]
    rw [if_neg (by omega)]
    rfl
  | succ m ih =>
    intro n tail h0 hm
    have := ih (n / 256) ([n % 256] ++ tail) (by omega) (by omega)
    rw [efL, List.append_assoc]
    refine Ev.step (fun k => ?_) this
    simp only [impl_EncodeFixed.l0]
    rw [if_pos (by omega), if_pos (by omega), if_pos (by simp; omega), w64 (by omega) (by omega), show (((m + 1 : Nat) : Int) - 1).toNat = m by omega, List.replicate_succ', List.append_assoc, List.set_append_right _ _ (by simp)]
    simp
def encF (n w : Int) : ByteArray := if (1 ≤ w ∧ w ≤ 7) ∧ 0 ≤ n ∧ n < ((256 ^ w.toNat : Nat) : Int) then strOfNums (efL w.toNat n) else ⟨#[]⟩
theorem s_EncodeFixed (n w : Int) (hn : n ≤ 9223372036854775807) : Ev (fun k => spec_EncodeFixed.f k n w) (encF n w) := by
  unfold spec_EncodeFixed.f encF
  simp only [l1In_, Option.bind_some, decide_eq_true_eq]
  by_cases h : 1 ≤ w ∧ w ≤ 7
  · simp only [if_pos h]
    by_cases h2 : n < 0
    · rw [if_neg (by omega)]
      refine Ev.step (f := fun _ => some _) (fun k => ?_) (Ev.now _)
      simp only [spec_EncodeFixed.j0, decide_eq_true_eq]
      rw [if_pos h2]
    · obtain ⟨m, rfl⟩ := Int.eq_ofNat_of_zero_le (show 0 ≤ w by omega)
      have := s_EncodeFixed_l m (by omega) m 0 n ⟨#[]⟩ (by omega) (by omega) hn (by simp [ByteArray.size])
      have e : (if (1 ≤ (m : Int) ∧ (m : Int) ≤ 7) ∧ 0 ≤ n ∧ n < ((256 ^ (m : Int).toNat : Nat) : Int) then strOfNums (efL (m : Int).toNat n) else ⟨#[]⟩) = (if ((256 ^ m : Nat) : Int) ≤ n then ⟨#[]⟩ else strOfNums (efL m n) ++ (⟨#[]⟩ : ByteArray)) := by
        rw [show (m : Int).toNat = m by omega]
        by_cases h3 : ((256 ^ m : Nat) : Int) ≤ n
        · rw [if_pos h3, if_neg (by omega)]
        · rw [if_neg h3, if_pos (by omega), app_nil]
      rw [e]
      refine Ev.step (fun k => ?_) this
      simp only [spec_EncodeFixed.j0, decide_eq_true_eq]
      rw [if_neg h2]
      rfl
  · simp only [if_neg h]
    rw [if_neg (by omega)]
    refine Ev.step (f := fun _ => some _) (fun k => ?_) (Ev.now _)
    simp only [spec_EncodeFixed.j0, if_true]
theorem shl_8 (w : Int) (h : 1 ≤ w) (h2 : w ≤ 7) : 0 ≤ wrap64 (8 * w) ∧ shl .i64 1 (wrap64 (8 * w)) = ((256 ^ w.toNat : Nat) : Int) := by
  rcases (show w = 1 ∨ w = 2 ∨ w = 3 ∨ w = 4 ∨ w = 5 ∨ w = 6 ∨ w = 7 by omega) with rfl | rfl | rfl | rfl | rfl | rfl | rfl <;> exact ⟨by unfold wrap64; omega, by rw [w64 (by omega) (by omega)]; decide +kernel⟩
theorem i_EncodeFixed (n w : Int) : Ev (fun k => impl_EncodeFixed.f k n w) (encF n w) := by
  unfold impl_EncodeFixed.f encF
  have none_ : Ev (fun k => impl_EncodeFixed.j0 k n w true) (⟨#[]⟩ : ByteArray) := by
    refine Ev.step (f := fun _ => some _) (fun k => ?_) (Ev.now _)
    simp only [impl_EncodeFixed.j0, if_true]
  by_cases h1 : w < 1
  · simp only [if_pos h1]
    rw [if_neg (by omega)]
    exact none_
  · by_cases h2 : w > 7
    · simp only [if_neg h1, if_pos h2]
      rw [if_neg (by omega)]
      exact none_
    · by_cases h3 : n < 0
      · simp only [if_neg h1, if_neg h2, if_pos h3]
        rw [if_neg (by omega)]
        exact none_
      · obtain ⟨h4, h5⟩ := shl_8 w (by omega) (by omega)
        simp only [if_neg h1, if_neg h2, if_neg h3, if_pos h4, h5]
        by_cases h6 : n ≥ ((256 ^ w.toNat : Nat) : Int)
        · simp only [decide_eq_true h6]
          rw [if_neg (by omega)]
          exact none_
        · simp only [decide_eq_false h6]
          rw [if_pos (by omega)]
          have := i_EncodeFixed_l w.toNat n [] (by omega) (by omega)
          rw [List.append_nil, List.append_nil] at this
          refine Ev.step (fun k => ?_) this
          simp only [impl_EncodeFixed.j0]
          rw [if_neg (by simp), if_pos (by omega), if_pos (by omega), w64 (by omega) (by omega), show ((w.toNat : Nat) : Int) = w by omega]

theorem FnExactEncodeFixed : laws_FnExactEncodeFixed.Pure := by
  intro n w hn _
  exact ev_strs (s_EncodeFixed n w (bounds_i64 hn).2) (i_EncodeFixed n w)

end Go.Proofs.Ytlbbnepkdhlgmaa.Pure
