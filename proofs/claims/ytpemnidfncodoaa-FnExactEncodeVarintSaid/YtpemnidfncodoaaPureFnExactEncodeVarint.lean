/- The pure side of FnExactEncodeVarint: the program's EncodeVarint answers what the reference's does, for every number. No condition. -/
import Derived.Test.YtpemnidfncodoaaPFnExactEncodeVarintx1
import Derived.OpenShut
import Derived.Laws.BitsLemmas
set_option linter.unusedVariables false
set_option linter.unusedSimpArgs false
namespace Go.Proofs.Ytpemnidfncodoaa.Pure
open Go.RowKit Go.Proofs.Ytpemnidfncodoaa.PFnExactEncodeVarint Go.Proofs.YtpemnidfncodoaaW.PrintWords Go.Proofs.YtpemnidfncodoaaW.PrintLast

theorem w64 {x : Int} (h : -9223372036854775808 ≤ x) (h' : x ≤ 9223372036854775807) : wrap64 x = x := by unfold wrap64; omega
theorem tdiv_pos {x y : Int} (h : 0 ≤ x) : Int.tdiv x y = x / y := Int.tdiv_eq_ediv_of_nonneg h
theorem tmod_pos {x y : Int} (h : 0 ≤ x) : Int.tmod x y = x % y := Int.tmod_eq_emod_of_nonneg h
theorem eq_strs {g w : Option ByteArray} {r : ByteArray} (h1 : w = some r) (h2 : g = some r) : (w.bind fun t => g.bind fun u => if u.toList = t.toList then some true else some false) = some true := by
  subst h1; subst h2; simp
theorem eq_ints {g w : Option Int} {r : Int} (h1 : w = some r) (h2 : g = some r) : (w.bind fun t => g.bind fun u => if u = t then some true else some false) = some true := by
  subst h1; subst h2; simp
theorem eq_bools {g w : Option Bool} {r : Bool} (h1 : w = some r) (h2 : g = some r) : (w.bind fun t => g.bind fun u => if (u != t) = true then some false else some true) = some true := by
  subst h1; subst h2; simp
theorem ev_strs {g w : Nat → Option ByteArray} {r : ByteArray} (h1 : Ev w r) (h2 : Ev g r) : ∃ k, ((w k).bind fun t => (g k).bind fun u => if u.toList = t.toList then some true else some false) = some true := by
  obtain ⟨K, h1⟩ := h1
  obtain ⟨L, h2⟩ := h2
  exact ⟨max K L, eq_strs (h1 _ (by omega)) (h2 _ (by omega))⟩
theorem ev2 {α β : Type} {g : Nat → Option α} {f : Nat → Option β} {a : α} {b : β} {F : α → β → Option Bool} (hg : Ev g a) (hf : Ev f b) (h : F a b = some true) : ∃ k, ((g k).bind fun t => (f k).bind fun u => F t u) = some true :=
  (Ev.bind hg (Ev.bind hf ⟨0, fun _ _ => h⟩)).rounds

theorem l1In_ (x a b : Int) : spec_l1In.f x a b = some (decide (a ≤ x ∧ x ≤ b)) := by
  unfold spec_l1In.f
  by_cases h : a ≤ x <;> simp [h]

theorem or_128 (y : Int) (h0 : 0 ≤ y) (h1 : y < 256) : Go.bits .or .u8 y 128 = 128 + y % 128 := by
  have h : ∀ n : Fin 256, Go.bits .or .u8 ((n.val : Nat) : Int) 128 = 128 + ((n.val : Nat) : Int) % 128 := by decide +kernel
  have := h ⟨y.toNat, by omega⟩
  rwa [show (((⟨y.toNat, by omega⟩ : Fin 256).val : Nat) : Int) = y by simp; omega] at this
def vencA : Nat → Int → List Int
  | 0, x => [x]
  | f + 1, x => if 128 ≤ x then (128 + x % 128) :: vencA f (x / 128) else [x]
theorem s_EncodeVarint_l (f : Nat) : ∀ (x : Int) (out : List Int), 0 ≤ x → x < ((128 ^ (f + 1) : Nat) : Int) → x ≤ 562949953421311 → out.length + f ≤ 100 →
    Ev (fun k => spec_EncodeVarint.l0 k x out) (strOfNums (out ++ vencA f x)) := by
  induction f with
  | zero =>
    intro x out h0 h1 h2 ho
    refine Ev.step (f := fun _ => some (strOfNums (out ++ [x]))) (fun k => ?_) (Ev.now _)
    simp only [spec_EncodeVarint.l0]
    rw [if_neg (by omega), if_pos (by omega), show x % 256 = x by omega]
  | succ f ih =>
    intro x out h0 h1 h2 ho
    by_cases h : 128 ≤ x
    · rw [Nat.pow_succ] at h1
      have := ih (x / 128) (out ++ [128 + x % 128]) (by omega) (by omega) (by omega) (by simp; omega)
      rw [List.append_assoc] at this
      rw [vencA, if_pos h]
      refine Ev.step (fun k => ?_) this
      simp only [spec_EncodeVarint.l0]
      rw [if_pos h, if_pos (by omega), tdiv_pos h0, tmod_pos h0, w64 (by omega) (by omega), w64 (by omega) (by omega), show (128 + x % 128) % 256 = 128 + x % 128 by omega]
    · rw [vencA, if_neg h]
      refine Ev.step (f := fun _ => some (strOfNums (out ++ [x]))) (fun k => ?_) (Ev.now _)
      simp only [spec_EncodeVarint.l0]
      rw [if_neg h, if_pos (by omega), show x % 256 = x by omega]
theorem i_EncodeVarint_l (f : Nat) : ∀ (x : Int) (out : List Int), 0 ≤ x → x < ((128 ^ (f + 1) : Nat) : Int) → x ≤ 562949953421311 → out.length + f ≤ 100 →
    Ev (fun k => impl_EncodeVarint.l0 k x out) (strOfNums (out ++ vencA f x)) := by
  induction f with
  | zero =>
    intro x out h0 h1 h2 ho
    refine Ev.step (f := fun _ => some (strOfNums (out ++ [x]))) (fun k => ?_) (Ev.now _)
    simp only [impl_EncodeVarint.l0]
    rw [if_neg (by omega), if_pos (by omega), show x % 256 = x by omega]
  | succ f ih =>
    intro x out h0 h1 h2 ho
    by_cases h : 128 ≤ x
    · rw [Nat.pow_succ] at h1
      have := ih (x / 128) (out ++ [128 + x % 128]) (by omega) (by omega) (by omega) (by simp; omega)
      rw [List.append_assoc] at this
      rw [vencA, if_pos h]
      refine Ev.step (fun k => ?_) this
      simp only [impl_EncodeVarint.l0]
      rw [if_pos h, if_pos (by omega), or_128 _ (by omega) (by omega), show x % 256 % 128 = x % 128 by omega]
    · rw [vencA, if_neg h]
      refine Ev.step (f := fun _ => some (strOfNums (out ++ [x]))) (fun k => ?_) (Ev.now _)
      simp only [impl_EncodeVarint.l0]
      rw [if_neg h, if_pos (by omega), show x % 256 = x by omega]
def venc (x : Int) : ByteArray := if 0 ≤ x ∧ x ≤ 562949953421311 then strOfNums (vencA 6 x) else ⟨#[]⟩
theorem s_EncodeVarint (x : Int) : Ev (fun k => spec_EncodeVarint.f k x) (venc x) := by
  unfold spec_EncodeVarint.f venc
  simp only [l1In_, Option.bind_some, decide_eq_true_eq]
  by_cases h : 0 ≤ x ∧ x ≤ 562949953421311
  · simp only [if_pos h]
    exact s_EncodeVarint_l 6 x [] h.1 (by omega) h.2 (by simp)
  · simp only [if_neg h]
    exact Ev.now _
theorem i_EncodeVarint (x : Int) : Ev (fun k => impl_EncodeVarint.f k x) (venc x) := by
  unfold impl_EncodeVarint.f venc
  by_cases h1 : x < 0
  · simp only [if_pos h1]
    rw [if_neg (by omega)]
    refine Ev.step (f := fun _ => some _) (fun k => ?_) (Ev.now _)
    simp only [impl_EncodeVarint.j0, if_true]
  · simp only [if_neg h1]
    by_cases h : x ≤ 562949953421311
    · rw [if_pos ⟨by omega, h⟩]
      refine Ev.step (fun k => ?_) (i_EncodeVarint_l 6 x [] (by omega) (by omega) h (by simp))
      simp only [impl_EncodeVarint.j0, decide_eq_true_eq]
      rw [if_neg (by omega)]
    · rw [if_neg (by omega)]
      refine Ev.step (f := fun _ => some _) (fun k => ?_) (Ev.now _)
      simp only [impl_EncodeVarint.j0, decide_eq_true_eq]
      rw [if_pos (by omega)]

theorem FnExactEncodeVarint : laws_FnExactEncodeVarint.Pure := by
  intro x _
  exact ev_strs (s_EncodeVarint x) (i_EncodeVarint x)

end Go.Proofs.Ytpemnidfncodoaa.Pure
