/- The pure side of FnExactDecodeFixed: the program's DecodeFixed answers what the reference's does, for every string and width (the law itself answers true past 1048576 bytes). No condition. -/
import Derived.Test.YtpemnidfncodoaaPFnExactDecodeFixedx1
import Derived.OpenShut
import Derived.Laws.BitsLemmas
set_option linter.unusedVariables false
set_option linter.unusedSimpArgs false
namespace Go.Proofs.Ytpemnidfncodoaa.Pure
open Go.RowKit Go.Proofs.Ytpemnidfncodoaa.PFnExactDecodeFixed Go.Proofs.YtpemnidfncodoaaW.PrintWords Go.Proofs.YtpemnidfncodoaaW.PrintLast

theorem w64 {x : Int} (h : -9223372036854775808 ≤ x) (h' : x ≤ 9223372036854775807) : wrap64 x = x := by unfold wrap64; omega
theorem tdiv_pos {x y : Int} (h : 0 ≤ x) : Int.tdiv x y = x / y := Int.tdiv_eq_ediv_of_nonneg h
theorem tmod_pos {x y : Int} (h : 0 ≤ x) : Int.tmod x y = x % y := Int.tmod_eq_emod_of_nonneg h
theorem eq_strs {g w : Option ByteArray} {r : ByteArray} (h1 : w = some r) (h2 : g = some r) : (w.bind fun t => g.bind fun u => if u.toList = t.toList then some true else some false) = some true := by
  subst h1; subst h2; simp
theorem eq_ints {g w : Option Int} {r : Int} (h1 : w = some r) (h2 : g = some r) : (w.bind fun t => g.bind fun u => if u = t then some true else some false) = some true := by
  subst h1; subst h2; simp
theorem eq_bools {g w : Option Bool} {r : Bool} (h1 : w = some r) (h2 : g = some r) : (w.bind fun t => g.bind fun u => if (u != t) = true then some false else some true) = some true := by
  subst h1; subst h2; simp
theorem ev_strs {g w : Nat → Option ByteArray} {r : ByteArray} (h1 : Ev w r) (h2 : Ev g r) : ∃ k, ((w k).bind fun t => (g k).bind fun u => if u.toList = t.toList then some true else some false) = some true := by
  obtain ⟨K, h1⟩ := h1
  obtain ⟨L, h2⟩ := h2
  exact ⟨max K L, eq_strs (h1 _ (by omega)) (h2 _ (by omega))⟩
theorem ev2 {α β : Type} {g : Nat → Option α} {f : Nat → Option β} {a : α} {b : β} {F : α → β → Option Bool} (hg : Ev g a) (hf : Ev f b) (h : F a b = some true) : ∃ k, ((g k).bind fun t => (f k).bind fun u => F t u) = some true :=
  (Ev.bind hg (Ev.bind hf ⟨0, fun _ _ => h⟩)).rounds

theorem l1In_ (x a b : Int) : spec_l1In.f x a b = some (decide (a ≤ x ∧ x ≤ b)) := by
  unfold spec_l1In.f
  by_cases h : a ≤ x <;> simp [h]

theorem wraps_i64 (n : Int) (h0 : 0 ≤ n) (h1 : n < 2 ^ 63) : IntKind.i64.wrap n = n := by
  rw [IntKind.wrap_i64]; omega
theorem or_256 (x b : Int) (h0 : 0 ≤ x) (h1 : x < 36028797018963968) (hb : 0 ≤ b) (hb1 : b ≤ 255) : Go.bits .or .i64 (x * 256) b = x * 256 + b :=
  Go.bits_join .i64 63 (by decide) wraps_i64 8 (x * 256) b (by omega) (by omega) (by omega) hb (by omega) (by omega)
def decF (s : ByteArray) : Nat → Int
  | 0 => 0
  | i + 1 => decF s i * 256 + bt s i
theorem decF_lt (s : ByteArray) (i : Nat) : 0 ≤ decF s i ∧ decF s i < ((256 ^ i : Nat) : Int) := by
  induction i with
  | zero => simp [decF]
  | succ i ih =>
    have := bt_range s i
    rw [decF, Nat.pow_succ]
    omega
theorem decF_small (s : ByteArray) (i : Nat) (h : i ≤ 6) : 0 ≤ decF s i ∧ decF s i < 281474976710656 := by
  have h1 := decF_lt s i
  have h2 : 256 ^ i ≤ 256 ^ 6 := Nat.pow_le_pow_right (by decide) h
  omega
theorem s_DecodeFixed_l (s : ByteArray) (w : Nat) (hw : w ≤ 7) (hs : w ≤ s.size) (d : Nat) : ∀ i : Nat, i + d = w →
    Ev (fun k => spec_DecodeFixed.l0 k s w (decF s i) i) (decF s w, true) := by
  induction d with
  | zero =>
    intro i hi
    obtain rfl : i = w := by omega
    refine Ev.step (f := fun _ => some (decF s i, true)) (fun k => ?_) (Ev.now _)
    simp only [spec_DecodeFixed.l0]; rw [if_neg (by omega)]
  | succ d ih =>
    intro i hi
    have hb := bt_range s i
    have hd := decF_small s i (by omega)
    refine Ev.step (fun k => ?_) (ih (i + 1) (by omega))
    simp only [spec_DecodeFixed.l0]
    rw [if_pos (by omega), if_pos (by omega), if_pos (by omega), w64 (x := decF s i * 256) (by omega) (by omega), w64 (x := bt s i) (by omega) (by omega), w64 (x := decF s i * 256 + bt s i) (by omega) (by omega), w64 (by omega) (by omega)]
    rfl
theorem i_DecodeFixed_l (s : ByteArray) (w : Nat) (hw : w ≤ 7) (hs : w ≤ s.size) (d : Nat) : ∀ i : Nat, i + d = w →
    Ev (fun k => impl_DecodeFixed.l0 k s (decF s i) w i) (decF s w, true) := by
  induction d with
  | zero =>
    intro i hi
    obtain rfl : i = w := by omega
    refine Ev.step (f := fun _ => some (decF s i, true)) (fun k => ?_) (Ev.now _)
    simp only [impl_DecodeFixed.l0]; rw [if_neg (by omega)]
  | succ d ih =>
    intro i hi
    have hb := bt_range s i
    have hd := decF_small s i (by omega)
    refine Ev.step (fun k => ?_) (ih (i + 1) (by omega))
    simp only [impl_DecodeFixed.l0]
    rw [if_pos (by omega), if_pos (by omega), if_pos (by omega), w64 (x := decF s i * 256) (by omega) (by omega), w64 (x := bt s i) (by omega) (by omega), or_256 _ _ hd.1 (by omega) hb.1 hb.2, w64 (by omega) (by omega)]
    rfl
def decFx (s : ByteArray) (w : Int) : Int × Bool := if 1 ≤ w ∧ w ≤ 7 ∧ w ≤ s.size then (decF s w.toNat, true) else (0, false)
theorem s_DecodeFixed (s : ByteArray) (w : Int) : Ev (fun k => spec_DecodeFixed.f k s w) (decFx s w) := by
  unfold spec_DecodeFixed.f decFx
  simp only [l1In_, Option.bind_some, decide_eq_true_eq]
  by_cases h : 1 ≤ w ∧ w ≤ 7
  · simp only [if_pos h]
    by_cases h2 : w ≤ s.size
    · rw [if_pos ⟨h.1, h.2, h2⟩]
      obtain ⟨n, rfl⟩ := Int.eq_ofNat_of_zero_le (show 0 ≤ w by omega)
      refine Ev.step (fun k => ?_) (s_DecodeFixed_l s n (by omega) (by omega) n 0 (by omega))
      simp only [spec_DecodeFixed.j0, decide_eq_true_eq]
      rw [if_neg (by omega)]
      rfl
    · rw [if_neg (by omega)]
      refine Ev.step (f := fun _ => some (0, false)) (fun k => ?_) (Ev.now _)
      simp only [spec_DecodeFixed.j0, decide_eq_true_eq]
      rw [if_pos (by omega)]
  · simp only [if_neg h]
    rw [if_neg (by omega)]
    refine Ev.step (f := fun _ => some (0, false)) (fun k => ?_) (Ev.now _)
    simp only [spec_DecodeFixed.j0, if_true]
theorem i_DecodeFixed (s : ByteArray) (w : Int) : Ev (fun k => impl_DecodeFixed.f k s w) (decFx s w) := by
  unfold impl_DecodeFixed.f decFx
  by_cases h1 : w < 1
  · simp only [if_pos h1]
    rw [if_neg (by omega)]
    refine Ev.step (f := fun _ => some (0, false)) (fun k => ?_) (Ev.now _)
    simp only [impl_DecodeFixed.j0, if_true]
  · simp only [if_neg h1]
    by_cases h2 : w > 7
    · simp only [if_pos h2]
      rw [if_neg (by omega)]
      refine Ev.step (f := fun _ => some (0, false)) (fun k => ?_) (Ev.now _)
      simp only [impl_DecodeFixed.j0, if_true]
    · simp only [if_neg h2]
      by_cases h3 : w ≤ s.size
      · rw [if_pos ⟨by omega, by omega, h3⟩]
        obtain ⟨n, rfl⟩ := Int.eq_ofNat_of_zero_le (show 0 ≤ w by omega)
        refine Ev.step (fun k => ?_) (i_DecodeFixed_l s n (by omega) (by omega) n 0 (by omega))
        simp only [impl_DecodeFixed.j0, decide_eq_true_eq]
        rw [if_neg (by omega)]
        rfl
      · rw [if_neg (by omega)]
        refine Ev.step (f := fun _ => some (0, false)) (fun k => ?_) (Ev.now _)
        simp only [impl_DecodeFixed.j0, decide_eq_true_eq]
        rw [if_pos (by omega)]

theorem FnExactDecodeFixed : laws_FnExactDecodeFixed.Pure := by
  intro s a _ _
  by_cases h : (s.size : Int) > 1048576
  · exact ⟨0, by unfold laws_FnExactDecodeFixed.f; rw [if_pos h]⟩
  · unfold laws_FnExactDecodeFixed.f
    simp only [if_neg h]
    exact ev2 (s_DecodeFixed s a) (i_DecodeFixed s a) (by simp)

end Go.Proofs.Ytpemnidfncodoaa.Pure
