/- The pure side of FnCells: storing and swapping change at most one cell, and swapping only where the old value is there, for every drawn list (the law itself answers true past 1048576 bytes). No condition. -/
import Derived.Test.YtlbbnepkdhlgmabGFnCellsx3
import Derived.OpenShut
import Derived.Laws.BitsLemmas
set_option linter.unusedVariables false
set_option linter.unusedSimpArgs false
namespace Go.Proofs.Ytlbbnepkdhlgmab.Pure
open Go.RowKit Go.Proofs.Ytlbbnepkdhlgmab.GFnCells Go.Proofs.YtlbbnepkdhlgmabW.PrintWords Go.Proofs.YtlbbnepkdhlgmabW.PrintLast

theorem w64 {x : Int} (h : -9223372036854775808 ≤ x) (h' : x ≤ 9223372036854775807) : wrap64 x = x := by unfold wrap64; omega
theorem tdiv_pos {x y : Int} (h : 0 ≤ x) : Int.tdiv x y = x / y := Int.tdiv_eq_ediv_of_nonneg h
theorem tmod_pos {x y : Int} (h : 0 ≤ x) : Int.tmod x y = x % y := Int.tmod_eq_emod_of_nonneg h
theorem eq_strs {g w : Option ByteArray} {r : ByteArray} (h1 : w = some r) (h2 : g = some r) : (w.bind fun t => g.bind fun u => if u.toList = t.toList then some true else some false) = some true := by
  subst h1; subst h2; simp
theorem eq_ints {g w : Option Int} {r : Int} (h1 : w = some r) (h2 : g = some r) : (w.bind fun t => g.bind fun u => if u = t then some true else some false) = some true := by
  subst h1; subst h2; simp
theorem eq_bools {g w : Option Bool} {r : Bool} (h1 : w = some r) (h2 : g = some r) : (w.bind fun t => g.bind fun u => if (u != t) = true then some false else some true) = some true := by
  subst h1; subst h2; simp
theorem ev_strs {g w : Nat → Option ByteArray} {r : ByteArray} (h1 : Ev w r) (h2 : Ev g r) : ∃ k, ((w k).bind fun t => (g k).bind fun u => if u.toList = t.toList then some true else some false) = some true := by
  obtain ⟨K, h1⟩ := h1
  obtain ⟨L, h2⟩ := h2
  exact ⟨max K L, eq_strs (h1 _ (by omega)) (h2 _ (by omega))⟩
theorem ev2 {α β : Type} {g : Nat → Option α} {f : Nat → Option β} {a : α} {b : β} {F : α → β → Option Bool} (hg : Ev g a) (hf : Ev f b) (h : F a b = some true) : ∃ k, ((g k).bind fun t => (f k).bind fun u => F t u) = some true :=
  (Ev.bind hg (Ev.bind hf ⟨0, fun _ _ => h⟩)).rounds
theorem rd_eq (l : List Int) (i : Nat) (h : i < l.length) : rd l (i : Int) = l[i] := by
  unfold rd
  rw [show ((i : Int)).toNat = i by omega, List.getD_eq_getElem?_getD, List.getElem?_eq_getElem h]
  rfl

theorem and_255 (y : Int) : 0 ≤ Go.bits .and .i64 y 255 ∧ Go.bits .and .i64 y 255 ≤ 255 := by
  have e : Go.bits .and .i64 y 255 = IntKind.i64.wrap (((BitVec.ofInt 64 y).toNat &&& 255 : Nat) : Int) := by
    show IntKind.i64.wrap _ = _
    congr 1
  have h : (BitVec.ofInt 64 y).toNat &&& 255 ≤ 255 := Nat.and_le_right
  rw [e, IntKind.wrap_i64]
  omega
theorem l1New_l (l : List Int) (hl : l.length ≤ maxLen) (d : Nat) : ∀ (i : Nat) (h : Int), i + d = 4000 → ∃ h', Ev (fun k => spec_l1New.l0 k l h i) (l, 0, h') := by
  induction d with
  | zero =>
    intro i h hi
    refine ⟨h, Ev.step (f := fun _ => some _) (fun k => ?_) (Ev.now _)⟩
    simp only [spec_l1New.l0]
    rw [if_neg (show ¬ (i : Int) < 4000 by omega)]
    first | done | (split <;> rfl)
  | succ d ih =>
    intro i h hi
    by_cases h1 : (i : Int) < l.length
    · obtain ⟨h', hh⟩ := ih (i + 1) (Go.bits .and .i64 (wrap64 ((wrap64 ((wrap64 (h * 131)) + (wrap64 (rd l i)))) + 7)) 1073741823) (by omega)
      refine ⟨h', Ev.step (fun k => ?_) hh⟩
      simp only [spec_l1New.l0]
      rw [if_pos h1, if_pos (by omega), if_pos (by omega), w64 (x := (i : Int) + 1) (by omega) (by omega)]
      rfl
    · refine ⟨h, Ev.step (f := fun _ => some _) (fun k => ?_) (Ev.now _)⟩
      simp only [spec_l1New.l0]
      rw [if_neg h1]
theorem l1New (l : List Int) (hl : l.length ≤ maxLen) : ∃ h, Ev (fun k => spec_l1New.f k l) (l, 0, h) := l1New_l l hl 4000 0 _ rfl
theorem l1Byte (b : List Int) (i h : Int) (hb : b.length ≤ maxLen) (hi : 0 ≤ i) : ∃ x i' h', spec_l1Byte.f b i h = some (x, i', h') ∧ 0 ≤ x ∧ x ≤ 255 ∧ 0 ≤ i' := by
  unfold maxLen at hb
  unfold spec_l1Byte.f
  by_cases h1 : i < b.length
  · rw [if_pos h1, if_pos hi]
    refine ⟨_, _, _, rfl, (and_255 _).1, (and_255 _).2, ?_⟩
    rw [w64 (by omega) (by omega)]
    omega
  · rw [if_neg h1]
    exact ⟨_, _, _, rfl, (and_255 _).1, (and_255 _).2, hi⟩
theorem l1Below (b : List Int) (i h n : Int) (hb : b.length ≤ maxLen) (hi : 0 ≤ i) (hn : n ≤ 4294967296) : ∃ x i' h', spec_l1Below.f b i h n = some (x, i', h') ∧ 0 ≤ x ∧ (0 < n → x < n) ∧ (n ≤ 0 → x = 0) ∧ x ≤ 4294967296 ∧ 0 ≤ i' := by
  unfold spec_l1Below.f
  by_cases h1 : n ≤ 0
  · rw [if_pos h1]
    exact ⟨_, _, _, rfl, by omega, by omega, fun _ => rfl, by omega, hi⟩
  · rw [if_neg h1]
    by_cases h2 : n ≤ 256
    · rw [if_pos h2]
      obtain ⟨x, i', h', e, x0, x1, hi'⟩ := l1Byte b i h hb hi
      rw [e]
      simp only [Option.bind_some]
      rw [if_neg (by omega), tmod_pos x0]
      exact ⟨_, _, _, rfl, Int.emod_nonneg _ (by omega), fun _ => Int.emod_lt_of_pos _ (by omega), by omega, by have := Int.emod_lt_of_pos x (show 0 < n by omega); omega, hi'⟩
    · rw [if_neg h2]
      obtain ⟨x, i1, h1', e1, x0, x1, hi1⟩ := l1Byte b i h hb hi
      obtain ⟨y, i2, h2', e2, y0, y1, hi2⟩ := l1Byte b i1 h1' hb hi1
      obtain ⟨z, i3, h3', e3, z0, z1, hi3⟩ := l1Byte b i2 h2' hb hi2
      obtain ⟨u, i4, h4', e4, u0, u1, hi4⟩ := l1Byte b i3 h3' hb hi3
      rw [e1]
      simp only [Option.bind_some]
      rw [e2]
      simp only [Option.bind_some]
      rw [e3]
      simp only [Option.bind_some]
      rw [e4]
      simp only [Option.bind_some]
      rw [if_neg (by omega), w64 (x := x * 16777216) (by omega) (by omega), w64 (x := y * 65536) (by omega) (by omega), w64 (x := z * 256) (by omega) (by omega), w64 (x := x * 16777216 + y * 65536) (by omega) (by omega), w64 (x := x * 16777216 + y * 65536 + z * 256) (by omega) (by omega), w64 (x := x * 16777216 + y * 65536 + z * 256 + u) (by omega) (by omega), tmod_pos (by omega)]
      exact ⟨_, _, _, rfl, Int.emod_nonneg _ (by omega), fun _ => Int.emod_lt_of_pos _ (by omega), by omega, by have := Int.emod_lt_of_pos (x * 16777216 + y * 65536 + z * 256 + u) (show 0 < n by omega); omega, hi4⟩

theorem l1In_ (x a b : Int) : spec_l1In.f x a b = some (decide (a ≤ x ∧ x ≤ b)) := by
  unfold spec_l1In.f
  by_cases h : a ≤ x <;> simp [h]

theorem in_ (x a b : Int) : impl_in.f x a b = some (decide (a ≤ x ∧ x ≤ b)) := by
  unfold impl_in.f
  by_cases h : a ≤ x <;> simp [h]

def storeC (l : List Int) (a v : Int) : List Int × Bool := if 0 ≤ a ∧ a < l.length then (l.set a.toNat v, true) else (l, false)
theorem storeC_len (l : List Int) (a v : Int) : (storeC l a v).1.length = l.length := by
  unfold storeC
  split <;> simp
theorem s_StoreCell (l : List Int) (a v : Int) (hl : l.length ≤ 1048576) : spec_StoreCell.f l a v = some (storeC l a v) := by
  unfold spec_StoreCell.f storeC
  simp only [Option.bind_some, List.nil_append, List.length_nil, l1In_, decide_eq_true_eq]
  rw [if_pos (by omega), w64 (by omega) (by omega)]
  by_cases h : 0 ≤ a ∧ a < l.length
  · rw [if_pos (by omega), if_pos h.1, if_pos h.2, if_pos h]
  · rw [if_neg (by omega), if_neg h]
theorem i_StoreCell (l : List Int) (a v : Int) (hl : l.length ≤ 1048576) : impl_StoreCell.f l a v = some (storeC l a v) := by
  unfold impl_StoreCell.f slices_Clone_int_int.f storeC
  rw [if_pos (by omega)]
  simp only [Option.bind_some, in_, decide_eq_true_eq]
  rw [w64 (by omega) (by omega)]
  by_cases h : 0 ≤ a ∧ a < l.length
  · rw [if_pos (by omega), if_pos h.1, if_pos h.2, if_pos h]
  · rw [if_neg (by omega), if_neg h]

def swapC (l : List Int) (a o v : Int) : List Int × Bool := if (0 ≤ a ∧ a < l.length) ∧ rd l a = o then (l.set a.toNat v, true) else (l, false)
theorem swapC_len (l : List Int) (a o v : Int) : (swapC l a o v).1.length = l.length := by
  unfold swapC
  split <;> simp
theorem s_SwapCell (l : List Int) (a o v : Int) (hl : l.length ≤ 1048576) : spec_SwapCell.f l a o v = some (swapC l a o v) := by
  unfold spec_SwapCell.f swapC
  simp only [Option.bind_some, List.nil_append, List.length_nil, l1In_, decide_eq_true_eq]
  rw [if_pos (by omega), w64 (by omega) (by omega)]
  by_cases h : 0 ≤ a ∧ a < l.length
  · by_cases h2 : rd l a = o
    · rw [if_pos (by omega), if_pos h.1, if_pos h.2, if_pos h2, if_pos h.2, if_pos ⟨h, h2⟩]
    · rw [if_pos (by omega), if_pos h.1, if_pos h.2, if_neg h2, if_neg (fun x => h2 x.2)]
  · rw [if_neg (by omega), if_neg (fun x => h x.1)]
theorem i_SwapCell (l : List Int) (a o v : Int) (hl : l.length ≤ 1048576) : impl_SwapCell.f l a o v = some (swapC l a o v) := by
  unfold impl_SwapCell.f slices_Clone_int_int.f swapC
  rw [if_pos (by omega)]
  simp only [Option.bind_some, in_, decide_eq_true_eq]
  rw [w64 (by omega) (by omega)]
  by_cases h : 0 ≤ a ∧ a < l.length
  · by_cases h2 : rd l a = o
    · rw [if_pos (by omega), if_pos h.1, if_pos h.2, if_pos h2, if_pos h.2, if_pos ⟨h, h2⟩]
    · rw [if_pos (by omega), if_pos h.1, if_pos h.2, if_neg h2, if_neg (fun x => h2 x.2)]
  · rw [if_neg (by omega), if_neg (fun x => h x.1)]

def loadC (l : List Int) (a : Int) : Int × Bool := if 0 ≤ a ∧ a < l.length then (rd l a, true) else (0, false)
theorem i_LoadCell (l : List Int) (a : Int) (hl : l.length ≤ 1048576) : impl_LoadCell.f l a = some (loadC l a) := by
  unfold impl_LoadCell.f loadC
  rw [in_, w64 (by omega) (by omega)]
  simp only [Option.bind_some, decide_eq_true_eq]
  by_cases h : 0 ≤ a ∧ a < l.length
  · rw [if_pos (by omega), if_pos h.1, if_pos h.2, if_pos h]
  · rw [if_neg (by omega), if_neg h]

theorem sameInts_l (l : List Int) (hl : l.length ≤ 1048576) (d : Nat) : ∀ i : Nat, i + d = l.length → Ev (fun k => laws_sameInts.l0 k l l i) true := by
  induction d with
  | zero =>
    intro i hi
    refine Ev.step (f := fun _ => some true) (fun k => ?_) (Ev.now _)
    simp only [laws_sameInts.l0]
    rw [if_neg (by omega)]
  | succ d ih =>
    intro i hi
    refine Ev.step (fun k => ?_) (ih (i + 1) (by omega))
    simp only [laws_sameInts.l0, if_true]
    rw [if_pos (by omega), if_pos (by omega), w64 (by omega) (by omega), if_pos (by omega)]
    rfl
theorem sameInts_refl (l : List Int) (hl : l.length ≤ 1048576) : Ev (fun k => laws_sameInts.f k l l) true := by
  unfold laws_sameInts.f
  simp only [if_true]
  exact sameInts_l l hl l.length 0 (by omega)

def cdif : List Int → List Int → Nat
  | [], m => m.length
  | _ :: l, [] => l.length + 1
  | x :: l, y :: m => (if x = y then 0 else 1) + cdif l m
theorem cdif_nil (l : List Int) : cdif l [] = l.length := by cases l <;> simp [cdif]
theorem cdif_out (l m : List Int) (i : Nat) (h : i < l.length ∨ i < m.length) (h2 : l.length ≤ i ∨ m.length ≤ i) : cdif (l.drop i) (m.drop i) = cdif (l.drop (i + 1)) (m.drop (i + 1)) + 1 := by
  rcases h2 with h2 | h2
  · rw [List.drop_eq_nil_of_le h2, List.drop_eq_nil_of_le (show l.length ≤ i + 1 by omega), cdif, cdif, List.length_drop, List.length_drop]
    omega
  · rw [List.drop_eq_nil_of_le h2, List.drop_eq_nil_of_le (show m.length ≤ i + 1 by omega), cdif_nil, cdif_nil, List.length_drop, List.length_drop]
    omega
theorem cdif_in (l m : List Int) (i : Nat) (h : i < l.length) (h2 : i < m.length) : cdif (l.drop i) (m.drop i) = cdif (l.drop (i + 1)) (m.drop (i + 1)) + (if rd l i = rd m i then 0 else 1) := by
  rw [List.drop_eq_getElem_cons h, List.drop_eq_getElem_cons h2, cdif, rd_eq l i h, rd_eq m i h2]
  omega
theorem cdif_end (l m : List Int) (i : Nat) (h : l.length ≤ i) (h2 : m.length ≤ i) : cdif (l.drop i) (m.drop i) = 0 := by
  rw [List.drop_eq_nil_of_le h, List.drop_eq_nil_of_le h2]; rfl
theorem cdif_self (l : List Int) : cdif l l = 0 := by
  induction l with
  | nil => rfl
  | cons x l ih => rw [cdif, ih]; simp
theorem cdif_set (l : List Int) : ∀ (i : Nat) (v : Int), cdif l (l.set i v) ≤ 1 := by
  induction l with
  | nil => intro i v; simp [cdif]
  | cons x l ih =>
    intro i v
    cases i with
    | zero =>
      rw [List.set_cons_zero, cdif, cdif_self]
      split <;> omega
    | succ i =>
      rw [List.set_cons_succ, cdif]
      have := ih i v
      simp only [if_true]
      omega

theorem i_CountDifferences_l (l m : List Int) (hl : l.length ≤ 1048576) (hm : m.length ≤ 1048576) (M : Int) (hM : M = mx l.length m.length) (d : Nat) : ∀ (i : Nat) (acc : Int), l.length ≤ i + d → m.length ≤ i + d → i ≤ 1048576 → 0 ≤ acc → acc ≤ i →
    Ev (fun k => impl_CountDifferences.l0 k l m acc M i) (acc + cdif (l.drop i) (m.drop i)) := by
  have hM' : (l.length : Int) ≤ M ∧ (m.length : Int) ≤ M ∧ (M = l.length ∨ M = m.length) := by
    subst hM; unfold mx; split <;> omega
  have stop : ∀ (i : Nat) (acc : Int), l.length ≤ i → m.length ≤ i → Ev (fun k => impl_CountDifferences.l0 k l m acc M i) (acc + cdif (l.drop i) (m.drop i)) := by
    intro i acc h1 h2
    rw [cdif_end l m i h1 h2]
    refine Ev.step (f := fun _ => some _) (fun k => ?_) (Ev.now _)
    simp only [impl_CountDifferences.l0]
    rw [if_neg (by omega)]
    simp
  induction d with
  | zero =>
    intro i acc h1 h2 _ _ _
    exact stop i acc h1 h2
  | succ d ih =>
    intro i acc h1 h2 h3 h4 h5
    by_cases h6 : l.length ≤ i ∧ m.length ≤ i
    · exact stop i acc h6.1 h6.2
    · by_cases h7 : l.length ≤ i ∨ m.length ≤ i
      · have := ih (i + 1) (acc + 1) (by omega) (by omega) (by omega) (by omega) (by omega)
        rw [cdif_out l m i (by omega) h7]
        rw [show acc + ((cdif (l.drop (i + 1)) (m.drop (i + 1)) + 1 : Nat) : Int) = acc + 1 + (cdif (l.drop (i + 1)) (m.drop (i + 1)) : Int) by omega]
        refine Ev.step (fun k => ?_) this
        simp only [impl_CountDifferences.l0]
        rw [if_pos (by omega), w64 (x := acc + 1) (by omega) (by omega), w64 (x := (i : Int) + 1) (by omega) (by omega)]
        by_cases h8 : (i : Int) ≥ l.length
        · rw [if_pos h8]; rfl
        · rw [if_neg h8, if_pos (by omega)]; rfl
      · have e := cdif_in l m i (by omega) (by omega)
        by_cases h8 : rd l i = rd m i
        · have := ih (i + 1) acc (by omega) (by omega) (by omega) (by omega) (by omega)
          rw [if_pos h8] at e
          rw [e]
          refine Ev.step (fun k => ?_) this
          simp only [impl_CountDifferences.l0]
          rw [if_pos (by omega), if_neg (by omega), if_neg (by omega), if_pos (by omega), if_pos (by omega), if_pos (by omega), if_pos h8, w64 (x := (i : Int) + 1) (by omega) (by omega)]
          rfl
        · have := ih (i + 1) (acc + 1) (by omega) (by omega) (by omega) (by omega) (by omega)
          rw [if_neg h8] at e
          rw [e, show acc + ((cdif (l.drop (i + 1)) (m.drop (i + 1)) + 1 : Nat) : Int) = acc + 1 + (cdif (l.drop (i + 1)) (m.drop (i + 1)) : Int) by omega]
          refine Ev.step (fun k => ?_) this
          simp only [impl_CountDifferences.l0]
          rw [if_pos (by omega), if_neg (by omega), if_neg (by omega), if_pos (by omega), if_pos (by omega), if_pos (by omega), if_neg h8, w64 (x := acc + 1) (by omega) (by omega), w64 (x := (i : Int) + 1) (by omega) (by omega)]
          rfl
theorem i_CountDifferences (l m : List Int) (hl : l.length ≤ 1048576) (hm : m.length ≤ 1048576) : Ev (fun k => impl_CountDifferences.f k l m) (cdif l m) := by
  have := i_CountDifferences_l l m hl hm _ rfl 1048576 0 0 (by omega) (by omega) (by omega) (by omega) (by omega)
  simpa [impl_CountDifferences.f] using this

theorem l4Cells_l (b : List Int) (hb : b.length ≤ maxLen) (d : Nat) : ∀ (out : List Int) (i h : Int), 0 ≤ i → out.length + d ≤ 100 → ∃ l i' h', Ev (fun k => spec_l4Cells.l0 k out d b i h) (l, i', h') ∧ l.length ≤ 100 ∧ 0 ≤ i' := by
  induction d with
  | zero =>
    intro out i h hi ho
    refine ⟨out, i, h, Ev.step (f := fun _ => some _) (fun k => ?_) (Ev.now _), by omega, hi⟩
    simp only [spec_l4Cells.l0]
    rw [if_neg (by omega)]
  | succ d ih =>
    intro out i h hi ho
    obtain ⟨x, i1, h1, e, _, _, _, _, hi1⟩ := l1Below b i h 5 hb hi (by omega)
    obtain ⟨l, i', h', hl, hl2, hi'⟩ := ih (out ++ [x]) i1 h1 hi1 (by simp; omega)
    refine ⟨l, i', h', Ev.step (fun k => ?_) hl, hl2, hi'⟩
    simp only [spec_l4Cells.l0]
    rw [if_pos (by omega), e]
    simp only [Option.bind_some]
    rw [if_pos (by omega), w64 (by omega) (by omega), show (((d + 1 : Nat) : Int) - 1) = (d : Int) by omega]
theorem drawSwap (c : List Int) (hc : c.length ≤ maxLen) : ∃ l a o v, Ev (fun k => spec_DrawSwapCell.f k c) (l, a, o, v) ∧ l.length ≤ 100 := by
  unfold spec_DrawSwapCell.f
  obtain ⟨h, hn⟩ := l1New c hc
  obtain ⟨n, i1, h1, e1, n0, n1, _, _, hi1⟩ := l1Below c 0 h 6 hc (by omega) (by omega)
  obtain ⟨m, rfl⟩ := Int.eq_ofNat_of_zero_le n0
  obtain ⟨l, i2, h2, el, hl, hi2⟩ := l4Cells_l c hc m [] i1 h1 hi1 (by have := n1 (by omega); simp; omega)
  obtain ⟨a, i3, h3, e3, _, _, _, _, hi3⟩ := l1Below c i2 h2 8 hc hi2 (by omega)
  obtain ⟨o, i4, h4, e4, _, _, _, _, hi4⟩ := l1Below c i3 h3 5 hc hi3 (by omega)
  obtain ⟨v, i5, h5, e5, _, _, _, _, hi5⟩ := l1Below c i4 h4 9 hc hi4 (by omega)
  refine ⟨l, wrap64 (a - 1), o, v, ?_, hl⟩
  refine Ev.bind hn ?_
  refine Ev.bind (a := (l, i2, h2)) ?_ ?_
  · unfold spec_l4Cells.f
    simp only [e1, Option.bind_some]
    exact el
  · simp only [e3, e4, e5, Option.bind_some]
    exact Ev.now _
theorem FnCells : laws_FnCells.Pure := by
  intro c hc _ _
  unfold laws_FnCells.f laws_big.f
  simp only [Option.bind_some, decide_eq_true_eq]
  by_cases hbig : (c.length : Int) > 1048576
  · exact ⟨0, by rw [if_pos hbig]⟩
  · simp only [if_neg hbig]
    obtain ⟨l, a, o, v, hd, hl⟩ := drawSwap c hc
    have hl' : l.length ≤ 1048576 := by omega
    refine (Ev.bind hd ?_).rounds
    simp only [i_SwapCell l a o v hl', s_SwapCell l a o v hl', i_StoreCell l a v hl', s_StoreCell l a v hl', i_LoadCell l a hl', Option.bind_some, bne_self_eq_false, Bool.false_eq_true, if_false]
    have ht : (storeC l a v).1.length ≤ 1048576 := by rw [storeC_len]; exact hl'
    have hw : (swapC l a o v).1.length ≤ 1048576 := by rw [swapC_len]; exact hl'
    have hcd : (cdif l (storeC l a v).1 : Int) ≤ 1 := by
      unfold storeC
      split
      · have := cdif_set l a.toNat v
        simp only
        omega
      · simp only [cdif_self]
        omega
    have tail : ∀ b : Bool, b = ((loadC l a).2 && ((loadC l a).1 == o)) → Ev (fun k => laws_FnCells.j0 k l o b (storeC l a v).1 (loadC l a).1 (loadC l a).2 false) true := by
      intro b hb
      have fin : Ev (fun k => (impl_CountDifferences.f k l (storeC l a v).1).bind fun t => if t ≤ 1 then ((impl_CountDifferences.f k l l).bind fun t2 => if t2 = 0 then ((impl_CountDifferences.f k l []).bind fun t3 => some (t3 == (l.length : Int))) else some false) else some false) true := by
        refine Ev.bind (i_CountDifferences l _ hl' ht) ?_
        simp only [if_pos hcd]
        refine Ev.bind (i_CountDifferences l l hl' hl') ?_
        simp only [cdif_self, Int.ofNat_zero, Int.natCast_zero, if_true]
        refine Ev.bind (i_CountDifferences l [] hl' (by simp)) ?_
        rw [cdif_nil]
        simp only [beq_self_eq_true]
        exact Ev.now _
      refine Ev.step (fun k => ?_) fin
      simp only [laws_FnCells.j0]
      rw [if_neg (by simp)]
      by_cases h : (loadC l a).2 = true
      · rw [if_pos h, if_pos (by rw [hb, h]; simp)]
      · rw [if_neg h, if_pos (by rw [hb]; simp [Bool.eq_false_iff.2 h])]
    refine Ev.bind (sameInts_refl _ hw) ?_
    simp only [if_true]
    refine Ev.bind (sameInts_refl _ ht) ?_
    simp only [if_true]
    by_cases hin : 0 ≤ a ∧ a < l.length
    · have e1 : storeC l a v = (l.set a.toNat v, true) := by unfold storeC; rw [if_pos hin]
      have e2 : loadC l a = (rd l a, true) := by unfold loadC; rw [if_pos hin]
      simp only [e1, e2, bne_self_eq_false, Bool.false_eq_true, if_false]
      rw [e1, e2] at tail
      by_cases ho : rd l a = o
      · have e3 : swapC l a o v = (l.set a.toNat v, true) := by unfold swapC; rw [if_pos ⟨hin, ho⟩]
        simp only [e3, if_true]
        refine Ev.bind (sameInts_refl _ (by simpa using hl')) ?_
        simp only [if_true]
        exact tail true (by simp [ho])
      · have e3 : swapC l a o v = (l, false) := by unfold swapC; rw [if_neg (fun x => ho x.2)]
        simp only [e3, Bool.false_eq_true, if_false]
        refine Ev.bind (sameInts_refl _ hl') ?_
        simp only [Bool.not_true]
        exact tail false (by simp [ho])
    · have e1 : storeC l a v = (l, false) := by unfold storeC; rw [if_neg hin]
      have e2 : loadC l a = (0, false) := by unfold loadC; rw [if_neg hin]
      have e3 : swapC l a o v = (l, false) := by unfold swapC; rw [if_neg (fun x => hin x.1)]
      simp only [e1, e2, e3, bne_self_eq_false, Bool.false_eq_true, if_false]
      rw [e1, e2] at tail
      refine Ev.bind (sameInts_refl _ hl') ?_
      simp only [Bool.not_true]
      exact tail false (by simp)

end Go.Proofs.Ytlbbnepkdhlgmab.Pure
