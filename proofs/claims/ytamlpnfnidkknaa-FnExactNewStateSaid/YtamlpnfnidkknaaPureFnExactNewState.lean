/- The pure side of FnExactNewState: the program's NewState answers what the reference's does, for every configuration, in memory of its own. No condition. -/
import Derived.Test.YtamlpnfnidkknaaGFnExactNewStatex12
import Derived.OpenShut
import Derived.Laws.BitsLemmas
set_option linter.unusedVariables false
set_option linter.unusedSimpArgs false
namespace Go.Proofs.Ytamlpnfnidkknaa.Pure
open Go.RowKit Go.Proofs.Ytamlpnfnidkknaa.GFnExactNewState Go.Proofs.YtamlpnfnidkknaaW.PrintWords Go.Proofs.YtamlpnfnidkknaaW.PrintLast

theorem w64 {x : Int} (h : -9223372036854775808 ≤ x) (h' : x ≤ 9223372036854775807) : wrap64 x = x := by unfold wrap64; omega
theorem tdiv_pos {x y : Int} (h : 0 ≤ x) : Int.tdiv x y = x / y := Int.tdiv_eq_ediv_of_nonneg h
theorem tmod_pos {x y : Int} (h : 0 ≤ x) : Int.tmod x y = x % y := Int.tmod_eq_emod_of_nonneg h
theorem eq_strs {g w : Option ByteArray} {r : ByteArray} (h1 : w = some r) (h2 : g = some r) : (w.bind fun t => g.bind fun u => if u.toList = t.toList then some true else some false) = some true := by
  subst h1; subst h2; simp
theorem eq_ints {g w : Option Int} {r : Int} (h1 : w = some r) (h2 : g = some r) : (w.bind fun t => g.bind fun u => if u = t then some true else some false) = some true := by
  subst h1; subst h2; simp
theorem eq_bools {g w : Option Bool} {r : Bool} (h1 : w = some r) (h2 : g = some r) : (w.bind fun t => g.bind fun u => if (u != t) = true then some false else some true) = some true := by
  subst h1; subst h2; simp
theorem ev_strs {g w : Nat → Option ByteArray} {r : ByteArray} (h1 : Ev w r) (h2 : Ev g r) : ∃ k, ((w k).bind fun t => (g k).bind fun u => if u.toList = t.toList then some true else some false) = some true := by
  obtain ⟨K, h1⟩ := h1
  obtain ⟨L, h2⟩ := h2
  exact ⟨max K L, eq_strs (h1 _ (by omega)) (h2 _ (by omega))⟩
theorem ev2 {α β : Type} {g : Nat → Option α} {f : Nat → Option β} {a : α} {b : β} {F : α → β → Option Bool} (hg : Ev g a) (hf : Ev f b) (h : F a b = some true) : ∃ k, ((g k).bind fun t => (f k).bind fun u => F t u) = some true :=
  (Ev.bind hg (Ev.bind hf ⟨0, fun _ _ => h⟩)).rounds
theorem rd_eq (l : List Int) (i : Nat) (h : i < l.length) : rd l (i : Int) = l[i] := by
  unfold rd
  rw [show ((i : Int)).toNat = i by omega, List.getD_eq_getElem?_getD, List.getElem?_eq_getElem h]
  rfl
theorem l1In_ (x a b : Int) : spec_l1In.f x a b = some (decide (a ≤ x ∧ x ≤ b)) := by
  unfold spec_l1In.f
  by_cases h : a ≤ x <;> simp [h]
theorem in_ (x a b : Int) : impl_in.f x a b = some (decide (a ≤ x ∧ x ≤ b)) := by
  unfold impl_in.f
  by_cases h : a ≤ x <;> simp [h]
def isC (a b c d e f : Int) : Prop := (1 ≤ a ∧ a ≤ 4) ∧ (1 ≤ b ∧ b ≤ 4) ∧ (1 ≤ c ∧ c ≤ 24) ∧ (1 ≤ d ∧ d ≤ 4) ∧ (0 ≤ e ∧ e ≤ 2) ∧ (1 ≤ f ∧ f ≤ 99)
instance (a b c d e f : Int) : Decidable (isC a b c d e f) := by unfold isC; infer_instance
theorem s_IsConfig (a b c d e f : Int) : spec_IsConfig.f a b c d e f = some (decide (isC a b c d e f)) := by
  unfold spec_IsConfig.f isC
  simp only [l1In_, Option.bind_some, decide_eq_true_eq]
  repeat' split
  all_goals simp [*]
theorem i_IsConfig (a b c d e f : Int) : impl_IsConfig.f a b c d e f = some (decide (isC a b c d e f)) := by
  unfold impl_IsConfig.f isC
  simp only [in_, Option.bind_some, decide_eq_true_eq]
  repeat' split
  all_goals simp [*]
def cntC (a b c d e f : Int) : Int := if isC a b c d e f then 2 + 3 * a + b + 3 * c else 0
theorem s_CellCount (a b c d e f : Int) : spec_CellCount.f a b c d e f = some (cntC a b c d e f) := by
  unfold spec_CellCount.f cntC
  simp only [s_IsConfig, l1In_, Option.bind_some, decide_eq_true_eq]
  by_cases h : isC a b c d e f
  · have h' := h
    unfold isC at h'
    rw [if_pos h, if_pos h]
    congr 1
    unfold wrap64
    omega
  · rw [if_neg h, if_neg h]
theorem i_CellCount (a b c d e f : Int) : impl_CellCount.f a b c d e f = some (cntC a b c d e f) := by
  unfold impl_CellCount.f cntC
  simp only [i_IsConfig, in_, Option.bind_some, decide_eq_true_eq]
  by_cases h : isC a b c d e f
  · have h' := h
    unfold isC at h'
    rw [if_pos h, if_pos h]
    congr 1
    unfold wrap64
    omega
  · rw [if_neg h, if_neg h]
def newC (a b c d e f : Int) : List Int := if isC a b c d e f then (List.replicate (cntC a b c d e f).toNat 0).set 0 1 else []
theorem cntC_b (a b c d e f : Int) (h : isC a b c d e f) : 2 ≤ cntC a b c d e f ∧ cntC a b c d e f ≤ 90 := by
  unfold cntC
  rw [if_pos h]
  unfold isC at h
  omega
theorem newC_len (a b c d e f : Int) : (newC a b c d e f).length = (cntC a b c d e f).toNat := by
  unfold newC
  by_cases h : isC a b c d e f
  · rw [if_pos h]; simp
  · rw [if_neg h]
    unfold cntC
    rw [if_neg h]
    rfl
theorem newC_small (a b c d e f : Int) : (newC a b c d e f).length ≤ 90 := by
  rw [newC_len]
  by_cases h : isC a b c d e f
  · have := cntC_b a b c d e f h
    omega
  · unfold cntC
    rw [if_neg h]
    simp
theorem s_NewCells (a b c d e f : Int) : spec_NewCells.f a b c d e f = some (newC a b c d e f) := by
  unfold spec_NewCells.f newC
  simp only [s_IsConfig, s_CellCount, Option.bind_some, decide_eq_true_eq, spec_ClockCell.f]
  by_cases h : isC a b c d e f
  · have hb := cntC_b a b c d e f h
    rw [if_pos h, if_pos h, if_pos (by omega), if_pos (by omega), if_pos (by omega), if_pos (by simp; omega)]
    rfl
  · rw [if_neg h, if_neg h]
theorem i_NewCells (a b c d e f : Int) : impl_NewCells.f a b c d e f = some (newC a b c d e f) := by
  unfold impl_NewCells.f newC
  simp only [i_IsConfig, i_CellCount, Option.bind_some, decide_eq_true_eq, impl_ClockCell.f]
  by_cases h : isC a b c d e f
  · have hb := cntC_b a b c d e f h
    rw [if_pos h, if_pos h, if_pos (by omega), if_pos (by omega), if_pos (by omega), if_pos (by simp; omega)]
    rfl
  · rw [if_neg h, if_neg h]
def seqL (a : Int) (n : Nat) : List Int := (List.range n).map fun (j : Nat) => a + (j : Int)
theorem seqL_len (a : Int) (n : Nat) : (seqL a n).length = n := by simp [seqL]
theorem seqL_succ (a : Int) (n : Nat) : seqL a (n + 1) = seqL a n ++ [a + (n : Int)] := by simp [seqL, List.range_succ]
theorem rd_seqL (a : Int) (n i : Nat) (h : i < n) : rd (seqL a n) (i : Int) = a + (i : Int) := by
  rw [rd_eq _ _ (by rw [seqL_len]; exact h)]
  simp [seqL]
theorem markIntS_l (l : List Int) (hl : l.length ≤ 1048576) (a : Int) (h0 : 0 ≤ a) (h1 : a ≤ 4611686018427387904) (d : Nat) : ∀ i : Nat, i + d = l.length →
    Ev (fun k => laws_markIntS.l0 k (seqL a i ++ l.drop i) (a + (i : Int)) i) (a + (l.length : Int), seqL a l.length) := by
  induction d with
  | zero =>
    intro i hi
    refine Ev.step (f := fun _ => some _) (fun k => ?_) (Ev.now _)
    simp only [laws_markIntS.l0]
    rw [if_neg (by rw [List.length_append, seqL_len, List.length_drop]; omega), List.drop_eq_nil_of_le (by omega), List.append_nil, show i = l.length by omega]
  | succ d ih =>
    intro i hi
    refine Ev.step (fun k => ?_) (ih (i + 1) (by omega))
    simp only [laws_markIntS.l0]
    rw [if_pos (by rw [List.length_append, seqL_len, List.length_drop]; omega), if_pos (by omega), w64 (x := a + (i : Int) + 1) (by omega) (by omega), w64 (x := (i : Int) + 1) (by omega) (by omega)]
    congr 1
    · rw [show ((i : Int)).toNat = i by omega, List.set_append_right _ _ (by rw [seqL_len]; omega), seqL_len, Nat.sub_self, List.drop_eq_getElem_cons (by omega), List.set_cons_zero, seqL_succ, List.append_assoc]
      rfl
    · omega
theorem markIntS (l : List Int) (hl : l.length ≤ 1048576) (a : Int) (h0 : 0 ≤ a) (h1 : a ≤ 4611686018427387904) : Ev (fun k => laws_markIntS.f k l a) (a + (l.length : Int), seqL a l.length) := by
  have := markIntS_l l hl a h0 h1 l.length 0 (by omega)
  simpa [laws_markIntS.f, seqL] using this
theorem heldIntS_l (n : Nat) (hl : n ≤ 1048576) (a : Int) (h0 : 0 ≤ a) (h1 : a ≤ 4611686018427387904) (d : Nat) : ∀ i : Nat, i + d = n →
    Ev (fun k => laws_heldIntS.l0 k (seqL a n) (a + (i : Int)) i) (a + (n : Int)) := by
  induction d with
  | zero =>
    intro i hi
    refine Ev.step (f := fun _ => some _) (fun k => ?_) (Ev.now _)
    simp only [laws_heldIntS.l0]
    rw [if_neg (by rw [seqL_len]; omega), show i = n by omega]
  | succ d ih =>
    intro i hi
    refine Ev.step (fun k => ?_) (ih (i + 1) (by omega))
    simp only [laws_heldIntS.l0]
    rw [if_pos (by rw [seqL_len]; omega), if_pos (by omega), rd_seqL a n i (by omega), if_pos rfl, w64 (x := a + (i : Int) + 1) (by omega) (by omega), w64 (x := (i : Int) + 1) (by omega) (by omega)]
    congr 1
    omega
theorem heldIntS (n : Nat) (hl : n ≤ 1048576) (a : Int) (h0 : 0 ≤ a) (h1 : a ≤ 4611686018427387904) : Ev (fun k => laws_heldIntS.f k (seqL a n) a) (a + (n : Int)) := by
  have := heldIntS_l n hl a h0 h1 n 0 (by omega)
  simpa [laws_heldIntS.f] using this
theorem eqIntS_l (l : List Int) (hl : l.length ≤ 1048576) (d : Nat) : ∀ i : Nat, i + d = l.length → Ev (fun k => laws_eqIntS.l0 k l l i) true := by
  induction d with
  | zero =>
    intro i hi
    refine Ev.step (f := fun _ => some true) (fun k => ?_) (Ev.now _)
    simp only [laws_eqIntS.l0]
    rw [if_neg (by omega)]
  | succ d ih =>
    intro i hi
    refine Ev.step (fun k => ?_) (ih (i + 1) (by omega))
    simp only [laws_eqIntS.l0, if_true]
    rw [if_pos (by omega), if_pos (by omega), w64 (by omega) (by omega), if_pos (by omega)]
    rfl
theorem eqIntS_refl (l : List Int) (hl : l.length ≤ 1048576) : Ev (fun k => laws_eqIntS.f k l l) true := by
  unfold laws_eqIntS.f
  simp only [if_true]
  exact eqIntS_l l hl l.length 0 (by omega)

abbrev zT : S36 := z36
def mT (a : Int) : S36 := ⟨a, (⟨a + 1, a + 1 + 1, a + 1 + 1 + 1⟩ : S32), (⟨a + 1 + 1 + 1 + 1, a + 1 + 1 + 1 + 1 + 1⟩ : S33), a + 1 + 1 + 1 + 1 + 1 + 1, a + 1 + 1 + 1 + 1 + 1 + 1 + 1, a + 1 + 1 + 1 + 1 + 1 + 1 + 1 + 1, a + 1 + 1 + 1 + 1 + 1 + 1 + 1 + 1 + 1, a + 1 + 1 + 1 + 1 + 1 + 1 + 1 + 1 + 1 + 1, a + 1 + 1 + 1 + 1 + 1 + 1 + 1 + 1 + 1 + 1 + 1, a + 1 + 1 + 1 + 1 + 1 + 1 + 1 + 1 + 1 + 1 + 1 + 1, a + 1 + 1 + 1 + 1 + 1 + 1 + 1 + 1 + 1 + 1 + 1 + 1 + 1, [], [], [], [], []⟩
def mTs (a : Int) (n : Nat) : List S36 := (List.range n).map fun (j : Nat) => mT (a + 14 * (j : Int))
theorem mTs_len (a : Int) (n : Nat) : (mTs a n).length = n := by simp [mTs]
theorem mTs_succ (a : Int) (n : Nat) : mTs a (n + 1) = mTs a n ++ [mT (a + 14 * (n : Int))] := by simp [mTs, List.range_succ]
theorem rd_mTs (a : Int) (n i : Nat) (h : i < n) : rd_T36 (mTs a n) (i : Int) = mT (a + 14 * (i : Int)) := by
  unfold rd_T36 mTs
  rw [Int.toNat_natCast, List.getD_eq_getElem?_getD, List.getElem?_map, List.getElem?_range h]
  rfl
theorem rd_setT (X : List S36) (i : Nat) (h : i < X.length) (t : S36) : rd_T36 (X.set i t) (i : Int) = t := by
  unfold rd_T36
  rw [Int.toNat_natCast, List.getD_eq_getElem?_getD, List.getElem?_set_self h]
  rfl
theorem rd_rep (n i : Nat) (h : i < n) : rd_T36 (List.replicate n zT) (i : Int) = zT := by
  unfold rd_T36
  rw [Int.toNat_natCast, List.getD_eq_getElem?_getD, List.getElem?_replicate, if_pos h]
  rfl
theorem plus14 (A : Int) (h0 : 0 ≤ A) (h1 : A ≤ 4611686018427387904) : wrap64 (A + 1) = A + 1 ∧ wrap64 (A + 1 + 1) = A + 1 + 1 ∧ wrap64 (A + 1 + 1 + 1) = A + 1 + 1 + 1 ∧ wrap64 (A + 1 + 1 + 1 + 1) = A + 1 + 1 + 1 + 1 ∧ wrap64 (A + 1 + 1 + 1 + 1 + 1) = A + 1 + 1 + 1 + 1 + 1 ∧ wrap64 (A + 1 + 1 + 1 + 1 + 1 + 1) = A + 1 + 1 + 1 + 1 + 1 + 1 ∧ wrap64 (A + 1 + 1 + 1 + 1 + 1 + 1 + 1) = A + 1 + 1 + 1 + 1 + 1 + 1 + 1 ∧ wrap64 (A + 1 + 1 + 1 + 1 + 1 + 1 + 1 + 1) = A + 1 + 1 + 1 + 1 + 1 + 1 + 1 + 1 ∧ wrap64 (A + 1 + 1 + 1 + 1 + 1 + 1 + 1 + 1 + 1) = A + 1 + 1 + 1 + 1 + 1 + 1 + 1 + 1 + 1 ∧ wrap64 (A + 1 + 1 + 1 + 1 + 1 + 1 + 1 + 1 + 1 + 1) = A + 1 + 1 + 1 + 1 + 1 + 1 + 1 + 1 + 1 + 1 ∧ wrap64 (A + 1 + 1 + 1 + 1 + 1 + 1 + 1 + 1 + 1 + 1 + 1) = A + 1 + 1 + 1 + 1 + 1 + 1 + 1 + 1 + 1 + 1 + 1 ∧ wrap64 (A + 1 + 1 + 1 + 1 + 1 + 1 + 1 + 1 + 1 + 1 + 1 + 1) = A + 1 + 1 + 1 + 1 + 1 + 1 + 1 + 1 + 1 + 1 + 1 + 1 ∧ wrap64 (A + 1 + 1 + 1 + 1 + 1 + 1 + 1 + 1 + 1 + 1 + 1 + 1 + 1) = A + 1 + 1 + 1 + 1 + 1 + 1 + 1 + 1 + 1 + 1 + 1 + 1 + 1 ∧ wrap64 (A + 1 + 1 + 1 + 1 + 1 + 1 + 1 + 1 + 1 + 1 + 1 + 1 + 1 + 1) = A + 1 + 1 + 1 + 1 + 1 + 1 + 1 + 1 + 1 + 1 + 1 + 1 + 1 + 1 := ⟨w64 (by omega) (by omega), w64 (by omega) (by omega), w64 (by omega) (by omega), w64 (by omega) (by omega), w64 (by omega) (by omega), w64 (by omega) (by omega), w64 (by omega) (by omega), w64 (by omega) (by omega), w64 (by omega) (by omega), w64 (by omega) (by omega), w64 (by omega) (by omega), w64 (by omega) (by omega), w64 (by omega) (by omega), w64 (by omega) (by omega)⟩
set_option maxHeartbeats 4000000 in
theorem markT_round (k : Nat) (X : List S36) (i : Nat) (hi : i < X.length) (hn : X.length ≤ 1048576) (hz : rd_T36 X (i : Int) = zT) (A : Int) (h0 : 0 ≤ A) (h1 : A ≤ 4611686018427387904) :
    laws_markThreadS.l0 (k + 1) X A (i : Int) = laws_markThreadS.l0 k (X.set i (mT A)) (A + 1 + 1 + 1 + 1 + 1 + 1 + 1 + 1 + 1 + 1 + 1 + 1 + 1 + 1) (((i + 1 : Nat) : Int)) := by
    have hrd : ∀ t, rd_T36 (X.set i t) (i : Int) = t := rd_setT X i hi
    have pi : wrap64 ((i : Int) + 1) = ((i + 1 : Nat) : Int) := w64 (by omega) (by omega)
    have q1 : (i : Int) < (X.length : Int) := by omega
    have q2 : (0 : Int) ≤ (i : Int) := by omega
    obtain ⟨p1, p2, p3, p4, p5, p6, p7, p8, p9, p10, p11, p12, p13, p14⟩ := plus14 A h0 h1
    rw [laws_markThreadS.l0, if_pos q1, if_pos q2]
    simp only [Option.bind_some, Int.toNat_natCast, p1, p2, p3, p4, p5, p6, p7, p8, p9, p10, p11, p12, p13, p14, pi, hrd, hz, List.set_set, laws_markIntS0.f, laws_markEntryS0.f, z36, z32, z33, List.length_nil, if_true, mT]
theorem markT_l (n : Nat) (hn : n ≤ 1048576) (a : Int) (h0 : 0 ≤ a) (h1 : a ≤ 2305843009213693952) (d : Nat) : ∀ i : Nat, i + d = n →
    Ev (fun k => laws_markThreadS.l0 k (mTs a i ++ List.replicate (n - i) zT) (a + 14 * (i : Int)) (i : Int)) (a + 14 * (n : Int), mTs a n) := by
  induction d with
  | zero =>
    intro i hi
    obtain rfl : i = n := by omega
    refine Ev.step (f := fun _ => some _) (fun k => ?_) (Ev.now _)
    rw [laws_markThreadS.l0, if_neg (by rw [List.length_append, mTs_len, List.length_replicate]; omega), Nat.sub_self, List.replicate_zero, List.append_nil]
  | succ d ih =>
    intro i hi
    refine Ev.step (fun k => ?_) (ih (i + 1) (by omega))
    rw [markT_round k (mTs a i ++ List.replicate (n - i) zT) i (by rw [List.length_append, mTs_len, List.length_replicate]; omega) (by rw [List.length_append, mTs_len, List.length_replicate]; omega) ?_ _ (by omega) (by omega)]
    · congr 1
      · rw [show n - i = (n - (i + 1)) + 1 by omega, List.replicate_succ, List.set_append_right _ _ (by rw [mTs_len]; omega), mTs_len, Nat.sub_self, List.set_cons_zero, mTs_succ, List.append_assoc]
        rfl
      · omega
    · unfold rd_T36
      rw [Int.toNat_natCast, List.getD_eq_getElem?_getD, List.getElem?_append_right (by rw [mTs_len]; omega), mTs_len, Nat.sub_self, List.getElem?_replicate, if_pos (by omega)]
      rfl
theorem markT (n : Nat) (hn : n ≤ 1048576) (a : Int) (h0 : 0 ≤ a) (h1 : a ≤ 2305843009213693952) : Ev (fun k => laws_markThreadS.f k (List.replicate n zT) a) (a + 14 * (n : Int), mTs a n) := by
  have := markT_l n hn a h0 h1 n 0 (by omega)
  simpa [laws_markThreadS.f, mTs] using this
theorem heldI0 (x : Int) : Ev (fun k => laws_heldIntS.f k [] x) x := by
  unfold laws_heldIntS.f
  refine Ev.step (f := fun _ => some _) (fun k => ?_) (Ev.now _)
  rw [laws_heldIntS.l0, if_neg (by simp)]
theorem heldE0 (x : Int) : Ev (fun k => laws_heldEntryS.f k [] x) x := by
  unfold laws_heldEntryS.f
  refine Ev.step (f := fun _ => some _) (fun k => ?_) (Ev.now _)
  rw [laws_heldEntryS.l0, if_neg (by simp)]
set_option maxHeartbeats 4000000 in
theorem heldT_l (n : Nat) (hn : n ≤ 1048576) (a : Int) (h0 : 0 ≤ a) (h1 : a ≤ 2305843009213693952) (d : Nat) : ∀ i : Nat, i + d = n →
    Ev (fun k => laws_heldThreadS.l0 k (mTs a n) (a + 14 * (i : Int)) (i : Int)) (a + 14 * (n : Int)) := by
  induction d with
  | zero =>
    intro i hi
    obtain rfl : i = n := by omega
    refine Ev.step (f := fun _ => some _) (fun k => ?_) (Ev.now _)
    rw [laws_heldThreadS.l0, if_neg (by rw [mTs_len]; omega)]
  | succ d ih =>
    intro i hi
    have hr := rd_mTs a n i (by omega)
    have h14 : a + 14 * (((i + 1 : Nat) : Int)) = (a + 14 * (i : Int)) + 1 + 1 + 1 + 1 + 1 + 1 + 1 + 1 + 1 + 1 + 1 + 1 + 1 + 1 := by omega
    have ih := ih (i + 1) (by omega)
    rw [h14] at ih
    generalize hA : a + 14 * (i : Int) = A at hr ih ⊢
    have hA0 : 0 ≤ A := by omega
    have hA1 : A ≤ 4611686018427387904 := by omega
    have pi : wrap64 ((i : Int) + 1) = ((i + 1 : Nat) : Int) := w64 (by omega) (by omega)
    have ng : ¬ (A + 1 + 1 + 1 + 1 + 1 + 1 + 1 + 1 + 1 + 1 + 1 + 1 + 1 + 1 < 0) := by omega
    have q1 : (i : Int) < ((mTs a n).length : Int) := by rw [mTs_len]; omega
    have q2 : (0 : Int) ≤ (i : Int) := by omega
    obtain ⟨p1, p2, p3, p4, p5, p6, p7, p8, p9, p10, p11, p12, p13, p14⟩ := plus14 A hA0 hA1
    refine Ev.step (f := fun k => (laws_heldIntS.f k [] (A + 1 + 1 + 1 + 1 + 1 + 1 + 1 + 1 + 1 + 1 + 1 + 1 + 1 + 1)).bind fun t1 => if t1 < 0 then none else ((laws_heldIntS.f k [] t1).bind fun t2 => if t2 < 0 then none else ((laws_heldEntryS.f k [] t2).bind fun t3 => if t3 < 0 then none else ((laws_heldEntryS.f k [] t3).bind fun t4 => if t4 < 0 then none else ((laws_heldIntS.f k [] t4).bind fun t5 => if t5 < 0 then none else (laws_heldThreadS.l0 k (mTs a n) t5 (((i + 1 : Nat) : Int)))))))) (fun k => ?_) ?_
    · rw [laws_heldThreadS.l0, if_pos q1, if_pos q2]
      simp only [hr, p1, p2, p3, p4, p5, p6, p7, p8, p9, p10, p11, p12, p13, p14, pi, mT, if_true]
    · refine Ev.bind (heldI0 _) ?_
      simp only [if_neg ng]
      refine Ev.bind (heldI0 _) ?_
      simp only [if_neg ng]
      refine Ev.bind (heldE0 _) ?_
      simp only [if_neg ng]
      refine Ev.bind (heldE0 _) ?_
      simp only [if_neg ng]
      refine Ev.bind (heldI0 _) ?_
      simp only [if_neg ng]
      exact ih
theorem heldT (n : Nat) (hn : n ≤ 1048576) (a : Int) (h0 : 0 ≤ a) (h1 : a ≤ 2305843009213693952) : Ev (fun k => laws_heldThreadS.f k (mTs a n) a) (a + 14 * (n : Int)) := by
  have := heldT_l n hn a h0 h1 n 0 (by omega)
  simpa [laws_heldThreadS.f] using this
theorem eqE0 : Ev (fun k => laws_eqEntryS.f k [] []) true := by
  unfold laws_eqEntryS.f
  simp only [if_true]
  refine Ev.step (f := fun _ => some true) (fun k => ?_) (Ev.now _)
  rw [laws_eqEntryS.l0, if_neg (by simp)]
theorem eq_thread0 : Ev (fun k => laws_eqThread.f k 0 0 0 0 0 0 0 0 0 0 0 0 0 0 [] [] [] [] [] 0 0 0 0 0 0 0 0 0 0 0 0 0 0 [] [] [] [] []) true := by
  unfold laws_eqThread.f laws_eqOp.f laws_eqResult.f
  simp only [if_true, Option.bind_some]
  refine Ev.bind (eqIntS_refl [] (by decide)) ?_
  simp only [if_true]
  refine Ev.bind (eqIntS_refl [] (by decide)) ?_
  simp only [if_true]
  refine Ev.bind eqE0 ?_
  simp only [if_true]
  refine Ev.bind eqE0 ?_
  simp only [if_true]
  refine Ev.bind (eqIntS_refl [] (by decide)) ?_
  simp only [if_true]
  exact Ev.now _
theorem eqT_l (n : Nat) (hn : n ≤ 1048576) (d : Nat) : ∀ i : Nat, i + d = n → Ev (fun k => laws_eqThreadS.l0 k (List.replicate n zT) (List.replicate n zT) (i : Int)) true := by
  induction d with
  | zero =>
    intro i hi
    refine Ev.step (f := fun _ => some true) (fun k => ?_) (Ev.now _)
    rw [laws_eqThreadS.l0, if_neg (by rw [List.length_replicate]; omega)]
  | succ d ih =>
    intro i hi
    have hr := rd_rep n i (by omega)
    have ih := ih (i + 1) (by omega)
    have hlen : (List.replicate n zT).length = n := List.length_replicate
    generalize List.replicate n zT = L at hr ih hlen ⊢
    have pi : wrap64 ((i : Int) + 1) = ((i + 1 : Nat) : Int) := w64 (by omega) (by omega)
    refine Ev.step (f := fun k => (laws_eqThread.f k 0 0 0 0 0 0 0 0 0 0 0 0 0 0 [] [] [] [] [] 0 0 0 0 0 0 0 0 0 0 0 0 0 0 [] [] [] [] []).bind fun t => if t = true then laws_eqThreadS.l0 k L L (((i + 1 : Nat) : Int)) else none) (fun k => ?_) ?_
    · rw [laws_eqThreadS.l0, if_pos (by omega), if_pos (by omega), if_pos (by omega)]
      simp only [hr, pi]
      rfl
    · refine Ev.bind eq_thread0 ?_
      simp only [if_true]
      exact ih
theorem eqT (n : Nat) (hn : n ≤ 1048576) : Ev (fun k => laws_eqThreadS.f k (List.replicate n zT) (List.replicate n zT)) true := by
  unfold laws_eqThreadS.f
  simp only [if_true]
  exact eqT_l n hn n 0 (by omega)
theorem eq_state (a b c d e f : Int) (l6 l7 : List Int) (n : Nat) (h6 : l6.length ≤ 1048576) (h7 : l7.length ≤ 1048576) (hn : n ≤ 1048576) :
    Ev (fun k => laws_eqState.f k a b c d e f l6 l7 (List.replicate n zT) 0 0 0 0 a b c d e f l6 l7 (List.replicate n zT) 0 0 0 0) true := by
  unfold laws_eqState.f laws_eqConfig.f
  simp only [if_true, Option.bind_some]
  refine Ev.bind (eqIntS_refl l6 h6) ?_
  simp only [if_true]
  refine Ev.bind (eqIntS_refl l7 h7) ?_
  simp only [if_true]
  refine Ev.bind (eqT n hn) ?_
  simp only [if_true]
  exact Ev.now _
theorem s_loop (b0 b1 b2 b3 b4 b5 : Int) (l6 l7 : List Int) (n : Nat) (hn : n ≤ 1048576) (a1 a2 a3 a4 a5 : Int) (d : Nat) : ∀ i : Nat, i + d = n →
    Ev (fun k => spec_NewState.l0 k (i : Int) (n : Int) a1 a2 a3 a4 a5 b0 b1 b2 b3 b4 b5 l6 l7 (List.replicate i zT) 0 0 0 0) (b0, b1, b2, b3, b4, b5, l6, l7, List.replicate n zT, 0, 0, 0, 0) := by
  induction d with
  | zero =>
    intro i hi
    obtain rfl : i = n := by omega
    refine Ev.step (f := fun _ => some _) (fun k => ?_) (Ev.now _)
    rw [spec_NewState.l0, if_neg (by omega)]
  | succ d ih =>
    intro i hi
    refine Ev.step (fun k => ?_) (ih (i + 1) (by omega))
    rw [spec_NewState.l0, if_pos (by omega), if_pos (by rw [List.length_replicate]; omega), w64 (by omega) (by omega), List.replicate_succ']
    rfl
theorem s_NewState (a b c d e f : Int) (h : isC a b c d e f) : Ev (fun k => spec_NewState.f k a b c d e f) (a, b, c, d, e, f, newC a b c d e f, List.replicate c.toNat 0, List.replicate a.toNat zT, 0, 0, 0, 0) := by
  unfold spec_NewState.f
  simp only [s_IsConfig, s_NewCells, Option.bind_some, decide_eq_true_eq]
  have hb := h
  unfold isC at hb
  simp only [if_pos h, if_pos (show (0 : Int) ≤ c by omega), if_pos (show c.toNat ≤ 35184372088832 by omega)]
  have := s_loop a b c d e f (newC a b c d e f) (List.replicate c.toNat 0) a.toNat (by omega) b c d e f a.toNat 0 (by omega)
  rw [show ((a.toNat : Nat) : Int) = a by omega] at this
  exact this
theorem s_NewState0 (a b c d e f : Int) (h : ¬ isC a b c d e f) : Ev (fun k => spec_NewState.f k a b c d e f) (0, 0, 0, 0, 0, 0, [], [], List.replicate 0 zT, 0, 0, 0, 0) := by
  unfold spec_NewState.f
  simp only [s_IsConfig, Option.bind_some, decide_eq_true_eq]
  simp only [if_neg h]
  exact Ev.now _
theorem i_NewState (a b c d e f : Int) (h : isC a b c d e f) : impl_NewState.f a b c d e f = some (a, b, c, d, e, f, newC a b c d e f, List.replicate c.toNat 0, List.replicate a.toNat zT, 0, 0, 0, 0) := by
  unfold impl_NewState.f
  simp only [i_IsConfig, i_NewCells, Option.bind_some, decide_eq_true_eq]
  have hb := h
  unfold isC at hb
  simp only [if_pos h, if_pos (show (0 : Int) ≤ c by omega), if_pos (show c.toNat ≤ 35184372088832 by omega), if_pos (show (0 : Int) ≤ a by omega), if_pos (show a.toNat ≤ 1213254209959 by omega)]
theorem i_NewState0 (a b c d e f : Int) (h : ¬ isC a b c d e f) : impl_NewState.f a b c d e f = some (0, 0, 0, 0, 0, 0, [], [], List.replicate 0 zT, 0, 0, 0, 0) := by
  unfold impl_NewState.f
  simp only [i_IsConfig, Option.bind_some, decide_eq_true_eq]
  simp only [if_neg h]
  rfl
theorem law_rest (a b c d e f : Int) (l6 l7 : List Int) (n : Nat) (h6 : l6.length ≤ 1048576) (h7 : l7.length ≤ 1048576) (hn : n ≤ 1048576) (A B C D E F : Int)
    (hs : Ev (fun k => spec_NewState.f k A B C D E F) (a, b, c, d, e, f, l6, l7, List.replicate n zT, 0, 0, 0, 0)) (hi : impl_NewState.f A B C D E F = some (a, b, c, d, e, f, l6, l7, List.replicate n zT, 0, 0, 0, 0)) :
    ∃ k, laws_FnExactNewState.f k A B C D E F = some true := by
  unfold laws_FnExactNewState.f laws_markState.f laws_heldState.f
  simp only [hi, Option.bind_some]
  refine (Ev.bind hs ?_).rounds
  refine Ev.bind (eq_state a b c d e f l6 l7 n h6 h7 hn) ?_
  simp only [if_true]
  refine Ev.bind (a := (1 + (l6.length : Int) + (l7.length : Int) + 14 * (n : Int), seqL 1 l6.length, seqL (1 + (l6.length : Int)) l7.length, mTs (1 + (l6.length : Int) + (l7.length : Int)) n)) ?_ ?_
  · refine Ev.bind (markIntS l6 h6 1 (by omega) (by omega)) ?_
    refine Ev.bind (markIntS l7 h7 (1 + (l6.length : Int)) (by omega) (by omega)) ?_
    refine Ev.bind (markT n hn (1 + (l6.length : Int) + (l7.length : Int)) (by omega) (by omega)) ?_
    exact Ev.now _
  · refine Ev.bind (a := 1 + (l6.length : Int) + (l7.length : Int) + 14 * (n : Int)) ?_ ?_
    · refine Ev.bind (heldIntS l6.length h6 1 (by omega) (by omega)) ?_
      simp only [if_neg (show ¬ (1 + (l6.length : Int) < 0) by omega)]
      refine Ev.bind (heldIntS l7.length h7 (1 + (l6.length : Int)) (by omega) (by omega)) ?_
      simp only [if_neg (show ¬ (1 + (l6.length : Int) + (l7.length : Int) < 0) by omega)]
      refine Ev.bind (heldT n hn (1 + (l6.length : Int) + (l7.length : Int)) (by omega) (by omega)) ?_
      simp only [if_neg (show ¬ (1 + (l6.length : Int) + (l7.length : Int) + 14 * (n : Int) < 0) by omega)]
      exact Ev.now _
    · simp only [if_neg (show ¬ (1 + (l6.length : Int) + (l7.length : Int) + 14 * (n : Int) < 0) by omega), if_true]
      exact Ev.now _
theorem FnExactNewState : ∀ a b c d e f : Int, (Lit.int .i64 a).wf = true → (Lit.int .i64 b).wf = true → (Lit.int .i64 c).wf = true → (Lit.int .i64 d).wf = true → (Lit.int .i64 e).wf = true → (Lit.int .i64 f).wf = true → ∃ k, laws_FnExactNewState.f k a b c d e f = some true := by
  intro a b c d e f _ _ _ _ _ _
  by_cases h : isC a b c d e f
  · have hl := newC_small a b c d e f
    have hb := h
    unfold isC at hb
    exact law_rest a b c d e f _ _ _ (by omega) (by rw [List.length_replicate]; omega) (by omega) a b c d e f (s_NewState a b c d e f h) (i_NewState a b c d e f h)
  · exact law_rest 0 0 0 0 0 0 [] [] 0 (by decide) (by decide) (by decide) a b c d e f (s_NewState0 a b c d e f h) (i_NewState0 a b c d e f h)

end Go.Proofs.Ytamlpnfnidkknaa.Pure
