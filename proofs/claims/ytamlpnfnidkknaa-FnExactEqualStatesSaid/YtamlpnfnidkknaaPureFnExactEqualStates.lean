/- The pure side of FnExactEqualStates: the program's EqualStates answers what the reference's does and leaves both states as they were, for all states (the law itself answers true past 1048576). No condition. -/
import Derived.Test.YtamlpnfnidkknaaGFnExactEqualStatesx19
import Derived.OpenShut
import Derived.Laws.BitsLemmas
set_option linter.unusedVariables false
set_option linter.unusedSimpArgs false
namespace Go.Proofs.Ytamlpnfnidkknaa.Pure
open Go.RowKit Go.Proofs.Ytamlpnfnidkknaa.GFnExactEqualStates Go.Proofs.YtamlpnfnidkknaaW.PrintWords Go.Proofs.YtamlpnfnidkknaaW.PrintLast

theorem w64 {x : Int} (h : -9223372036854775808 ≤ x) (h' : x ≤ 9223372036854775807) : wrap64 x = x := by unfold wrap64; omega
theorem tdiv_pos {x y : Int} (h : 0 ≤ x) : Int.tdiv x y = x / y := Int.tdiv_eq_ediv_of_nonneg h
theorem tmod_pos {x y : Int} (h : 0 ≤ x) : Int.tmod x y = x % y := Int.tmod_eq_emod_of_nonneg h
theorem eq_strs {g w : Option ByteArray} {r : ByteArray} (h1 : w = some r) (h2 : g = some r) : (w.bind fun t => g.bind fun u => if u.toList = t.toList then some true else some false) = some true := by
  subst h1; subst h2; simp
theorem eq_ints {g w : Option Int} {r : Int} (h1 : w = some r) (h2 : g = some r) : (w.bind fun t => g.bind fun u => if u = t then some true else some false) = some true := by
  subst h1; subst h2; simp
theorem eq_bools {g w : Option Bool} {r : Bool} (h1 : w = some r) (h2 : g = some r) : (w.bind fun t => g.bind fun u => if (u != t) = true then some false else some true) = some true := by
  subst h1; subst h2; simp
theorem ev_strs {g w : Nat → Option ByteArray} {r : ByteArray} (h1 : Ev w r) (h2 : Ev g r) : ∃ k, ((w k).bind fun t => (g k).bind fun u => if u.toList = t.toList then some true else some false) = some true := by
  obtain ⟨K, h1⟩ := h1
  obtain ⟨L, h2⟩ := h2
  exact ⟨max K L, eq_strs (h1 _ (by omega)) (h2 _ (by omega))⟩
theorem ev2 {α β : Type} {g : Nat → Option α} {f : Nat → Option β} {a : α} {b : β} {F : α → β → Option Bool} (hg : Ev g a) (hf : Ev f b) (h : F a b = some true) : ∃ k, ((g k).bind fun t => (f k).bind fun u => F t u) = some true :=
  (Ev.bind hg (Ev.bind hf ⟨0, fun _ _ => h⟩)).rounds
theorem rd_eq (l : List Int) (i : Nat) (h : i < l.length) : rd l (i : Int) = l[i] := by
  unfold rd
  rw [show ((i : Int)).toNat = i by omega, List.getD_eq_getElem?_getD, List.getElem?_eq_getElem h]
  rfl
theorem rdT_eq (l : List S65) (i : Nat) (h : i < l.length) : rd_T65 l (i : Int) = l[i] := by
  unfold rd_T65
  rw [show ((i : Int)).toNat = i by omega, List.getD_eq_getElem?_getD, List.getElem?_eq_getElem h]
  rfl
def toE (e : S77) : S65 := ⟨e.f0, e.f1, e.f2, e.f3⟩
theorem rdL_eq (l : List S77) (i : Nat) (h : i < l.length) : rd_T77 l (i : Int) = l[i] := by
  unfold rd_T77
  rw [show ((i : Int)).toNat = i by omega, List.getD_eq_getElem?_getD, List.getElem?_eq_getElem h]
  rfl
theorem toEntryS_l (l : List S77) (hl : l.length ≤ 1048576) (d : Nat) : ∀ i : Nat, i + d = l.length → Ev (fun k => laws_toEntryS.l0 k l ((l.map toE).take i ++ List.replicate d z65) i) (l.map toE) := by
  induction d with
  | zero =>
    intro i hi
    refine Ev.step (f := fun _ => some _) (fun k => ?_) (Ev.now _)
    simp only [laws_toEntryS.l0]
    rw [if_neg (by omega), List.take_of_length_le (by simp; omega)]
    simp
  | succ d ih =>
    intro i hi
    refine Ev.step (fun k => ?_) (ih (i + 1) (by omega))
    have hlen : ((l.map toE).take i).length = i := by rw [List.length_take, List.length_map]; omega
    simp only [laws_toEntryS.l0, laws_toEntry.f, Option.bind_some]
    rw [if_pos (by omega), if_pos (by omega), if_pos (by rw [List.length_append, hlen, List.length_replicate]; omega), w64 (by omega) (by omega), rdL_eq l i (by omega)]
    congr 1
    rw [show ((i : Int)).toNat = i by omega, List.set_append_right _ _ (by omega), hlen, List.take_succ_eq_append_getElem (by simp; omega), List.append_assoc]
    simp [List.replicate_succ, toE]
theorem toEntryS (l : List S77) (hl : l.length ≤ 1048576) : Ev (fun k => laws_toEntryS.f k l) (l.map toE) := by
  unfold laws_toEntryS.f
  simp only [if_pos (show 0 ≤ (l.length : Int) by omega), if_pos (show ((l.length : Int)).toNat ≤ 8796093022208 by omega)]
  exact toEntryS_l l hl l.length 0 (by omega)
theorem eqEntryS_l (l : List S65) (hl : l.length ≤ 1048576) (d : Nat) : ∀ i : Nat, i + d = l.length → Ev (fun k => laws_eqEntryS.l0 k l l i) true := by
  induction d with
  | zero =>
    intro i hi
    refine Ev.step (f := fun _ => some true) (fun k => ?_) (Ev.now _)
    simp only [laws_eqEntryS.l0]
    rw [if_neg (by omega)]
  | succ d ih =>
    intro i hi
    refine Ev.step (fun k => ?_) (ih (i + 1) (by omega))
    simp only [laws_eqEntryS.l0, laws_eqEntry.f, if_true, Option.bind_some]
    rw [if_pos (by omega), if_pos (by omega), w64 (by omega) (by omega), if_pos (by omega)]
    rfl
theorem eqEntryS_refl (l : List S65) (hl : l.length ≤ 1048576) : Ev (fun k => laws_eqEntryS.f k l l) true := by
  unfold laws_eqEntryS.f
  simp only [if_true]
  exact eqEntryS_l l hl l.length 0 (by omega)
theorem toIntS_l (l : List Int) (hl : l.length ≤ 1048576) (d : Nat) : ∀ i : Nat, i + d = l.length → Ev (fun k => laws_toIntS.l0 k l (l.take i ++ List.replicate d 0) i) l := by
  induction d with
  | zero =>
    intro i hi
    refine Ev.step (f := fun _ => some l) (fun k => ?_) (Ev.now _)
    simp only [laws_toIntS.l0]
    rw [if_neg (by omega), List.take_of_length_le (by omega)]
    simp
  | succ d ih =>
    intro i hi
    refine Ev.step (fun k => ?_) (ih (i + 1) (by omega))
    simp only [laws_toIntS.l0]
    have hlen : (l.take i).length = i := by rw [List.length_take]; omega
    rw [if_pos (by omega), if_pos (by omega), if_pos (by rw [List.length_append, hlen, List.length_replicate]; omega), w64 (by omega) (by omega), rd_eq l i (by omega)]
    congr 1
    rw [show ((i : Int)).toNat = i by omega, List.set_append_right _ _ (by omega), hlen, List.take_succ_eq_append_getElem (by omega), List.append_assoc]
    simp [List.replicate_succ]
theorem toIntS (l : List Int) (hl : l.length ≤ 1048576) : Ev (fun k => laws_toIntS.f k l) l := by
  unfold laws_toIntS.f
  simp only [if_pos (show 0 ≤ (l.length : Int) by omega), if_pos (show ((l.length : Int)).toNat ≤ 35184372088832 by omega)]
  exact toIntS_l l hl l.length 0 (by omega)
theorem eqIntS_l (l : List Int) (hl : l.length ≤ 1048576) (d : Nat) : ∀ i : Nat, i + d = l.length → Ev (fun k => laws_eqIntS.l0 k l l i) true := by
  induction d with
  | zero =>
    intro i hi
    refine Ev.step (f := fun _ => some true) (fun k => ?_) (Ev.now _)
    simp only [laws_eqIntS.l0]
    rw [if_neg (by omega)]
  | succ d ih =>
    intro i hi
    refine Ev.step (fun k => ?_) (ih (i + 1) (by omega))
    simp only [laws_eqIntS.l0, if_true]
    rw [if_pos (by omega), if_pos (by omega), w64 (by omega) (by omega), if_pos (by omega)]
    rfl
theorem eqIntS_refl (l : List Int) (hl : l.length ≤ 1048576) : Ev (fun k => laws_eqIntS.f k l l) true := by
  unfold laws_eqIntS.f
  simp only [if_true]
  exact eqIntS_l l hl l.length 0 (by omega)
theorem sz_i (l : List Int) (hl : l.length ≤ maxLen) (a : Int) (h0 : 0 ≤ a) (h1 : a ≤ 1048576) : ∃ r, laws_szIntS.f l a = some r ∧ (r < 0 ∨ (r = a - (l.length : Int) ∧ 0 ≤ r ∧ r ≤ 1048576 ∧ l.length ≤ 1048576)) := by
  unfold maxLen at hl
  unfold laws_szIntS.f
  rw [w64 (x := a - (l.length : Int)) (by omega) (by omega)]
  by_cases h : a - (l.length : Int) < 0
  · rw [if_pos h]
    exact ⟨_, rfl, .inl (by omega)⟩
  · rw [if_neg h]
    exact ⟨_, rfl, .inr ⟨rfl, by omega, by omega, by omega⟩⟩
theorem sz_e (l : List S77) (hl : l.length ≤ maxLen) (a : Int) (h0 : 0 ≤ a) (h1 : a ≤ 1048576) : ∃ r, laws_szEntryS.f l a = some r ∧ (r < 0 ∨ (r = a - (l.length : Int) ∧ 0 ≤ r ∧ r ≤ 1048576 ∧ l.length ≤ 1048576)) := by
  unfold maxLen at hl
  unfold laws_szEntryS.f
  rw [w64 (x := a - (l.length : Int)) (by omega) (by omega)]
  by_cases h : a - (l.length : Int) < 0
  · rw [if_pos h]
    exact ⟨_, rfl, .inl (by omega)⟩
  · rw [if_neg h]
    exact ⟨_, rfl, .inr ⟨rfl, by omega, by omega, by omega⟩⟩
section
variable (a0 a1 a2 a3 a4 a5 a6 a7 a8 a9 a10 a11 a12 a13 : Int) (l14 l15 : List Int) (l16 l17 : List S77) (l18 : List Int)
theorem sz_thread (b : Int) (b0 : 0 ≤ b) (b1 : b ≤ 1048576) (h14 : l14.length ≤ maxLen) (h15 : l15.length ≤ maxLen) (h16 : l16.length ≤ maxLen) (h17 : l17.length ≤ maxLen) (h18 : l18.length ≤ maxLen) :
    ∃ r, laws_szThread.f a0 a1 a2 a3 a4 a5 a6 a7 a8 a9 a10 a11 a12 a13 l14 l15 l16 l17 l18 b = some r ∧ (r < 0 ∨ (0 ≤ r ∧ r ≤ 1048576 ∧ l14.length ≤ 1048576 ∧ l15.length ≤ 1048576 ∧ l16.length ≤ 1048576 ∧ l17.length ≤ 1048576 ∧ l18.length ≤ 1048576)) := by
  unfold laws_szThread.f
  obtain ⟨r1, e1, c1⟩ := sz_i l14 h14 b b0 b1
  rw [e1, Option.bind_some]
  rcases c1 with c1 | ⟨_, p1, q1, z1⟩
  · rw [if_pos c1]; exact ⟨_, rfl, .inl (by omega)⟩
  · rw [if_neg (by omega)]
    obtain ⟨r2, e2, c2⟩ := sz_i l15 h15 r1 p1 q1
    rw [e2, Option.bind_some]
    rcases c2 with c2 | ⟨_, p2, q2, z2⟩
    · rw [if_pos c2]; exact ⟨_, rfl, .inl (by omega)⟩
    · rw [if_neg (by omega)]
      obtain ⟨r3, e3, c3⟩ := sz_e l16 h16 r2 p2 q2
      rw [e3, Option.bind_some]
      rcases c3 with c3 | ⟨_, p3, q3, z3⟩
      · rw [if_pos c3]; exact ⟨_, rfl, .inl (by omega)⟩
      · rw [if_neg (by omega)]
        obtain ⟨r4, e4, c4⟩ := sz_e l17 h17 r3 p3 q3
        rw [e4, Option.bind_some]
        rcases c4 with c4 | ⟨_, p4, q4, z4⟩
        · rw [if_pos c4]; exact ⟨_, rfl, .inl (by omega)⟩
        · rw [if_neg (by omega)]
          obtain ⟨r5, e5, c5⟩ := sz_i l18 h18 r4 p4 q4
          rw [e5, Option.bind_some]
          rcases c5 with c5 | ⟨_, p5, q5, z5⟩
          · rw [if_pos c5]; exact ⟨_, rfl, .inl (by omega)⟩
          · rw [if_neg (by omega)]
            exact ⟨_, rfl, .inr ⟨p5, q5, z1, z2, z3, z4, z5⟩⟩
theorem to_thread (h14 : l14.length ≤ 1048576) (h15 : l15.length ≤ 1048576) (h16 : l16.length ≤ 1048576) (h17 : l17.length ≤ 1048576) (h18 : l18.length ≤ 1048576) :
    Ev (fun k => laws_toThread.f k a0 a1 a2 a3 a4 a5 a6 a7 a8 a9 a10 a11 a12 a13 l14 l15 l16 l17 l18) (a0, a1, a2, a3, a4, a5, a6, a7, a8, a9, a10, a11, a12, a13, l14, l15, l16.map toE, l17.map toE, l18) := by
  unfold laws_toThread.f laws_toOp.f laws_toResult.f
  simp only [Option.bind_some]
  refine Ev.bind (toIntS l14 h14) ?_
  refine Ev.bind (toIntS l15 h15) ?_
  refine Ev.bind (toEntryS l16 h16) ?_
  refine Ev.bind (toEntryS l17 h17) ?_
  refine Ev.bind (toIntS l18 h18) ?_
  exact Ev.now _
end
section
variable (a0 a1 a2 a3 a4 a5 a6 a7 a8 a9 a10 a11 a12 a13 : Int) (l14 l15 : List Int) (l16 l17 : List S65) (l18 : List Int)
theorem eq_thread (h14 : l14.length ≤ 1048576) (h15 : l15.length ≤ 1048576) (h16 : l16.length ≤ 1048576) (h17 : l17.length ≤ 1048576) (h18 : l18.length ≤ 1048576) :
    Ev (fun k => laws_eqThread.f k a0 a1 a2 a3 a4 a5 a6 a7 a8 a9 a10 a11 a12 a13 l14 l15 l16 l17 l18 a0 a1 a2 a3 a4 a5 a6 a7 a8 a9 a10 a11 a12 a13 l14 l15 l16 l17 l18) true := by
  unfold laws_eqThread.f laws_eqOp.f laws_eqResult.f
  simp only [if_true, Option.bind_some]
  refine Ev.bind (eqIntS_refl l14 h14) ?_
  simp only [if_true]
  refine Ev.bind (eqIntS_refl l15 h15) ?_
  simp only [if_true]
  refine Ev.bind (eqEntryS_refl l16 h16) ?_
  simp only [if_true]
  refine Ev.bind (eqEntryS_refl l17 h17) ?_
  simp only [if_true]
  refine Ev.bind (eqIntS_refl l18 h18) ?_
  simp only [if_true]
  exact Ev.now _
end
theorem strOfNums_nil : strOfNums [] = ByteArray.empty := rfl
theorem strOfNums_append (xs ys : List Int) : strOfNums (xs ++ ys) = strOfNums xs ++ strOfNums ys := by
  apply ByteArray.ext
  rw [ByteArray.data_append]
  simp [strOfNums]
theorem app_nil (s : ByteArray) : s ++ (⟨#[]⟩ : ByteArray) = s := ByteArray.append_empty
def bl (s : ByteArray) : List Int := s.data.toList.map fun b => (b.toNat : Int)
theorem bl_length (s : ByteArray) : (bl s).length = s.size := by
  unfold bl
  rw [List.length_map, Array.length_toList]
  rfl
theorem bl_append (a b : ByteArray) : bl (a ++ b) = bl a ++ bl b := by simp [bl]
theorem bl_nil : bl ⟨#[]⟩ = [] := rfl
theorem bl_range (s : ByteArray) : ∀ x ∈ bl s, 0 ≤ x ∧ x ≤ 255 := by
  intro x hx
  obtain ⟨b, _, rfl⟩ := List.mem_map.1 hx
  have := b.toNat_lt
  omega
theorem strOfNums_bl (s : ByteArray) : strOfNums (bl s) = s := by
  apply ByteArray.ext
  unfold strOfNums bl
  rw [List.map_map]
  have e : ((fun n : Int => UInt8.ofNat n.toNat) ∘ fun b : UInt8 => (b.toNat : Int)) = id := by
    funext b
    simp
  rw [e, List.map_id]
theorem bl_inj {a b : ByteArray} (h : bl a = bl b) : a = b := by rw [← strOfNums_bl a, ← strOfNums_bl b, h]
theorem bl_strOfNums (xs : List Int) (h : ∀ x ∈ xs, 0 ≤ x ∧ x ≤ 255) : bl (strOfNums xs) = xs := by
  unfold bl strOfNums
  rw [List.map_map]
  conv => rhs; rw [← List.map_id xs]
  apply List.map_congr_left
  intro x hx
  have := h x hx
  simp only [Function.comp, id, UInt8.toNat_ofNat']
  omega
theorem bl_extract0 (s : ByteArray) (k : Nat) : bl (s.extract 0 k) = (bl s).take k := by
  simp [bl, ByteArray.data_extract, Array.toList_extract, List.extract_eq_take_drop]
theorem bl_extract (s : ByteArray) (i j : Nat) : bl (s.extract i j) = ((bl s).drop i).take (j - i) := by
  simp [bl, ByteArray.data_extract, Array.toList_extract, List.extract_eq_take_drop]
theorem bt_bl (s : ByteArray) (i : Int) : bt s i = (bl s).getD i.toNat 0 := by
  unfold bt bl
  by_cases h : i.toNat < s.size
  · rw [dif_pos h, List.getD_eq_getElem?_getD, List.getElem?_map, List.getElem?_eq_getElem (show i.toNat < s.data.toList.length by rw [Array.length_toList]; exact h)]
    rfl
  · rw [dif_neg h, List.getD_eq_getElem?_getD, List.getElem?_eq_none (by rw [List.length_map, Array.length_toList]; exact Nat.le_of_not_lt h)]
    rfl
theorem toList_iff {a b : ByteArray} : a.toList = b.toList ↔ a = b := by
  constructor
  · intro h
    rw [ByteArray.toList_eq, ByteArray.toList_eq] at h
    apply ByteArray.ext
    exact Array.toList_inj.1 h
  · intro h
    rw [h]
def lbeq {α : Type} (e : α → α → Bool) : List α → List α → Bool
  | [], [] => true
  | x :: xs, y :: ys => e x y && lbeq e xs ys
  | [], _ :: _ => false
  | _ :: _, [] => false
theorem lbeq_len {α : Type} (e : α → α → Bool) : ∀ (a b : List α), a.length ≠ b.length → lbeq e a b = false
  | [], [], h => absurd rfl h
  | x :: xs, y :: ys, h => by rw [lbeq, lbeq_len e xs ys (by simpa using h), Bool.and_false]
  | [], _ :: _, _ => rfl
  | _ :: _, [], _ => rfl
def eqI (x y : Int) : Bool := decide (x = y)
def eqE (x y : S65) : Bool := (x.f0 == y.f0) && ((x.f1 == y.f1) && ((x.f2 == y.f2) && (x.f3 == y.f3)))
theorem not4 (p q r s : Bool) : (!p || (!q || (!r || !s))) = !(p && (q && (r && s))) := by cases p <;> cases q <;> cases r <;> cases s <;> rfl
theorem s_l7Ints_l (a b : List Int) (hl : a.length ≤ 1048576) (hb : a.length = b.length) (d : Nat) : ∀ i : Nat, i + d = a.length → Ev (fun k => spec_l7Ints.l0 k a b (i : Int)) (lbeq eqI (a.drop i) (b.drop i)) := by
  induction d with
  | zero =>
    intro i hi
    rw [List.drop_eq_nil_of_le (by omega), List.drop_eq_nil_of_le (by omega), lbeq]
    refine Ev.step (f := fun _ => some true) (fun k => ?_) (Ev.now _)
    simp only [spec_l7Ints.l0]
    rw [if_neg (by omega)]
  | succ d ih =>
    intro i hi
    rw [List.drop_eq_getElem_cons (show i < a.length by omega), List.drop_eq_getElem_cons (show i < b.length by omega), lbeq]
    have ra := rd_eq a i (by omega)
    have rb := rd_eq b i (by omega)
    unfold eqI
    by_cases h : a[i] = b[i]
    · rw [decide_eq_true h, Bool.true_and]
      refine Ev.step (fun k => ?_) (ih (i + 1) (by omega))
      simp only [spec_l7Ints.l0, ra, rb]
      rw [if_pos (by omega), if_pos (by omega), if_pos (by omega), if_pos h, w64 (by omega) (by omega)]
      rfl
    · rw [decide_eq_false h, Bool.false_and]
      refine Ev.step (f := fun _ => some false) (fun k => ?_) (Ev.now _)
      simp only [spec_l7Ints.l0, ra, rb]
      rw [if_pos (by omega), if_pos (by omega), if_pos (by omega), if_neg h]
theorem s_l7Ints (a b : List Int) (hl : a.length ≤ 1048576) : Ev (fun k => spec_l7Ints.f k a b) (lbeq eqI a b) := by
  unfold spec_l7Ints.f
  by_cases h : a.length = b.length
  · simp only [if_pos (show (a.length : Int) = (b.length : Int) by omega)]
    exact s_l7Ints_l a b hl h a.length 0 (by omega)
  · simp only [if_neg (show ¬ (a.length : Int) = (b.length : Int) by omega)]
    rw [lbeq_len eqI a b h]
    exact Ev.now _
theorem i_eqInts_l (a b : List Int) (hl : a.length ≤ 1048576) (hb : a.length = b.length) (d : Nat) : ∀ i : Nat, i + d = a.length → Ev (fun k => slices_Equal_int_int.l0 k a b (a.length : Int) (i : Int)) (lbeq eqI (a.drop i) (b.drop i)) := by
  induction d with
  | zero =>
    intro i hi
    rw [List.drop_eq_nil_of_le (by omega), List.drop_eq_nil_of_le (by omega), lbeq]
    refine Ev.step (f := fun _ => some true) (fun k => ?_) (Ev.now _)
    simp only [slices_Equal_int_int.l0]
    rw [if_neg (by omega)]
  | succ d ih =>
    intro i hi
    rw [List.drop_eq_getElem_cons (show i < a.length by omega), List.drop_eq_getElem_cons (show i < b.length by omega), lbeq]
    have ra := rd_eq a i (by omega)
    have rb := rd_eq b i (by omega)
    unfold eqI
    by_cases h : a[i] = b[i]
    · rw [decide_eq_true h, Bool.true_and]
      refine Ev.step (fun k => ?_) (ih (i + 1) (by omega))
      simp only [slices_Equal_int_int.l0, ra, rb]
      rw [if_pos (by omega), if_pos (by omega), if_pos (by omega), if_pos (by omega), if_pos h, w64 (by omega) (by omega)]
      rfl
    · rw [decide_eq_false h, Bool.false_and]
      refine Ev.step (f := fun _ => some false) (fun k => ?_) (Ev.now _)
      simp only [slices_Equal_int_int.l0, ra, rb]
      rw [if_pos (by omega), if_pos (by omega), if_pos (by omega), if_pos (by omega), if_neg h]
theorem i_eqInts (a b : List Int) (hl : a.length ≤ 1048576) : Ev (fun k => slices_Equal_int_int.f k a b) (lbeq eqI a b) := by
  unfold slices_Equal_int_int.f
  by_cases h : a.length = b.length
  · simp only [if_pos (show (a.length : Int) = (b.length : Int) by omega)]
    exact i_eqInts_l a b hl h a.length 0 (by omega)
  · simp only [if_neg (show ¬ (a.length : Int) = (b.length : Int) by omega)]
    rw [lbeq_len eqI a b h]
    exact Ev.now _
theorem s_l7Entries_l (a b : List S65) (hl : a.length ≤ 1048576) (hb : a.length = b.length) (d : Nat) : ∀ i : Nat, i + d = a.length → Ev (fun k => spec_l7Entries.l0 k a b (i : Int)) (lbeq eqE (a.drop i) (b.drop i)) := by
  induction d with
  | zero =>
    intro i hi
    rw [List.drop_eq_nil_of_le (by omega), List.drop_eq_nil_of_le (by omega), lbeq]
    refine Ev.step (f := fun _ => some true) (fun k => ?_) (Ev.now _)
    simp only [spec_l7Entries.l0]
    rw [if_neg (by omega)]
  | succ d ih =>
    intro i hi
    rw [List.drop_eq_getElem_cons (show i < a.length by omega), List.drop_eq_getElem_cons (show i < b.length by omega), lbeq]
    have ra := rdT_eq a i (by omega)
    have rb := rdT_eq b i (by omega)
    unfold eqE
    cases h : ((a[i].f0 == b[i].f0) && ((a[i].f1 == b[i].f1) && ((a[i].f2 == b[i].f2) && (a[i].f3 == b[i].f3)))) with
    | true =>
      rw [Bool.true_and]
      refine Ev.step (fun k => ?_) (ih (i + 1) (by omega))
      simp only [spec_l7Entries.l0, ra, rb, not4, h]
      rw [if_pos (by omega), if_pos (by omega), if_pos (by omega), if_neg (by decide), w64 (by omega) (by omega)]
      rfl
    | false =>
      rw [Bool.false_and]
      refine Ev.step (f := fun _ => some false) (fun k => ?_) (Ev.now _)
      simp only [spec_l7Entries.l0, ra, rb, not4, h]
      rw [if_pos (by omega), if_pos (by omega), if_pos (by omega), if_pos (by decide)]
theorem s_l7Entries (a b : List S65) (hl : a.length ≤ 1048576) : Ev (fun k => spec_l7Entries.f k a b) (lbeq eqE a b) := by
  unfold spec_l7Entries.f
  by_cases h : a.length = b.length
  · simp only [if_pos (show (a.length : Int) = (b.length : Int) by omega)]
    exact s_l7Entries_l a b hl h a.length 0 (by omega)
  · simp only [if_neg (show ¬ (a.length : Int) = (b.length : Int) by omega)]
    rw [lbeq_len eqE a b h]
    exact Ev.now _
theorem i_eqEntries_l (a b : List S65) (hl : a.length ≤ 1048576) (hb : a.length = b.length) (d : Nat) : ∀ i : Nat, i + d = a.length → Ev (fun k => impl_Entry.l0 k a b (a.length : Int) (i : Int)) (lbeq eqE (a.drop i) (b.drop i)) := by
  induction d with
  | zero =>
    intro i hi
    rw [List.drop_eq_nil_of_le (by omega), List.drop_eq_nil_of_le (by omega), lbeq]
    refine Ev.step (f := fun _ => some true) (fun k => ?_) (Ev.now _)
    simp only [impl_Entry.l0]
    rw [if_neg (by omega)]
  | succ d ih =>
    intro i hi
    rw [List.drop_eq_getElem_cons (show i < a.length by omega), List.drop_eq_getElem_cons (show i < b.length by omega), lbeq]
    have ra := rdT_eq a i (by omega)
    have rb := rdT_eq b i (by omega)
    unfold eqE
    cases h : ((a[i].f0 == b[i].f0) && ((a[i].f1 == b[i].f1) && ((a[i].f2 == b[i].f2) && (a[i].f3 == b[i].f3)))) with
    | true =>
      rw [Bool.true_and]
      refine Ev.step (fun k => ?_) (ih (i + 1) (by omega))
      simp only [impl_Entry.l0, ra, rb, not4, h]
      rw [if_pos (by omega), if_pos (by omega), if_pos (by omega), if_pos (by omega), if_neg (by decide), w64 (by omega) (by omega)]
      rfl
    | false =>
      rw [Bool.false_and]
      refine Ev.step (f := fun _ => some false) (fun k => ?_) (Ev.now _)
      simp only [impl_Entry.l0, ra, rb, not4, h]
      rw [if_pos (by omega), if_pos (by omega), if_pos (by omega), if_pos (by omega), if_pos (by decide)]
theorem i_eqEntries (a b : List S65) (hl : a.length ≤ 1048576) : Ev (fun k => impl_Entry.f k a b) (lbeq eqE a b) := by
  unfold impl_Entry.f
  by_cases h : a.length = b.length
  · simp only [if_pos (show (a.length : Int) = (b.length : Int) by omega)]
    exact i_eqEntries_l a b hl h a.length 0 (by omega)
  · simp only [if_neg (show ¬ (a.length : Int) = (b.length : Int) by omega)]
    rw [lbeq_len eqE a b h]
    exact Ev.now _

def lensL (x : S29) : Prop := x.f11.length ≤ 1048576 ∧ x.f12.length ≤ 1048576 ∧ x.f13.length ≤ 1048576 ∧ x.f14.length ≤ 1048576 ∧ x.f15.length ≤ 1048576
def lensI (x : S36) : Prop := x.f11.length ≤ 1048576 ∧ x.f12.length ≤ 1048576 ∧ x.f13.length ≤ 1048576 ∧ x.f14.length ≤ 1048576 ∧ x.f15.length ≤ 1048576
def toT (x : S29) : S36 := ⟨x.f0, ⟨x.f1.f0, x.f1.f1, x.f1.f2⟩, ⟨x.f2.f0, x.f2.f1⟩, x.f3, x.f4, x.f5, x.f6, x.f7, x.f8, x.f9, x.f10, x.f11, x.f12, x.f13.map toE, x.f14.map toE, x.f15⟩
theorem rdTL (l : List S29) (i : Nat) (h : i < l.length) : rd_T29 l (i : Int) = l[i] := by
  unfold rd_T29
  rw [Int.toNat_natCast, List.getD_eq_getElem?_getD, List.getElem?_eq_getElem h]
  rfl
theorem rdTI (l : List S36) (i : Nat) (h : i < l.length) : rd_T36 l (i : Int) = l[i] := by
  unfold rd_T36
  rw [Int.toNat_natCast, List.getD_eq_getElem?_getD, List.getElem?_eq_getElem h]
  rfl
theorem szT_l (l : List S29) (hl : l.length ≤ 1048576) (hw : ∀ x ∈ l, wfThr x) (d : Nat) : ∀ (i : Nat) (b : Int), i + d = l.length → 0 ≤ b → b ≤ 1048576 →
    ∃ r, Ev (fun k => laws_szThreadS.l0 k l b (i : Int)) r ∧ (r < 0 ∨ (0 ≤ r ∧ r ≤ 1048576 ∧ ∀ x ∈ l.drop i, lensL x)) := by
  induction d with
  | zero =>
    intro i b hi b0 b1
    refine ⟨b, Ev.step (f := fun _ => some b) (fun k => ?_) (Ev.now _), .inr ⟨b0, b1, ?_⟩⟩
    · rw [laws_szThreadS.l0, if_neg (by omega)]
    · rw [List.drop_eq_nil_of_le (by omega)]
      intro x hx
      cases hx
  | succ d ih =>
    intro i b hi b0 b1
    have hil : i < l.length := by omega
    have hx := hw l[i] (List.getElem_mem hil)
    obtain ⟨r, hr, hc⟩ := sz_thread l[i].f0 l[i].f1.f0 l[i].f1.f1 l[i].f1.f2 l[i].f2.f0 l[i].f2.f1 l[i].f3 l[i].f4 l[i].f5 l[i].f6 l[i].f7 l[i].f8 l[i].f9 l[i].f10 l[i].f11 l[i].f12 l[i].f13 l[i].f14 l[i].f15 b b0 b1 hx.1 hx.2.1 hx.2.2.1 hx.2.2.2.1 hx.2.2.2.2
    have hrd := rdTL l i hil
    have q1 : (i : Int) < (l.length : Int) := by omega
    have q2 : (0 : Int) ≤ (i : Int) := by omega
    have pi : wrap64 ((i : Int) + 1) = ((i + 1 : Nat) : Int) := w64 (by omega) (by omega)
    rcases hc with hc | ⟨r0, r1, hz⟩
    · refine ⟨-1, Ev.step (f := fun _ => some (-1)) (fun k => ?_) (Ev.now _), .inl (by omega)⟩
      rw [laws_szThreadS.l0, if_pos q1, if_pos q2]
      simp only [hrd, hr, Option.bind_some, if_pos hc]
    · obtain ⟨r', hr', hc'⟩ := ih (i + 1) r (by omega) r0 r1
      refine ⟨r', Ev.step (fun k => ?_) hr', ?_⟩
      · rw [laws_szThreadS.l0, if_pos q1, if_pos q2]
        simp only [hrd, hr, Option.bind_some, if_neg (show ¬ r < 0 by omega), pi]
      · rcases hc' with hc' | ⟨z0, z1, hz'⟩
        · exact .inl hc'
        · refine .inr ⟨z0, z1, ?_⟩
          rw [List.drop_eq_getElem_cons hil]
          intro x hx
          rcases List.mem_cons.1 hx with rfl | hx
          · exact hz
          · exact hz' x hx
theorem szT (l : List S29) (hl : l.length ≤ maxLen) (hw : ∀ x ∈ l, wfThr x) (b : Int) (b0 : 0 ≤ b) (b1 : b ≤ 1048576) : ∃ r, Ev (fun k => laws_szThreadS.f k l b) r ∧ (r < 0 ∨ (0 ≤ r ∧ r ≤ 1048576 ∧ l.length ≤ 1048576 ∧ ∀ x ∈ l, lensL x)) := by
  unfold maxLen at hl
  unfold laws_szThreadS.f
  rw [w64 (x := b - (l.length : Int)) (by omega) (by omega)]
  by_cases h : b - (l.length : Int) < 0
  · simp only [if_pos h]
    exact ⟨_, Ev.now _, .inl (by omega)⟩
  · simp only [if_neg h]
    obtain ⟨r, hr, hc⟩ := szT_l l (by omega) hw l.length 0 (b - (l.length : Int)) (by omega) (by omega) (by omega)
    refine ⟨r, hr, ?_⟩
    rcases hc with hc | ⟨r0, r1, hz⟩
    · exact .inl hc
    · exact .inr ⟨r0, r1, by omega, by simpa using hz⟩
theorem sz_state (a0 a1 a2 a3 a4 a5 : Int) (l6 l7 : List Int) (l8 : List S29) (a9 a10 a11 a12 : Int) (h6 : l6.length ≤ maxLen) (h7 : l7.length ≤ maxLen) (h8 : l8.length ≤ maxLen) (hw : ∀ x ∈ l8, wfThr x) (b : Int) (b0 : 0 ≤ b) (b1 : b ≤ 1048576) :
    ∃ r, Ev (fun k => laws_szState.f k a0 a1 a2 a3 a4 a5 l6 l7 l8 a9 a10 a11 a12 b) r ∧ (r < 0 ∨ (0 ≤ r ∧ r ≤ 1048576 ∧ l6.length ≤ 1048576 ∧ l7.length ≤ 1048576 ∧ l8.length ≤ 1048576 ∧ ∀ x ∈ l8, lensL x)) := by
  unfold laws_szState.f
  obtain ⟨r1, e1, c1⟩ := sz_i l6 h6 b b0 b1
  simp only [e1, Option.bind_some]
  rcases c1 with c1 | ⟨_, p1, q1, z1⟩
  · simp only [if_pos c1]; exact ⟨_, Ev.now _, .inl (by omega)⟩
  · simp only [if_neg (show ¬ r1 < 0 by omega)]
    obtain ⟨r2, e2, c2⟩ := sz_i l7 h7 r1 p1 q1
    simp only [e2, Option.bind_some]
    rcases c2 with c2 | ⟨_, p2, q2, z2⟩
    · simp only [if_pos c2]; exact ⟨_, Ev.now _, .inl (by omega)⟩
    · simp only [if_neg (show ¬ r2 < 0 by omega)]
      obtain ⟨r3, e3, c3⟩ := szT l8 h8 hw r2 p2 q2
      rcases c3 with c3 | ⟨p3, q3, z3, hz⟩
      · refine ⟨-1, Ev.bind e3 ?_, .inl (by omega)⟩
        simp only [if_pos c3]
        exact Ev.now _
      · refine ⟨r3, Ev.bind e3 ?_, .inr ⟨p3, q3, z1, z2, z3, hz⟩⟩
        simp only [if_neg (show ¬ r3 < 0 by omega)]
        exact Ev.now _
theorem toT_l (l : List S29) (hl : l.length ≤ 1048576) (hw : ∀ x ∈ l, lensL x) (d : Nat) : ∀ i : Nat, i + d = l.length → Ev (fun k => laws_toThreadS.l0 k l ((l.map toT).take i ++ List.replicate d z36) (i : Int)) (l.map toT) := by
  induction d with
  | zero =>
    intro i hi
    refine Ev.step (f := fun _ => some _) (fun k => ?_) (Ev.now _)
    rw [laws_toThreadS.l0, if_neg (by omega), List.take_of_length_le (by simp; omega)]
    simp
  | succ d ih =>
    intro i hi
    have hil : i < l.length := by omega
    have hx := hw l[i] (List.getElem_mem hil)
    have hrd := rdTL l i hil
    have hlen : ((l.map toT).take i).length = i := by rw [List.length_take, List.length_map]; omega
    have q1 : (i : Int) < (l.length : Int) := by omega
    have q2 : (0 : Int) ≤ (i : Int) := by omega
    have q3 : (i : Int) < ((((l.map toT).take i ++ List.replicate (d + 1) z36).length : Nat) : Int) := by rw [List.length_append, hlen, List.length_replicate]; omega
    have pi : wrap64 ((i : Int) + 1) = ((i + 1 : Nat) : Int) := w64 (by omega) (by omega)
    have hs : ((l.map toT).take i ++ List.replicate (d + 1) z36).set i (toT l[i]) = (l.map toT).take (i + 1) ++ List.replicate d z36 := by
      rw [List.set_append_right _ _ (by omega), hlen, Nat.sub_self, List.replicate_succ, List.set_cons_zero, List.take_succ_eq_append_getElem (by simp; omega), List.append_assoc]
      simp
    have ht := to_thread l[i].f0 l[i].f1.f0 l[i].f1.f1 l[i].f1.f2 l[i].f2.f0 l[i].f2.f1 l[i].f3 l[i].f4 l[i].f5 l[i].f6 l[i].f7 l[i].f8 l[i].f9 l[i].f10 l[i].f11 l[i].f12 l[i].f13 l[i].f14 l[i].f15 hx.1 hx.2.1 hx.2.2.1 hx.2.2.2.1 hx.2.2.2.2
    have ih := ih (i + 1) (by omega)
    rw [← hs] at ih
    generalize (l.map toT).take i ++ List.replicate (d + 1) z36 = X at ih q3
    refine Ev.step (f := fun k => (laws_toThread.f k l[i].f0 l[i].f1.f0 l[i].f1.f1 l[i].f1.f2 l[i].f2.f0 l[i].f2.f1 l[i].f3 l[i].f4 l[i].f5 l[i].f6 l[i].f7 l[i].f8 l[i].f9 l[i].f10 l[i].f11 l[i].f12 l[i].f13 l[i].f14 l[i].f15).bind fun bt => laws_toThreadS.l0 k l (X.set i (⟨bt.1, ⟨bt.2.1, bt.2.2.1, bt.2.2.2.1⟩, ⟨bt.2.2.2.2.1, bt.2.2.2.2.2.1⟩, bt.2.2.2.2.2.2.1, bt.2.2.2.2.2.2.2.1, bt.2.2.2.2.2.2.2.2.1, bt.2.2.2.2.2.2.2.2.2.1, bt.2.2.2.2.2.2.2.2.2.2.1, bt.2.2.2.2.2.2.2.2.2.2.2.1, bt.2.2.2.2.2.2.2.2.2.2.2.2.1, bt.2.2.2.2.2.2.2.2.2.2.2.2.2.1, bt.2.2.2.2.2.2.2.2.2.2.2.2.2.2.1, bt.2.2.2.2.2.2.2.2.2.2.2.2.2.2.2.1, bt.2.2.2.2.2.2.2.2.2.2.2.2.2.2.2.2.1, bt.2.2.2.2.2.2.2.2.2.2.2.2.2.2.2.2.2.1, bt.2.2.2.2.2.2.2.2.2.2.2.2.2.2.2.2.2.2⟩ : S36)) ((i + 1 : Nat) : Int)) (fun k => ?_) (Ev.bind ht ih)
    rw [laws_toThreadS.l0, if_pos q1, if_pos q2]
    simp only [hrd, if_pos q3, pi, Int.toNat_natCast]
theorem toTS (l : List S29) (hl : l.length ≤ 1048576) (hw : ∀ x ∈ l, lensL x) : Ev (fun k => laws_toThreadS.f k l) (l.map toT) := by
  unfold laws_toThreadS.f
  simp only [if_pos (show 0 ≤ (l.length : Int) by omega), if_pos (show ((l.length : Int)).toNat ≤ 1213254209959 by omega)]
  exact toT_l l hl hw l.length 0 (by omega)
theorem to_state (a0 a1 a2 a3 a4 a5 : Int) (l6 l7 : List Int) (l8 : List S29) (a9 a10 a11 a12 : Int) (h6 : l6.length ≤ 1048576) (h7 : l7.length ≤ 1048576) (h8 : l8.length ≤ 1048576) (hw : ∀ x ∈ l8, lensL x) :
    Ev (fun k => laws_toState.f k a0 a1 a2 a3 a4 a5 l6 l7 l8 a9 a10 a11 a12) (a0, a1, a2, a3, a4, a5, l6, l7, l8.map toT, a9, a10, a11, a12) := by
  unfold laws_toState.f laws_toConfig.f
  simp only [Option.bind_some]
  refine Ev.bind (toIntS l6 h6) ?_
  refine Ev.bind (toIntS l7 h7) ?_
  refine Ev.bind (toTS l8 h8 hw) ?_
  exact Ev.now _
theorem lensI_toT {l : List S29} (hw : ∀ x ∈ l, lensL x) : ∀ x ∈ l.map toT, lensI x := by
  intro x hx
  obtain ⟨y, hy, rfl⟩ := List.mem_map.1 hx
  have := hw y hy
  exact ⟨this.1, this.2.1, by simpa [toT] using this.2.2.1, by simpa [toT] using this.2.2.2.1, this.2.2.2.2⟩
theorem eqTS_l (l : List S36) (hl : l.length ≤ 1048576) (hw : ∀ x ∈ l, lensI x) (d : Nat) : ∀ i : Nat, i + d = l.length → Ev (fun k => laws_eqThreadS.l0 k l l (i : Int)) true := by
  induction d with
  | zero =>
    intro i hi
    refine Ev.step (f := fun _ => some true) (fun k => ?_) (Ev.now _)
    rw [laws_eqThreadS.l0, if_neg (by omega)]
  | succ d ih =>
    intro i hi
    have hil : i < l.length := by omega
    have hx := hw l[i] (List.getElem_mem hil)
    have hrd := rdTI l i hil
    have q1 : (i : Int) < (l.length : Int) := by omega
    have q2 : (0 : Int) ≤ (i : Int) := by omega
    have pi : wrap64 ((i : Int) + 1) = ((i + 1 : Nat) : Int) := w64 (by omega) (by omega)
    refine Ev.step (f := fun k => (laws_eqThread.f k l[i].f0 l[i].f1.f0 l[i].f1.f1 l[i].f1.f2 l[i].f2.f0 l[i].f2.f1 l[i].f3 l[i].f4 l[i].f5 l[i].f6 l[i].f7 l[i].f8 l[i].f9 l[i].f10 l[i].f11 l[i].f12 l[i].f13 l[i].f14 l[i].f15 l[i].f0 l[i].f1.f0 l[i].f1.f1 l[i].f1.f2 l[i].f2.f0 l[i].f2.f1 l[i].f3 l[i].f4 l[i].f5 l[i].f6 l[i].f7 l[i].f8 l[i].f9 l[i].f10 l[i].f11 l[i].f12 l[i].f13 l[i].f14 l[i].f15).bind fun t => if t = true then laws_eqThreadS.l0 k l l ((i + 1 : Nat) : Int) else none) (fun k => ?_) ?_
    · rw [laws_eqThreadS.l0, if_pos q1, if_pos q2, if_pos q1]
      simp only [hrd, pi]
    · refine Ev.bind (eq_thread l[i].f0 l[i].f1.f0 l[i].f1.f1 l[i].f1.f2 l[i].f2.f0 l[i].f2.f1 l[i].f3 l[i].f4 l[i].f5 l[i].f6 l[i].f7 l[i].f8 l[i].f9 l[i].f10 l[i].f11 l[i].f12 l[i].f13 l[i].f14 l[i].f15 hx.1 hx.2.1 hx.2.2.1 hx.2.2.2.1 hx.2.2.2.2) ?_
      simp only [if_true]
      exact ih (i + 1) (by omega)
theorem eq_state (a0 a1 a2 a3 a4 a5 : Int) (l6 l7 : List Int) (l8 : List S36) (a9 a10 a11 a12 : Int) (h6 : l6.length ≤ 1048576) (h7 : l7.length ≤ 1048576) (h8 : l8.length ≤ 1048576) (hw : ∀ x ∈ l8, lensI x) :
    Ev (fun k => laws_eqState.f k a0 a1 a2 a3 a4 a5 l6 l7 l8 a9 a10 a11 a12 a0 a1 a2 a3 a4 a5 l6 l7 l8 a9 a10 a11 a12) true := by
  unfold laws_eqState.f laws_eqConfig.f
  simp only [if_true, Option.bind_some]
  refine Ev.bind (eqIntS_refl l6 h6) ?_
  simp only [if_true]
  refine Ev.bind (eqIntS_refl l7 h7) ?_
  simp only [if_true]
  refine Ev.bind (a := true) ?_ ?_
  · unfold laws_eqThreadS.f
    simp only [if_true]
    exact eqTS_l l8 h8 hw l8.length 0 (by omega)
  · simp only [if_true]
    exact Ev.now _
def eqT (x y : S36) : Bool := andS (x.f0 == y.f0) (opB x.f1.f0 x.f1.f1 x.f1.f2 y.f1.f0 y.f1.f1 y.f1.f2) (resB x.f2.f0 x.f2.f1 y.f2.f0 y.f2.f1) (x.f3 == y.f3) (x.f4 == y.f4) (x.f5 == y.f5) (x.f6 == y.f6) (x.f7 == y.f7) (x.f8 == y.f8) (x.f9 == y.f9) (x.f10 == y.f10) (lbeq eqI x.f11 y.f11) (lbeq eqI x.f12 y.f12) (lbeq eqE x.f13 y.f13) (lbeq eqE x.f14 y.f14) (lbeq eqI x.f15 y.f15)
theorem and_IS (x0 x1 x2 x3 x4 x5 x6 x7 x8 x9 x10 t1 t2 t3 t4 t5 : Bool) : andI t1 t2 t3 t4 t5 x0 x1 x2 x3 x4 x5 x6 x7 x8 x9 x10 = andS x0 x1 x2 x3 x4 x5 x6 x7 x8 x9 x10 t1 t2 t3 t4 t5 := by
  unfold andI andS
  ac_rfl
theorem s_eqT (x y : S36) (hx : lensI x) : Ev (fun k => spec_EqualThreads.f k x.f0 x.f1.f0 x.f1.f1 x.f1.f2 x.f2.f0 x.f2.f1 x.f3 x.f4 x.f5 x.f6 x.f7 x.f8 x.f9 x.f10 x.f11 x.f12 x.f13 x.f14 x.f15 y.f0 y.f1.f0 y.f1.f1 y.f1.f2 y.f2.f0 y.f2.f1 y.f3 y.f4 y.f5 y.f6 y.f7 y.f8 y.f9 y.f10 y.f11 y.f12 y.f13 y.f14 y.f15) (eqT x y) := by
  unfold spec_EqualThreads.f eqT
  refine Ev.bind (s_l7Ints _ _ hx.1) ?_
  refine Ev.bind (s_l7Ints _ _ hx.2.1) ?_
  refine Ev.bind (s_l7Entries _ _ hx.2.2.1) ?_
  refine Ev.bind (s_l7Entries _ _ hx.2.2.2.1) ?_
  refine Ev.bind (s_l7Ints _ _ hx.2.2.2.2) ?_
  exact Ev.now _
theorem i_eqT (x y : S36) (hx : lensI x) : Ev (fun k => impl_EqualThreads.f k x.f0 x.f1.f0 x.f1.f1 x.f1.f2 x.f2.f0 x.f2.f1 x.f3 x.f4 x.f5 x.f6 x.f7 x.f8 x.f9 x.f10 x.f11 x.f12 x.f13 x.f14 x.f15 y.f0 y.f1.f0 y.f1.f1 y.f1.f2 y.f2.f0 y.f2.f1 y.f3 y.f4 y.f5 y.f6 y.f7 y.f8 y.f9 y.f10 y.f11 y.f12 y.f13 y.f14 y.f15) (eqT x y) := by
  unfold impl_EqualThreads.f eqT
  simp only [and_IS]
  refine Ev.bind (i_eqInts _ _ hx.1) ?_
  refine Ev.bind (i_eqInts _ _ hx.2.1) ?_
  refine Ev.bind (i_eqEntries _ _ hx.2.2.1) ?_
  refine Ev.bind (i_eqEntries _ _ hx.2.2.2.1) ?_
  refine Ev.bind (i_eqInts _ _ hx.2.2.2.2) ?_
  exact Ev.now _
theorem s_loop (X Y : List S36) (hl : X.length ≤ 1048576) (he : X.length = Y.length) (hw : ∀ x ∈ X, lensI x) (d : Nat) : ∀ i : Nat, i + d = X.length → Ev (fun k => spec_EqualStates.l0 k X Y (i : Int)) (lbeq eqT (X.drop i) (Y.drop i)) := by
  induction d with
  | zero =>
    intro i hi
    rw [List.drop_eq_nil_of_le (by omega), List.drop_eq_nil_of_le (by omega), lbeq]
    refine Ev.step (f := fun _ => some true) (fun k => ?_) (Ev.now _)
    rw [spec_EqualStates.l0, if_neg (by omega)]
  | succ d ih =>
    intro i hi
    have hil : i < X.length := by omega
    have hjl : i < Y.length := by omega
    have hx := hw X[i] (List.getElem_mem hil)
    have hrx := rdTI X i hil
    have hry := rdTI Y i hjl
    have q1 : (i : Int) < (X.length : Int) := by omega
    have q2 : (0 : Int) ≤ (i : Int) := by omega
    have q3 : (i : Int) < (Y.length : Int) := by omega
    have pi : wrap64 ((i : Int) + 1) = ((i + 1 : Nat) : Int) := w64 (by omega) (by omega)
    rw [List.drop_eq_getElem_cons hil, List.drop_eq_getElem_cons hjl, lbeq]
    refine Ev.step (f := fun k => (spec_EqualThreads.f k X[i].f0 X[i].f1.f0 X[i].f1.f1 X[i].f1.f2 X[i].f2.f0 X[i].f2.f1 X[i].f3 X[i].f4 X[i].f5 X[i].f6 X[i].f7 X[i].f8 X[i].f9 X[i].f10 X[i].f11 X[i].f12 X[i].f13 X[i].f14 X[i].f15 Y[i].f0 Y[i].f1.f0 Y[i].f1.f1 Y[i].f1.f2 Y[i].f2.f0 Y[i].f2.f1 Y[i].f3 Y[i].f4 Y[i].f5 Y[i].f6 Y[i].f7 Y[i].f8 Y[i].f9 Y[i].f10 Y[i].f11 Y[i].f12 Y[i].f13 Y[i].f14 Y[i].f15).bind fun t => if t = true then spec_EqualStates.l0 k X Y ((i + 1 : Nat) : Int) else some false) (fun k => ?_) ?_
    · rw [spec_EqualStates.l0, if_pos q1, if_pos q2, if_pos q3]
      simp only [hrx, hry, pi]
    · refine Ev.bind (s_eqT X[i] Y[i] hx) ?_
      cases hq : eqT X[i] Y[i] with
      | true =>
        simp only [if_true, Bool.true_and]
        exact ih (i + 1) (by omega)
      | false =>
        simp only [Bool.false_eq_true, if_false, Bool.false_and]
        exact Ev.now _
theorem i_loop (X Y : List S36) (hl : X.length ≤ 1048576) (he : X.length = Y.length) (hw : ∀ x ∈ X, lensI x) (d : Nat) : ∀ i : Nat, i + d = X.length → Ev (fun k => slices_EqualFunc.l0 k X Y (i : Int)) (lbeq eqT (X.drop i) (Y.drop i)) := by
  induction d with
  | zero =>
    intro i hi
    rw [List.drop_eq_nil_of_le (by omega), List.drop_eq_nil_of_le (by omega), lbeq]
    refine Ev.step (f := fun _ => some true) (fun k => ?_) (Ev.now _)
    rw [slices_EqualFunc.l0, if_neg (by omega)]
  | succ d ih =>
    intro i hi
    have hil : i < X.length := by omega
    have hjl : i < Y.length := by omega
    have hx := hw X[i] (List.getElem_mem hil)
    have hrx := rdTI X i hil
    have hry := rdTI Y i hjl
    have q1 : (i : Int) < (X.length : Int) := by omega
    have q2 : (0 : Int) ≤ (i : Int) := by omega
    have q3 : (i : Int) < (Y.length : Int) := by omega
    have pi : wrap64 ((i : Int) + 1) = ((i + 1 : Nat) : Int) := w64 (by omega) (by omega)
    rw [List.drop_eq_getElem_cons hil, List.drop_eq_getElem_cons hjl, lbeq]
    refine Ev.step (f := fun k => (impl_EqualThreads.f k X[i].f0 X[i].f1.f0 X[i].f1.f1 X[i].f1.f2 X[i].f2.f0 X[i].f2.f1 X[i].f3 X[i].f4 X[i].f5 X[i].f6 X[i].f7 X[i].f8 X[i].f9 X[i].f10 X[i].f11 X[i].f12 X[i].f13 X[i].f14 X[i].f15 Y[i].f0 Y[i].f1.f0 Y[i].f1.f1 Y[i].f1.f2 Y[i].f2.f0 Y[i].f2.f1 Y[i].f3 Y[i].f4 Y[i].f5 Y[i].f6 Y[i].f7 Y[i].f8 Y[i].f9 Y[i].f10 Y[i].f11 Y[i].f12 Y[i].f13 Y[i].f14 Y[i].f15).bind fun t => if t = true then slices_EqualFunc.l0 k X Y ((i + 1 : Nat) : Int) else some false) (fun k => ?_) ?_
    · rw [slices_EqualFunc.l0, if_pos q1, if_pos q2, if_pos q3]
      simp only [hrx, hry, pi]
    · refine Ev.bind (i_eqT X[i] Y[i] hx) ?_
      cases hq : eqT X[i] Y[i] with
      | true =>
        simp only [if_true, Bool.true_and]
        exact ih (i + 1) (by omega)
      | false =>
        simp only [Bool.false_eq_true, if_false, Bool.false_and]
        exact Ev.now _
theorem s_last (X Y : List S36) (hl : X.length ≤ 1048576) (hw : ∀ x ∈ X, lensI x) : Ev (fun k => if (X.length : Int) = (Y.length : Int) then spec_EqualStates.l0 k X Y 0 else some false) (lbeq eqT X Y) := by
  by_cases h : X.length = Y.length
  · simp only [if_pos (show (X.length : Int) = (Y.length : Int) by omega)]
    exact s_loop X Y hl h hw X.length 0 (by omega)
  · simp only [if_neg (show ¬ (X.length : Int) = (Y.length : Int) by omega)]
    rw [lbeq_len eqT X Y h]
    exact Ev.now _
theorem i_last (X Y : List S36) (hl : X.length ≤ 1048576) (hw : ∀ x ∈ X, lensI x) : Ev (fun k => slices_EqualFunc.f k X Y) (lbeq eqT X Y) := by
  unfold slices_EqualFunc.f
  by_cases h : X.length = Y.length
  · simp only [if_pos (show (X.length : Int) = (Y.length : Int) by omega)]
    exact i_loop X Y hl h hw X.length 0 (by omega)
  · simp only [if_neg (show ¬ (X.length : Int) = (Y.length : Int) by omega)]
    rw [lbeq_len eqT X Y h]
    exact Ev.now _
theorem all_IS (X Y : List S36) (e t6 t7 e9 e10 e11 e12 : Bool) : allB e t6 t7 (lbeq eqT X Y) e9 e10 e11 e12 = allS e t6 t7 e9 e10 e11 e12 ((X.length : Int) == (Y.length : Int)) (lbeq eqT X Y) := by
  unfold allB allS
  by_cases h : X.length = Y.length
  · rw [show ((X.length : Int) == (Y.length : Int)) = true from beq_iff_eq.mpr (by omega), Bool.true_and]
    generalize lbeq eqT X Y = z
    ac_rfl
  · rw [lbeq_len eqT X Y h]
    cases e <;> cases t6 <;> cases t7 <;> cases e9 <;> cases e10 <;> cases e11 <;> cases e12 <;> simp
theorem FnExactEqualStates : ∀ (a0 a1 a2 a3 a4 a5 : Int) (l6 l7 : List Int) (l8 : List S29) (a9 a10 a11 a12 : Int) (b0 b1 b2 b3 b4 b5 : Int) (m6 m7 : List Int) (m8 : List S29) (b9 b10 b11 b12 : Int), (Lit.int .i64 a0).wf = true → (Lit.int .i64 a1).wf = true → (Lit.int .i64 a2).wf = true → (Lit.int .i64 a3).wf = true → (Lit.int .i64 a4).wf = true → (Lit.int .i64 a5).wf = true → l6.length ≤ maxLen → (∀ x ∈ l6, (Lit.int .i64 x).wf = true) → l7.length ≤ maxLen → (∀ x ∈ l7, (Lit.int .i64 x).wf = true) → l8.length ≤ maxLen → (∀ x ∈ l8, wfThr x) → (Lit.int .i64 a9).wf = true → (Lit.int .i64 a10).wf = true → (Lit.int .i64 a11).wf = true → (Lit.int .i64 a12).wf = true → (Lit.int .i64 b0).wf = true → (Lit.int .i64 b1).wf = true → (Lit.int .i64 b2).wf = true → (Lit.int .i64 b3).wf = true → (Lit.int .i64 b4).wf = true → (Lit.int .i64 b5).wf = true → m6.length ≤ maxLen → (∀ x ∈ m6, (Lit.int .i64 x).wf = true) → m7.length ≤ maxLen → (∀ x ∈ m7, (Lit.int .i64 x).wf = true) → m8.length ≤ maxLen → (∀ x ∈ m8, wfThr x) → (Lit.int .i64 b9).wf = true → (Lit.int .i64 b10).wf = true → (Lit.int .i64 b11).wf = true → (Lit.int .i64 b12).wf = true →
    ∃ k, laws_FnExactEqualStates.f k a0 a1 a2 a3 a4 a5 l6 l7 l8 a9 a10 a11 a12 b0 b1 b2 b3 b4 b5 m6 m7 m8 b9 b10 b11 b12 = some true := by
  intro a0 a1 a2 a3 a4 a5 l6 l7 l8 a9 a10 a11 a12 b0 b1 b2 b3 b4 b5 m6 m7 m8 b9 b10 b11 b12 _ _ _ _ _ _ ha6 _ ha7 _ ha8 wa8 _ _ _ _ _ _ _ _ _ _ hb6 _ hb7 _ hb8 wb8 _ _ _ _
  unfold laws_FnExactEqualStates.f
  obtain ⟨r, hr, hc⟩ := sz_state a0 a1 a2 a3 a4 a5 l6 l7 l8 a9 a10 a11 a12 ha6 ha7 ha8 wa8 1048576 (by omega) (by omega)
  refine (Ev.bind hr ?_).rounds
  rcases hc with hc | ⟨r0, r1, z6, z7, z8, zw⟩
  · simp only [if_pos hc]
    exact Ev.now _
  simp only [if_neg (show ¬ r < 0 by omega)]
  obtain ⟨q, hq, hd⟩ := sz_state b0 b1 b2 b3 b4 b5 m6 m7 m8 b9 b10 b11 b12 hb6 hb7 hb8 wb8 r r0 r1
  refine Ev.bind hq ?_
  rcases hd with hd | ⟨q0, _, y6, y7, y8, yw⟩
  · simp only [if_pos hd]
    exact Ev.now _
  simp only [if_neg (show ¬ q < 0 by omega)]
  refine Ev.bind (to_state a0 a1 a2 a3 a4 a5 l6 l7 l8 a9 a10 a11 a12 z6 z7 z8 zw) ?_
  refine Ev.bind (to_state b0 b1 b2 b3 b4 b5 m6 m7 m8 b9 b10 b11 b12 y6 y7 y8 yw) ?_
  have n8 : (l8.map toT).length ≤ 1048576 := by simpa using z8
  have nw := lensI_toT zw
  have o8 : (m8.map toT).length ≤ 1048576 := by simpa using y8
  have ow := lensI_toT yw
  generalize l8.map toT = X at n8 nw ⊢
  generalize m8.map toT = Y at o8 ow ⊢
  refine Ev.bind (s_l7Ints l6 m6 z6) ?_
  refine Ev.bind (s_l7Ints l7 m7 z7) ?_
  refine Ev.bind (s_last X Y n8 nw) ?_
  refine Ev.bind (i_eqInts l6 m6 z6) ?_
  refine Ev.bind (i_eqInts l7 m7 z7) ?_
  refine Ev.bind (i_last X Y n8 nw) ?_
  simp only [if_pos (all_IS X Y _ _ _ _ _ _ _)]
  refine Ev.bind (eq_state a0 a1 a2 a3 a4 a5 l6 l7 X a9 a10 a11 a12 z6 z7 n8 nw) ?_
  simp only [if_true]
  refine Ev.bind (eq_state b0 b1 b2 b3 b4 b5 m6 m7 Y b9 b10 b11 b12 y6 y7 o8 ow) ?_
  simp only [if_true]
  exact Ev.now _

end Go.Proofs.Ytamlpnfnidkknaa.Pure
