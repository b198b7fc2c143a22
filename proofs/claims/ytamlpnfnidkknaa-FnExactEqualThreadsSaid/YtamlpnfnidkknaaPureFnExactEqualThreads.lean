/- The pure side of FnExactEqualThreads: the program's EqualThreads answers what the reference's does and leaves both threads as they were, for all threads (the law itself answers true past 1048576). No condition. -/
import Derived.Test.YtamlpnfnidkknaaGFnExactEqualThreadsx9
import Derived.OpenShut
import Derived.Laws.BitsLemmas
set_option linter.unusedVariables false
set_option linter.unusedSimpArgs false
namespace Go.Proofs.Ytamlpnfnidkknaa.Pure
open Go.RowKit Go.Proofs.Ytamlpnfnidkknaa.GFnExactEqualThreads Go.Proofs.YtamlpnfnidkknaaW.PrintWords Go.Proofs.YtamlpnfnidkknaaW.PrintLast

theorem w64 {x : Int} (h : -9223372036854775808 ≤ x) (h' : x ≤ 9223372036854775807) : wrap64 x = x := by unfold wrap64; omega
theorem tdiv_pos {x y : Int} (h : 0 ≤ x) : Int.tdiv x y = x / y := Int.tdiv_eq_ediv_of_nonneg h
theorem tmod_pos {x y : Int} (h : 0 ≤ x) : Int.tmod x y = x % y := Int.tmod_eq_emod_of_nonneg h
theorem eq_strs {g w : Option ByteArray} {r : ByteArray} (h1 : w = some r) (h2 : g = some r) : (w.bind fun t => g.bind fun u => if u.toList = t.toList then some true else some false) = some true := by
  subst h1; subst h2; simp
theorem eq_ints {g w : Option Int} {r : Int} (h1 : w = some r) (h2 : g = some r) : (w.bind fun t => g.bind fun u => if u = t then some true else some false) = some true := by
  subst h1; subst h2; simp
theorem eq_bools {g w : Option Bool} {r : Bool} (h1 : w = some r) (h2 : g = some r) : (w.bind fun t => g.bind fun u => if (u != t) = true then some false else some true) = some true := by
  subst h1; subst h2; simp
theorem ev_strs {g w : Nat → Option ByteArray} {r : ByteArray} (h1 : Ev w r) (h2 : Ev g r) : ∃ k, ((w k).bind fun t => (g k).bind fun u => if u.toList = t.toList then some true else some false) = some true := by
  obtain ⟨K, h1⟩ := h1
  obtain ⟨L, h2⟩ := h2
  exact ⟨max K L, eq_strs (h1 _ (by omega)) (h2 _ (by omega))⟩
theorem ev2 {α β : Type} {g : Nat → Option α} {f : Nat → Option β} {a : α} {b : β} {F : α → β → Option Bool} (hg : Ev g a) (hf : Ev f b) (h : F a b = some true) : ∃ k, ((g k).bind fun t => (f k).bind fun u => F t u) = some true :=
  (Ev.bind hg (Ev.bind hf ⟨0, fun _ _ => h⟩)).rounds
theorem rd_eq (l : List Int) (i : Nat) (h : i < l.length) : rd l (i : Int) = l[i] := by
  unfold rd
  rw [show ((i : Int)).toNat = i by omega, List.getD_eq_getElem?_getD, List.getElem?_eq_getElem h]
  rfl
theorem rdT_eq (l : List S65) (i : Nat) (h : i < l.length) : rd_T65 l (i : Int) = l[i] := by
  unfold rd_T65
  rw [show ((i : Int)).toNat = i by omega, List.getD_eq_getElem?_getD, List.getElem?_eq_getElem h]
  rfl
def toE (e : S77) : S65 := ⟨e.f0, e.f1, e.f2, e.f3⟩
theorem rdL_eq (l : List S77) (i : Nat) (h : i < l.length) : rd_T77 l (i : Int) = l[i] := by
  unfold rd_T77
  rw [show ((i : Int)).toNat = i by omega, List.getD_eq_getElem?_getD, List.getElem?_eq_getElem h]
  rfl
theorem toEntryS_l (l : List S77) (hl : l.length ≤ 1048576) (d : Nat) : ∀ i : Nat, i + d = l.length → Ev (fun k => laws_toEntryS.l0 k l ((l.map toE).take i ++ List.replicate d z65) i) (l.map toE) := by
  induction d with
  | zero =>
    intro i hi
    refine Ev.step (f := fun _ => some _) (fun k => ?_) (Ev.now _)
    simp only [laws_toEntryS.l0]
    rw [if_neg (by omega), List.take_of_length_le (by simp; omega)]
    simp
  | succ d ih =>
    intro i hi
    refine Ev.step (fun k => ?_) (ih (i + 1) (by omega))
    have hlen : ((l.map toE).take i).length = i := by rw [List.length_take, List.length_map]; omega
    simp only [laws_toEntryS.l0, laws_toEntry.f, Option.bind_some]
    rw [if_pos (by omega), if_pos (by omega), if_pos (by rw [List.length_append, hlen, List.length_replicate]; omega), w64 (by omega) (by omega), rdL_eq l i (by omega)]
    congr 1
    rw [show ((i : Int)).toNat = i by omega, List.set_append_right _ _ (by omega), hlen, List.take_succ_eq_append_getElem (by simp; omega), List.append_assoc]
    simp [List.replicate_succ, toE]
theorem toEntryS (l : List S77) (hl : l.length ≤ 1048576) : Ev (fun k => laws_toEntryS.f k l) (l.map toE) := by
  unfold laws_toEntryS.f
  simp only [if_pos (show 0 ≤ (l.length : Int) by omega), if_pos (show ((l.length : Int)).toNat ≤ 8796093022208 by omega)]
  exact toEntryS_l l hl l.length 0 (by omega)
theorem eqEntryS_l (l : List S65) (hl : l.length ≤ 1048576) (d : Nat) : ∀ i : Nat, i + d = l.length → Ev (fun k => laws_eqEntryS.l0 k l l i) true := by
  induction d with
  | zero =>
    intro i hi
    refine Ev.step (f := fun _ => some true) (fun k => ?_) (Ev.now _)
    simp only [laws_eqEntryS.l0]
    rw [if_neg (by omega)]
  | succ d ih =>
    intro i hi
    refine Ev.step (fun k => ?_) (ih (i + 1) (by omega))
    simp only [laws_eqEntryS.l0, laws_eqEntry.f, if_true, Option.bind_some]
    rw [if_pos (by omega), if_pos (by omega), w64 (by omega) (by omega), if_pos (by omega)]
    rfl
theorem eqEntryS_refl (l : List S65) (hl : l.length ≤ 1048576) : Ev (fun k => laws_eqEntryS.f k l l) true := by
  unfold laws_eqEntryS.f
  simp only [if_true]
  exact eqEntryS_l l hl l.length 0 (by omega)
theorem toIntS_l (l : List Int) (hl : l.length ≤ 1048576) (d : Nat) : ∀ i : Nat, i + d = l.length → Ev (fun k => laws_toIntS.l0 k l (l.take i ++ List.replicate d 0) i) l := by
  induction d with
  | zero =>
    intro i hi
    refine Ev.step (f := fun _ => some l) (fun k => ?_) (Ev.now _)
    simp only [laws_toIntS.l0]
    rw [if_neg (by omega), List.take_of_length_le (by omega)]
    simp
  | succ d ih =>
    intro i hi
    refine Ev.step (fun k => ?_) (ih (i + 1) (by omega))
    simp only [laws_toIntS.l0]
    have hlen : (l.take i).length = i := by rw [List.length_take]; omega
    rw [if_pos (by omega), if_pos (by omega), if_pos (by rw [List.length_append, hlen, List.length_replicate]; omega), w64 (by omega) (by omega), rd_eq l i (by omega)]
    congr 1
    rw [show ((i : Int)).toNat = i by omega, List.set_append_right _ _ (by omega), hlen, List.take_succ_eq_append_getElem (by omega), List.append_assoc]
    simp [List.replicate_succ]
theorem toIntS (l : List Int) (hl : l.length ≤ 1048576) : Ev (fun k => laws_toIntS.f k l) l := by
  unfold laws_toIntS.f
  simp only [if_pos (show 0 ≤ (l.length : Int) by omega), if_pos (show ((l.length : Int)).toNat ≤ 35184372088832 by omega)]
  exact toIntS_l l hl l.length 0 (by omega)
theorem eqIntS_l (l : List Int) (hl : l.length ≤ 1048576) (d : Nat) : ∀ i : Nat, i + d = l.length → Ev (fun k => laws_eqIntS.l0 k l l i) true := by
  induction d with
  | zero =>
    intro i hi
    refine Ev.step (f := fun _ => some true) (fun k => ?_) (Ev.now _)
    simp only [laws_eqIntS.l0]
    rw [if_neg (by omega)]
  | succ d ih =>
    intro i hi
    refine Ev.step (fun k => ?_) (ih (i + 1) (by omega))
    simp only [laws_eqIntS.l0, if_true]
    rw [if_pos (by omega), if_pos (by omega), w64 (by omega) (by omega), if_pos (by omega)]
    rfl
theorem eqIntS_refl (l : List Int) (hl : l.length ≤ 1048576) : Ev (fun k => laws_eqIntS.f k l l) true := by
  unfold laws_eqIntS.f
  simp only [if_true]
  exact eqIntS_l l hl l.length 0 (by omega)
theorem sz_i (l : List Int) (hl : l.length ≤ maxLen) (a : Int) (h0 : 0 ≤ a) (h1 : a ≤ 1048576) : ∃ r, laws_szIntS.f l a = some r ∧ (r < 0 ∨ (r = a - (l.length : Int) ∧ 0 ≤ r ∧ r ≤ 1048576 ∧ l.length ≤ 1048576)) := by
  unfold maxLen at hl
  unfold laws_szIntS.f
  rw [w64 (x := a - (l.length : Int)) (by omega) (by omega)]
  by_cases h : a - (l.length : Int) < 0
  · rw [if_pos h]
    exact ⟨_, rfl, .inl (by omega)⟩
  · rw [if_neg h]
    exact ⟨_, rfl, .inr ⟨rfl, by omega, by omega, by omega⟩⟩
theorem sz_e (l : List S77) (hl : l.length ≤ maxLen) (a : Int) (h0 : 0 ≤ a) (h1 : a ≤ 1048576) : ∃ r, laws_szEntryS.f l a = some r ∧ (r < 0 ∨ (r = a - (l.length : Int) ∧ 0 ≤ r ∧ r ≤ 1048576 ∧ l.length ≤ 1048576)) := by
  unfold maxLen at hl
  unfold laws_szEntryS.f
  rw [w64 (x := a - (l.length : Int)) (by omega) (by omega)]
  by_cases h : a - (l.length : Int) < 0
  · rw [if_pos h]
    exact ⟨_, rfl, .inl (by omega)⟩
  · rw [if_neg h]
    exact ⟨_, rfl, .inr ⟨rfl, by omega, by omega, by omega⟩⟩
section
variable (a0 a1 a2 a3 a4 a5 a6 a7 a8 a9 a10 a11 a12 a13 : Int) (l14 l15 : List Int) (l16 l17 : List S77) (l18 : List Int)
theorem sz_thread (b : Int) (b0 : 0 ≤ b) (b1 : b ≤ 1048576) (h14 : l14.length ≤ maxLen) (h15 : l15.length ≤ maxLen) (h16 : l16.length ≤ maxLen) (h17 : l17.length ≤ maxLen) (h18 : l18.length ≤ maxLen) :
    ∃ r, laws_szThread.f a0 a1 a2 a3 a4 a5 a6 a7 a8 a9 a10 a11 a12 a13 l14 l15 l16 l17 l18 b = some r ∧ (r < 0 ∨ (0 ≤ r ∧ r ≤ 1048576 ∧ l14.length ≤ 1048576 ∧ l15.length ≤ 1048576 ∧ l16.length ≤ 1048576 ∧ l17.length ≤ 1048576 ∧ l18.length ≤ 1048576)) := by
  unfold laws_szThread.f
  obtain ⟨r1, e1, c1⟩ := sz_i l14 h14 b b0 b1
  rw [e1, Option.bind_some]
  rcases c1 with c1 | ⟨_, p1, q1, z1⟩
  · rw [if_pos c1]; exact ⟨_, rfl, .inl (by omega)⟩
  · rw [if_neg (by omega)]
    obtain ⟨r2, e2, c2⟩ := sz_i l15 h15 r1 p1 q1
    rw [e2, Option.bind_some]
    rcases c2 with c2 | ⟨_, p2, q2, z2⟩
    · rw [if_pos c2]; exact ⟨_, rfl, .inl (by omega)⟩
    · rw [if_neg (by omega)]
      obtain ⟨r3, e3, c3⟩ := sz_e l16 h16 r2 p2 q2
      rw [e3, Option.bind_some]
      rcases c3 with c3 | ⟨_, p3, q3, z3⟩
      · rw [if_pos c3]; exact ⟨_, rfl, .inl (by omega)⟩
      · rw [if_neg (by omega)]
        obtain ⟨r4, e4, c4⟩ := sz_e l17 h17 r3 p3 q3
        rw [e4, Option.bind_some]
        rcases c4 with c4 | ⟨_, p4, q4, z4⟩
        · rw [if_pos c4]; exact ⟨_, rfl, .inl (by omega)⟩
        · rw [if_neg (by omega)]
          obtain ⟨r5, e5, c5⟩ := sz_i l18 h18 r4 p4 q4
          rw [e5, Option.bind_some]
          rcases c5 with c5 | ⟨_, p5, q5, z5⟩
          · rw [if_pos c5]; exact ⟨_, rfl, .inl (by omega)⟩
          · rw [if_neg (by omega)]
            exact ⟨_, rfl, .inr ⟨p5, q5, z1, z2, z3, z4, z5⟩⟩
theorem to_thread (h14 : l14.length ≤ 1048576) (h15 : l15.length ≤ 1048576) (h16 : l16.length ≤ 1048576) (h17 : l17.length ≤ 1048576) (h18 : l18.length ≤ 1048576) :
    Ev (fun k => laws_toThread.f k a0 a1 a2 a3 a4 a5 a6 a7 a8 a9 a10 a11 a12 a13 l14 l15 l16 l17 l18) (a0, a1, a2, a3, a4, a5, a6, a7, a8, a9, a10, a11, a12, a13, l14, l15, l16.map toE, l17.map toE, l18) := by
  unfold laws_toThread.f laws_toOp.f laws_toResult.f
  simp only [Option.bind_some]
  refine Ev.bind (toIntS l14 h14) ?_
  refine Ev.bind (toIntS l15 h15) ?_
  refine Ev.bind (toEntryS l16 h16) ?_
  refine Ev.bind (toEntryS l17 h17) ?_
  refine Ev.bind (toIntS l18 h18) ?_
  exact Ev.now _
end
section
variable (a0 a1 a2 a3 a4 a5 a6 a7 a8 a9 a10 a11 a12 a13 : Int) (l14 l15 : List Int) (l16 l17 : List S65) (l18 : List Int)
theorem eq_thread (h14 : l14.length ≤ 1048576) (h15 : l15.length ≤ 1048576) (h16 : l16.length ≤ 1048576) (h17 : l17.length ≤ 1048576) (h18 : l18.length ≤ 1048576) :
    Ev (fun k => laws_eqThread.f k a0 a1 a2 a3 a4 a5 a6 a7 a8 a9 a10 a11 a12 a13 l14 l15 l16 l17 l18 a0 a1 a2 a3 a4 a5 a6 a7 a8 a9 a10 a11 a12 a13 l14 l15 l16 l17 l18) true := by
  unfold laws_eqThread.f laws_eqOp.f laws_eqResult.f
  simp only [if_true, Option.bind_some]
  refine Ev.bind (eqIntS_refl l14 h14) ?_
  simp only [if_true]
  refine Ev.bind (eqIntS_refl l15 h15) ?_
  simp only [if_true]
  refine Ev.bind (eqEntryS_refl l16 h16) ?_
  simp only [if_true]
  refine Ev.bind (eqEntryS_refl l17 h17) ?_
  simp only [if_true]
  refine Ev.bind (eqIntS_refl l18 h18) ?_
  simp only [if_true]
  exact Ev.now _
end
theorem strOfNums_nil : strOfNums [] = ByteArray.empty := rfl
theorem strOfNums_append (xs ys : List Int) : strOfNums (xs ++ ys) = strOfNums xs ++ strOfNums ys := by
  apply ByteArray.ext
  rw [ByteArray.data_append]
  simp [strOfNums]
theorem app_nil (s : ByteArray) : s ++ (⟨#[]⟩ : ByteArray) = s := ByteArray.append_empty
def bl (s : ByteArray) : List Int := s.data.toList.map fun b => (b.toNat : Int)
theorem bl_length (s : ByteArray) : (bl s).length = s.size := by
  unfold bl
  rw [List.length_map, Array.length_toList]
  rfl
theorem bl_append (a b : ByteArray) : bl (a ++ b) = bl a ++ bl b := by simp [bl]
theorem bl_nil : bl ⟨#[]⟩ = [] := rfl
theorem bl_range (s : ByteArray) : ∀ x ∈ bl s, 0 ≤ x ∧ x ≤ 255 := by
  intro x hx
  obtain ⟨b, _, rfl⟩ := List.mem_map.1 hx
  have := b.toNat_lt
  omega
theorem strOfNums_bl (s : ByteArray) : strOfNums (bl s) = s := by
  apply ByteArray.ext
  unfold strOfNums bl
  rw [List.map_map]
  have e : ((fun n : Int => UInt8.ofNat n.toNat) ∘ fun b : UInt8 => (b.toNat : Int)) = id := by
    funext b
    simp
  rw [e, List.map_id]
theorem bl_inj {a b : ByteArray} (h : bl a = bl b) : a = b := by rw [← strOfNums_bl a, ← strOfNums_bl b, h]
theorem bl_strOfNums (xs : List Int) (h : ∀ x ∈ xs, 0 ≤ x ∧ x ≤ 255) : bl (strOfNums xs) = xs := by
  unfold bl strOfNums
  rw [List.map_map]
  conv => rhs; rw [← List.map_id xs]
  apply List.map_congr_left
  intro x hx
  have := h x hx
  simp only [Function.comp, id, UInt8.toNat_ofNat']
  omega
theorem bl_extract0 (s : ByteArray) (k : Nat) : bl (s.extract 0 k) = (bl s).take k := by
  simp [bl, ByteArray.data_extract, Array.toList_extract, List.extract_eq_take_drop]
theorem bl_extract (s : ByteArray) (i j : Nat) : bl (s.extract i j) = ((bl s).drop i).take (j - i) := by
  simp [bl, ByteArray.data_extract, Array.toList_extract, List.extract_eq_take_drop]
theorem bt_bl (s : ByteArray) (i : Int) : bt s i = (bl s).getD i.toNat 0 := by
  unfold bt bl
  by_cases h : i.toNat < s.size
  · rw [dif_pos h, List.getD_eq_getElem?_getD, List.getElem?_map, List.getElem?_eq_getElem (show i.toNat < s.data.toList.length by rw [Array.length_toList]; exact h)]
    rfl
  · rw [dif_neg h, List.getD_eq_getElem?_getD, List.getElem?_eq_none (by rw [List.length_map, Array.length_toList]; exact Nat.le_of_not_lt h)]
    rfl
theorem toList_iff {a b : ByteArray} : a.toList = b.toList ↔ a = b := by
  constructor
  · intro h
    rw [ByteArray.toList_eq, ByteArray.toList_eq] at h
    apply ByteArray.ext
    exact Array.toList_inj.1 h
  · intro h
    rw [h]
def lbeq {α : Type} (e : α → α → Bool) : List α → List α → Bool
  | [], [] => true
  | x :: xs, y :: ys => e x y && lbeq e xs ys
  | [], _ :: _ => false
  | _ :: _, [] => false
theorem lbeq_len {α : Type} (e : α → α → Bool) : ∀ (a b : List α), a.length ≠ b.length → lbeq e a b = false
  | [], [], h => absurd rfl h
  | x :: xs, y :: ys, h => by rw [lbeq, lbeq_len e xs ys (by simpa using h), Bool.and_false]
  | [], _ :: _, _ => rfl
  | _ :: _, [], _ => rfl
def eqI (x y : Int) : Bool := decide (x = y)
def eqE (x y : S65) : Bool := (x.f0 == y.f0) && ((x.f1 == y.f1) && ((x.f2 == y.f2) && (x.f3 == y.f3)))
theorem not4 (p q r s : Bool) : (!p || (!q || (!r || !s))) = !(p && (q && (r && s))) := by cases p <;> cases q <;> cases r <;> cases s <;> rfl
theorem s_l7Ints_l (a b : List Int) (hl : a.length ≤ 1048576) (hb : a.length = b.length) (d : Nat) : ∀ i : Nat, i + d = a.length → Ev (fun k => spec_l7Ints.l0 k a b (i : Int)) (lbeq eqI (a.drop i) (b.drop i)) := by
  induction d with
  | zero =>
    intro i hi
    rw [List.drop_eq_nil_of_le (by omega), List.drop_eq_nil_of_le (by omega), lbeq]
    refine Ev.step (f := fun _ => some true) (fun k => ?_) (Ev.now _)
    simp only [spec_l7Ints.l0]
    rw [if_neg (by omega)]
  | succ d ih =>
    intro i hi
    rw [List.drop_eq_getElem_cons (show i < a.length by omega), List.drop_eq_getElem_cons (show i < b.length by omega), lbeq]
    have ra := rd_eq a i (by omega)
    have rb := rd_eq b i (by omega)
    unfold eqI
    by_cases h : a[i] = b[i]
    · rw [decide_eq_true h, Bool.true_and]
      refine Ev.step (fun k => ?_) (ih (i + 1) (by omega))
      simp only [spec_l7Ints.l0, ra, rb]
      rw [if_pos (by omega), if_pos (by omega), if_pos (by omega), if_pos h, w64 (by omega) (by omega)]
      rfl
    · rw [decide_eq_false h, Bool.false_and]
      refine Ev.step (f := fun _ => some false) (fun k => ?_) (Ev.now _)
      simp only [spec_l7Ints.l0, ra, rb]
      rw [if_pos (by omega), if_pos (by omega), if_pos (by omega), if_neg h]
theorem s_l7Ints (a b : List Int) (hl : a.length ≤ 1048576) : Ev (fun k => spec_l7Ints.f k a b) (lbeq eqI a b) := by
  unfold spec_l7Ints.f
  by_cases h : a.length = b.length
  · simp only [if_pos (show (a.length : Int) = (b.length : Int) by omega)]
    exact s_l7Ints_l a b hl h a.length 0 (by omega)
  · simp only [if_neg (show ¬ (a.length : Int) = (b.length : Int) by omega)]
    rw [lbeq_len eqI a b h]
    exact Ev.now _
theorem i_eqInts_l (a b : List Int) (hl : a.length ≤ 1048576) (hb : a.length = b.length) (d : Nat) : ∀ i : Nat, i + d = a.length → Ev (fun k => slices_Equal_int_int.l0 k a b (a.length : Int) (i : Int)) (lbeq eqI (a.drop i) (b.drop i)) := by
  induction d with
  | zero =>
    intro i hi
    rw [List.drop_eq_nil_of_le (by omega), List.drop_eq_nil_of_le (by omega), lbeq]
    refine Ev.step (f := fun _ => some true) (fun k => ?_) (Ev.now _)
    simp only [slices_Equal_int_int.l0]
    rw [if_neg (by omega)]
  | succ d ih =>
    intro i hi
    rw [List.drop_eq_getElem_cons (show i < a.length by omega), List.drop_eq_getElem_cons (show i < b.length by omega), lbeq]
    have ra := rd_eq a i (by omega)
    have rb := rd_eq b i (by omega)
    unfold eqI
    by_cases h : a[i] = b[i]
    · rw [decide_eq_true h, Bool.true_and]
      refine Ev.step (fun k => ?_) (ih (i + 1) (by omega))
      simp only [slices_Equal_int_int.l0, ra, rb]
      rw [if_pos (by omega), if_pos (by omega), if_pos (by omega), if_pos (by omega), if_pos h, w64 (by omega) (by omega)]
      rfl
    · rw [decide_eq_false h, Bool.false_and]
      refine Ev.step (f := fun _ => some false) (fun k => ?_) (Ev.now _)
      simp only [slices_Equal_int_int.l0, ra, rb]
      rw [if_pos (by omega), if_pos (by omega), if_pos (by omega), if_pos (by omega), if_neg h]
theorem i_eqInts (a b : List Int) (hl : a.length ≤ 1048576) : Ev (fun k => slices_Equal_int_int.f k a b) (lbeq eqI a b) := by
  unfold slices_Equal_int_int.f
  by_cases h : a.length = b.length
  · simp only [if_pos (show (a.length : Int) = (b.length : Int) by omega)]
    exact i_eqInts_l a b hl h a.length 0 (by omega)
  · simp only [if_neg (show ¬ (a.length : Int) = (b.length : Int) by omega)]
    rw [lbeq_len eqI a b h]
    exact Ev.now _
theorem s_l7Entries_l (a b : List S65) (hl : a.length ≤ 1048576) (hb : a.length = b.length) (d : Nat) : ∀ i : Nat, i + d = a.length → Ev (fun k => spec_l7Entries.l0 k a b (i : Int)) (lbeq eqE (a.drop i) (b.drop i)) := by
  induction d with
  | zero =>
    intro i hi
    rw [List.drop_eq_nil_of_le (by omega), List.drop_eq_nil_of_le (by omega), lbeq]
    refine Ev.step (f := fun _ => some true) (fun k => ?_) (Ev.now _)
    simp only [spec_l7Entries.l0]
    rw [if_neg (by omega)]
  | succ d ih =>
    intro i hi
    rw [List.drop_eq_getElem_cons (show i < a.length by omega), List.drop_eq_getElem_cons (show i < b.length by omega), lbeq]
    have ra := rdT_eq a i (by omega)
    have rb := rdT_eq b i (by omega)
    unfold eqE
    cases h : ((a[i].f0 == b[i].f0) && ((a[i].f1 == b[i].f1) && ((a[i].f2 == b[i].f2) && (a[i].f3 == b[i].f3)))) with
    | true =>
      rw [Bool.true_and]
      refine Ev.step (fun k => ?_) (ih (i + 1) (by omega))
      simp only [spec_l7Entries.l0, ra, rb, not4, h]
      rw [if_pos (by omega), if_pos (by omega), if_pos (by omega), if_neg (by decide), w64 (by omega) (by omega)]
      rfl
    | false =>
      rw [Bool.false_and]
      refine Ev.step (f := fun _ => some false) (fun k => ?_) (Ev.now _)
      simp only [spec_l7Entries.l0, ra, rb, not4, h]
      rw [if_pos (by omega), if_pos (by omega), if_pos (by omega), if_pos (by decide)]
theorem s_l7Entries (a b : List S65) (hl : a.length ≤ 1048576) : Ev (fun k => spec_l7Entries.f k a b) (lbeq eqE a b) := by
  unfold spec_l7Entries.f
  by_cases h : a.length = b.length
  · simp only [if_pos (show (a.length : Int) = (b.length : Int) by omega)]
    exact s_l7Entries_l a b hl h a.length 0 (by omega)
  · simp only [if_neg (show ¬ (a.length : Int) = (b.length : Int) by omega)]
    rw [lbeq_len eqE a b h]
    exact Ev.now _
theorem i_eqEntries_l (a b : List S65) (hl : a.length ≤ 1048576) (hb : a.length = b.length) (d : Nat) : ∀ i : Nat, i + d = a.length → Ev (fun k => impl_Entry.l0 k a b (a.length : Int) (i : Int)) (lbeq eqE (a.drop i) (b.drop i)) := by
  induction d with
  | zero =>
    intro i hi
    rw [List.drop_eq_nil_of_le (by omega), List.drop_eq_nil_of_le (by omega), lbeq]
    refine Ev.step (f := fun _ => some true) (fun k => ?_) (Ev.now _)
    simp only [impl_Entry.l0]
    rw [if_neg (by omega)]
  | succ d ih =>
    intro i hi
    rw [List.drop_eq_getElem_cons (show i < a.length by omega), List.drop_eq_getElem_cons (show i < b.length by omega), lbeq]
    have ra := rdT_eq a i (by omega)
    have rb := rdT_eq b i (by omega)
    unfold eqE
    cases h : ((a[i].f0 == b[i].f0) && ((a[i].f1 == b[i].f1) && ((a[i].f2 == b[i].f2) && (a[i].f3 == b[i].f3)))) with
    | true =>
      rw [Bool.true_and]
      refine Ev.step (fun k => ?_) (ih (i + 1) (by omega))
      simp only [impl_Entry.l0, ra, rb, not4, h]
      rw [if_pos (by omega), if_pos (by omega), if_pos (by omega), if_pos (by omega), if_neg (by decide), w64 (by omega) (by omega)]
      rfl
    | false =>
      rw [Bool.false_and]
      refine Ev.step (f := fun _ => some false) (fun k => ?_) (Ev.now _)
      simp only [impl_Entry.l0, ra, rb, not4, h]
      rw [if_pos (by omega), if_pos (by omega), if_pos (by omega), if_pos (by omega), if_pos (by decide)]
theorem i_eqEntries (a b : List S65) (hl : a.length ≤ 1048576) : Ev (fun k => impl_Entry.f k a b) (lbeq eqE a b) := by
  unfold impl_Entry.f
  by_cases h : a.length = b.length
  · simp only [if_pos (show (a.length : Int) = (b.length : Int) by omega)]
    exact i_eqEntries_l a b hl h a.length 0 (by omega)
  · simp only [if_neg (show ¬ (a.length : Int) = (b.length : Int) by omega)]
    rw [lbeq_len eqE a b h]
    exact Ev.now _
theorem not3 (p q r : Bool) : (!p || (!q || !r)) = !(p && (q && r)) := by cases p <;> cases q <;> cases r <;> rfl
theorem not2 (p q : Bool) : (!p || !q) = !(p && q) := by cases p <;> cases q <;> rfl
theorem so_ite {p : Prop} [Decidable p] {x : Option Bool} {y : Bool} (h : x = some y) : (if p then x else some false) = some (if p then y else false) := by
  by_cases hp : p
  · rw [if_pos hp, if_pos hp]; exact h
  · rw [if_neg hp, if_neg hp]
section
variable (a0 a1 a2 a3 a4 a5 a6 a7 a8 a9 a10 a11 a12 a13 b0 b1 b2 b3 b4 b5 b6 b7 b8 b9 b10 b11 b12 b13 : Int) (l14 l15 : List Int) (l16 l17 : List S65) (l18 : List Int) (m14 m15 : List Int) (m16 m17 : List S65) (m18 : List Int)
def eqLs : Bool := lbeq eqI l14 m14 && (lbeq eqI l15 m15 && (lbeq eqE l16 m16 && (lbeq eqE l17 m17 && lbeq eqI l18 m18)))
def eqTh : Bool := if a0 = b0 then (if (a1 == b1 && (a2 == b2 && (a3 == b3))) = true then (if (a4 == b4 && (a5 == b5)) = true then (if a6 = b6 then (if a7 = b7 then (if a8 = b8 then (if a9 = b9 then (if a10 = b10 then (if a11 = b11 then (if a12 = b12 then (if a13 = b13 then eqLs l14 l15 l16 l17 l18 m14 m15 m16 m17 m18 else false) else false) else false) else false) else false) else false) else false) else false) else false) else false) else false
variable (h14 : l14.length ≤ 1048576) (h15 : l15.length ≤ 1048576) (h16 : l16.length ≤ 1048576) (h17 : l17.length ≤ 1048576) (h18 : l18.length ≤ 1048576)
theorem s_et_t : Ev (fun k => spec_EqualThreads.j0 k true a0 a1 a2 a3 a4 a5 a6 a7 a8 a9 a10 a11 a12 a13 l14 l15 l16 l17 l18 b0 b1 b2 b3 b4 b5 b6 b7 b8 b9 b10 b11 b12 b13 m14 m15 m16 m17 m18) false := by
  refine Ev.step (f := fun _ => some false) (fun k => ?_) (Ev.now _)
  simp only [spec_EqualThreads.j0, if_true]
include h14 h15 h16 h17 h18
theorem s_et_f : Ev (fun k => spec_EqualThreads.j0 k false a0 a1 a2 a3 a4 a5 a6 a7 a8 a9 a10 a11 a12 a13 l14 l15 l16 l17 l18 b0 b1 b2 b3 b4 b5 b6 b7 b8 b9 b10 b11 b12 b13 m14 m15 m16 m17 m18) (eqLs l14 l15 l16 l17 l18 m14 m15 m16 m17 m18) := by
  unfold eqLs
  refine Ev.step (fun k => by simp only [spec_EqualThreads.j0, Bool.false_eq_true, if_false]; exact rfl) ?_
  refine Ev.bind (s_l7Ints l14 m14 h14) ?_
  cases lbeq eqI l14 m14 with
  | false => exact Ev.now _
  | true =>
    simp only [if_true, Bool.true_and]
    refine Ev.bind (s_l7Ints l15 m15 h15) ?_
    cases lbeq eqI l15 m15 with
    | false => exact Ev.now _
    | true =>
      simp only [if_true, Bool.true_and]
      refine Ev.bind (s_l7Entries l16 m16 h16) ?_
      cases lbeq eqE l16 m16 with
      | false => exact Ev.now _
      | true =>
        simp only [if_true, Bool.true_and]
        refine Ev.bind (s_l7Entries l17 m17 h17) ?_
        cases lbeq eqE l17 m17 with
        | false => exact Ev.now _
        | true =>
          simp only [if_true, Bool.true_and]
          refine Ev.bind (s_l7Ints l18 m18 h18) ?_
          exact Ev.now _
theorem s_et : Ev (fun k => spec_EqualThreads.f k a0 a1 a2 a3 a4 a5 a6 a7 a8 a9 a10 a11 a12 a13 l14 l15 l16 l17 l18 b0 b1 b2 b3 b4 b5 b6 b7 b8 b9 b10 b11 b12 b13 m14 m15 m16 m17 m18) (eqTh a0 a1 a2 a3 a4 a5 a6 a7 a8 a9 a10 a11 a12 a13 b0 b1 b2 b3 b4 b5 b6 b7 b8 b9 b10 b11 b12 b13 l14 l15 l16 l17 l18 m14 m15 m16 m17 m18) := by
  have jt := s_et_t a0 a1 a2 a3 a4 a5 a6 a7 a8 a9 a10 a11 a12 a13 b0 b1 b2 b3 b4 b5 b6 b7 b8 b9 b10 b11 b12 b13 l14 l15 l16 l17 l18 m14 m15 m16 m17 m18
  have jf := s_et_f a0 a1 a2 a3 a4 a5 a6 a7 a8 a9 a10 a11 a12 a13 b0 b1 b2 b3 b4 b5 b6 b7 b8 b9 b10 b11 b12 b13 l14 l15 l16 l17 l18 m14 m15 m16 m17 m18 h14 h15 h16 h17 h18
  unfold spec_EqualThreads.f eqTh
  simp only [not3, not2]
  by_cases c0 : a0 = b0
  · simp only [if_pos c0]
    cases c1 : (a1 == b1 && (a2 == b2 && (a3 == b3))) with
    | false => simp only [Bool.not_false, if_true, Bool.false_eq_true, if_false]; exact jt
    | true =>
      simp only [Bool.not_true, Bool.false_eq_true, if_false, if_true]
      cases c4 : (a4 == b4 && (a5 == b5)) with
      | false => simp only [Bool.not_false, if_true, Bool.false_eq_true, if_false]; exact jt
      | true =>
        simp only [Bool.not_true, Bool.false_eq_true, if_false, if_true]
        by_cases c6_ : a6 = b6
        · simp only [if_pos c6_]
          by_cases c7_ : a7 = b7
          · simp only [if_pos c7_]
            by_cases c8_ : a8 = b8
            · simp only [if_pos c8_]
              by_cases c9_ : a9 = b9
              · simp only [if_pos c9_]
                by_cases c10_ : a10 = b10
                · simp only [if_pos c10_]
                  by_cases c11_ : a11 = b11
                  · simp only [if_pos c11_]
                    by_cases c12_ : a12 = b12
                    · simp only [if_pos c12_]
                      by_cases c13_ : a13 = b13
                      · rw [if_pos c13_, show (a13 != b13) = false from bne_eq_false_iff_eq.mpr c13_]; exact jf
                      · rw [if_neg c13_, show (a13 != b13) = true from bne_iff_ne.mpr c13_]; exact jt
                    · simp only [if_neg c12_]; exact jt
                  · simp only [if_neg c11_]; exact jt
                · simp only [if_neg c10_]; exact jt
              · simp only [if_neg c9_]; exact jt
            · simp only [if_neg c8_]; exact jt
          · simp only [if_neg c7_]; exact jt
        · simp only [if_neg c6_]; exact jt
  · simp only [if_neg c0]; exact jt
theorem i_et : Ev (fun k => impl_EqualThreads.f k a0 a1 a2 a3 a4 a5 a6 a7 a8 a9 a10 a11 a12 a13 l14 l15 l16 l17 l18 b0 b1 b2 b3 b4 b5 b6 b7 b8 b9 b10 b11 b12 b13 m14 m15 m16 m17 m18) (eqTh a0 a1 a2 a3 a4 a5 a6 a7 a8 a9 a10 a11 a12 a13 b0 b1 b2 b3 b4 b5 b6 b7 b8 b9 b10 b11 b12 b13 l14 l15 l16 l17 l18 m14 m15 m16 m17 m18) := by
  have no : ∀ r : Bool, r = false → (if a0 = b0 then (if (a1 == b1 && (a2 == b2 && (a3 == b3))) = true then (if (a4 == b4 && (a5 == b5)) = true then (if a6 = b6 then (if a7 = b7 then (if a8 = b8 then (if a9 = b9 then (if a10 = b10 then (if a11 = b11 then (if a12 = b12 then (if a13 = b13 then r else false) else false) else false) else false) else false) else false) else false) else false) else false) else false) else false) = false := by
    intro r hr
    subst hr
    simp only [ite_self]
  unfold impl_EqualThreads.f eqTh eqLs
  refine Ev.bind (i_eqInts l14 m14 h14) ?_
  cases lbeq eqI l14 m14 with
  | false => first | (rw [no _ rfl]; exact Ev.now _) | (simp only [Bool.false_and, Bool.and_false, ite_self, Bool.false_eq_true, if_false]; exact Ev.now _)
  | true =>
    simp only [if_true, Bool.true_and]
    refine Ev.bind (i_eqInts l15 m15 h15) ?_
    cases lbeq eqI l15 m15 with
    | false => first | (rw [no _ rfl]; exact Ev.now _) | (simp only [Bool.false_and, Bool.and_false, ite_self, Bool.false_eq_true, if_false]; exact Ev.now _)
    | true =>
      simp only [if_true, Bool.true_and]
      refine Ev.bind (i_eqEntries l16 m16 h16) ?_
      cases lbeq eqE l16 m16 with
      | false => first | (rw [no _ rfl]; exact Ev.now _) | (simp only [Bool.false_and, Bool.and_false, ite_self, Bool.false_eq_true, if_false]; exact Ev.now _)
      | true =>
        simp only [if_true, Bool.true_and]
        refine Ev.bind (i_eqEntries l17 m17 h17) ?_
        cases lbeq eqE l17 m17 with
        | false => first | (rw [no _ rfl]; exact Ev.now _) | (simp only [Bool.false_and, Bool.and_false, ite_self, Bool.false_eq_true, if_false]; exact Ev.now _)
        | true =>
          simp only [if_true, Bool.true_and]
          refine Ev.bind (i_eqInts l18 m18 h18) ?_
          cases lbeq eqI l18 m18 with
          | false => first | (rw [no _ rfl]; exact Ev.now _) | (simp only [Bool.false_and, Bool.and_false, ite_self, Bool.false_eq_true, if_false]; exact Ev.now _)
          | true =>
            simp only [if_true]
            refine ⟨0, fun _ _ => ?_⟩
            repeat (refine so_ite ?_)
            by_cases h : a13 = b13 <;> simp [h]
end

theorem FnExactEqualThreads : ∀ (a0 a1 a2 a3 a4 a5 a6 a7 a8 a9 a10 a11 a12 a13 : Int) (l14 l15 : List Int) (l16 l17 : List S77) (l18 : List Int) (b0 b1 b2 b3 b4 b5 b6 b7 b8 b9 b10 b11 b12 b13 : Int) (m14 m15 : List Int) (m16 m17 : List S77) (m18 : List Int), (Lit.int .i64 a0).wf = true → (Lit.int .i64 a1).wf = true → (Lit.int .i64 a2).wf = true → (Lit.int .i64 a3).wf = true → (Lit.int .i64 a4).wf = true → (Lit.int .i64 a5).wf = true → (Lit.int .i64 a6).wf = true → (Lit.int .i64 a7).wf = true → (Lit.int .i64 a8).wf = true → (Lit.int .i64 a9).wf = true → (Lit.int .i64 a10).wf = true → (Lit.int .i64 a11).wf = true → (Lit.int .i64 a12).wf = true → (Lit.int .i64 a13).wf = true → l14.length ≤ maxLen → (∀ x ∈ l14, (Lit.int .i64 x).wf = true) → l15.length ≤ maxLen → (∀ x ∈ l15, (Lit.int .i64 x).wf = true) → l16.length ≤ maxLen → (∀ x ∈ l16, (Lit.int .i64 x.f0).wf = true ∧ (Lit.int .i64 x.f1).wf = true ∧ (Lit.int .i64 x.f2).wf = true ∧ (Lit.int .i64 x.f3).wf = true) → l17.length ≤ maxLen → (∀ x ∈ l17, (Lit.int .i64 x.f0).wf = true ∧ (Lit.int .i64 x.f1).wf = true ∧ (Lit.int .i64 x.f2).wf = true ∧ (Lit.int .i64 x.f3).wf = true) → l18.length ≤ maxLen → (∀ x ∈ l18, (Lit.int .i64 x).wf = true) → (Lit.int .i64 b0).wf = true → (Lit.int .i64 b1).wf = true → (Lit.int .i64 b2).wf = true → (Lit.int .i64 b3).wf = true → (Lit.int .i64 b4).wf = true → (Lit.int .i64 b5).wf = true → (Lit.int .i64 b6).wf = true → (Lit.int .i64 b7).wf = true → (Lit.int .i64 b8).wf = true → (Lit.int .i64 b9).wf = true → (Lit.int .i64 b10).wf = true → (Lit.int .i64 b11).wf = true → (Lit.int .i64 b12).wf = true → (Lit.int .i64 b13).wf = true → m14.length ≤ maxLen → (∀ x ∈ m14, (Lit.int .i64 x).wf = true) → m15.length ≤ maxLen → (∀ x ∈ m15, (Lit.int .i64 x).wf = true) → m16.length ≤ maxLen → (∀ x ∈ m16, (Lit.int .i64 x.f0).wf = true ∧ (Lit.int .i64 x.f1).wf = true ∧ (Lit.int .i64 x.f2).wf = true ∧ (Lit.int .i64 x.f3).wf = true) → m17.length ≤ maxLen → (∀ x ∈ m17, (Lit.int .i64 x.f0).wf = true ∧ (Lit.int .i64 x.f1).wf = true ∧ (Lit.int .i64 x.f2).wf = true ∧ (Lit.int .i64 x.f3).wf = true) → m18.length ≤ maxLen → (∀ x ∈ m18, (Lit.int .i64 x).wf = true) →
    ∃ k, laws_FnExactEqualThreads.f k a0 a1 a2 a3 a4 a5 a6 a7 a8 a9 a10 a11 a12 a13 l14 l15 l16 l17 l18 b0 b1 b2 b3 b4 b5 b6 b7 b8 b9 b10 b11 b12 b13 m14 m15 m16 m17 m18 = some true := by
  intro a0 a1 a2 a3 a4 a5 a6 a7 a8 a9 a10 a11 a12 a13 l14 l15 l16 l17 l18 b0 b1 b2 b3 b4 b5 b6 b7 b8 b9 b10 b11 b12 b13 m14 m15 m16 m17 m18 _ _ _ _ _ _ _ _ _ _ _ _ _ _ h14 _ h15 _ h16 _ h17 _ h18 _ _ _ _ _ _ _ _ _ _ _ _ _ _ _ g14 _ g15 _ g16 _ g17 _ g18 _
  unfold laws_FnExactEqualThreads.f
  obtain ⟨r, hr, hc⟩ := sz_thread a0 a1 a2 a3 a4 a5 a6 a7 a8 a9 a10 a11 a12 a13 l14 l15 l16 l17 l18 1048576 (by omega) (by omega) h14 h15 h16 h17 h18
  simp only [hr, Option.bind_some]
  rcases hc with hc | ⟨r0, r1, z14, z15, z16, z17, z18⟩
  · exact ⟨0, by rw [if_pos hc]⟩
  · simp only [if_neg (show ¬ r < 0 by omega)]
    obtain ⟨q, hq, hd⟩ := sz_thread b0 b1 b2 b3 b4 b5 b6 b7 b8 b9 b10 b11 b12 b13 m14 m15 m16 m17 m18 r r0 r1 g14 g15 g16 g17 g18
    simp only [hq, Option.bind_some]
    rcases hd with hd | ⟨q0, _, y14, y15, y16, y17, y18⟩
    · exact ⟨0, by rw [if_pos hd]⟩
    · simp only [if_neg (show ¬ q < 0 by omega)]
      have ta := to_thread a0 a1 a2 a3 a4 a5 a6 a7 a8 a9 a10 a11 a12 a13 l14 l15 l16 l17 l18 z14 z15 z16 z17 z18
      have tb := to_thread b0 b1 b2 b3 b4 b5 b6 b7 b8 b9 b10 b11 b12 b13 m14 m15 m16 m17 m18 y14 y15 y16 y17 y18
      have m16' : (l16.map toE).length ≤ 1048576 := by simpa using z16
      have m17' : (l17.map toE).length ≤ 1048576 := by simpa using z17
      have n16' : (m16.map toE).length ≤ 1048576 := by simpa using y16
      have n17' : (m17.map toE).length ≤ 1048576 := by simpa using y17
      have hs := s_et a0 a1 a2 a3 a4 a5 a6 a7 a8 a9 a10 a11 a12 a13 b0 b1 b2 b3 b4 b5 b6 b7 b8 b9 b10 b11 b12 b13 l14 l15 (l16.map toE) (l17.map toE) l18 m14 m15 (m16.map toE) (m17.map toE) m18 z14 z15 m16' m17' z18
      have hi := i_et a0 a1 a2 a3 a4 a5 a6 a7 a8 a9 a10 a11 a12 a13 b0 b1 b2 b3 b4 b5 b6 b7 b8 b9 b10 b11 b12 b13 l14 l15 (l16.map toE) (l17.map toE) l18 m14 m15 (m16.map toE) (m17.map toE) m18 z14 z15 m16' m17' z18
      refine (Ev.bind ta ?_).rounds
      refine Ev.bind tb ?_
      refine Ev.bind hs ?_
      refine Ev.bind ta ?_
      refine Ev.bind tb ?_
      refine Ev.bind hi ?_
      simp only [bne_self_eq_false, Bool.false_eq_true, if_false, beq_self_eq_true, if_true]
      refine Ev.bind ta ?_
      refine Ev.bind (eq_thread a0 a1 a2 a3 a4 a5 a6 a7 a8 a9 a10 a11 a12 a13 l14 l15 (l16.map toE) (l17.map toE) l18 z14 z15 m16' m17' z18) ?_
      simp only [if_true]
      refine Ev.bind tb ?_
      refine Ev.bind (eq_thread b0 b1 b2 b3 b4 b5 b6 b7 b8 b9 b10 b11 b12 b13 m14 m15 (m16.map toE) (m17.map toE) m18 y14 y15 n16' n17' y18) ?_
      simp only [if_true]
      exact Ev.now _

end Go.Proofs.Ytamlpnfnidkknaa.Pure
