/- The pure side of FnEntries: entries are divided as the reference divides them, without loss; what is dropped is not needed; and what is past is not needed, for every drawn list (the law itself answers true past its bound). No condition. -/
import Derived.Test.YtbenihcaleiacaaDoorGFnEntriesx8
import Derived.OpenShut
import Derived.Laws.BitsLemmas
set_option linter.unusedVariables false
set_option linter.unusedSimpArgs false
namespace Go.Proofs.YtbenihcaleiacaaDoor.Pure
open Go.RowKit Go.Proofs.YtbenihcaleiacaaDoor.GFnEntries Go.Proofs.YtbenihcaleiacaaDoorW.PrintWords Go.Proofs.YtbenihcaleiacaaDoorW.PrintLast

theorem w64 {x : Int} (h : -9223372036854775808 ≤ x) (h' : x ≤ 9223372036854775807) : wrap64 x = x := by unfold wrap64; omega
theorem tdiv_pos {x y : Int} (h : 0 ≤ x) : Int.tdiv x y = x / y := Int.tdiv_eq_ediv_of_nonneg h
theorem tmod_pos {x y : Int} (h : 0 ≤ x) : Int.tmod x y = x % y := Int.tmod_eq_emod_of_nonneg h
theorem eq_strs {g w : Option ByteArray} {r : ByteArray} (h1 : w = some r) (h2 : g = some r) : (w.bind fun t => g.bind fun u => if u.toList = t.toList then some true else some false) = some true := by
  subst h1; subst h2; simp
theorem eq_ints {g w : Option Int} {r : Int} (h1 : w = some r) (h2 : g = some r) : (w.bind fun t => g.bind fun u => if u = t then some true else some false) = some true := by
  subst h1; subst h2; simp
theorem eq_bools {g w : Option Bool} {r : Bool} (h1 : w = some r) (h2 : g = some r) : (w.bind fun t => g.bind fun u => if (u != t) = true then some false else some true) = some true := by
  subst h1; subst h2; simp
theorem ev_strs {g w : Nat → Option ByteArray} {r : ByteArray} (h1 : Ev w r) (h2 : Ev g r) : ∃ k, ((w k).bind fun t => (g k).bind fun u => if u.toList = t.toList then some true else some false) = some true := by
  obtain ⟨K, h1⟩ := h1
  obtain ⟨L, h2⟩ := h2
  exact ⟨max K L, eq_strs (h1 _ (by omega)) (h2 _ (by omega))⟩
theorem ev2 {α β : Type} {g : Nat → Option α} {f : Nat → Option β} {a : α} {b : β} {F : α → β → Option Bool} (hg : Ev g a) (hf : Ev f b) (h : F a b = some true) : ∃ k, ((g k).bind fun t => (f k).bind fun u => F t u) = some true :=
  (Ev.bind hg (Ev.bind hf ⟨0, fun _ _ => h⟩)).rounds
theorem rd_eq (l : List Int) (i : Nat) (h : i < l.length) : rd l (i : Int) = l[i] := by
  unfold rd
  rw [show ((i : Int)).toNat = i by omega, List.getD_eq_getElem?_getD, List.getElem?_eq_getElem h]
  rfl
theorem rdT_eq (l : List S39) (i : Nat) (h : i < l.length) : rd_T39 l (i : Int) = l[i] := by
  unfold rd_T39
  rw [show ((i : Int)).toNat = i by omega, List.getD_eq_getElem?_getD, List.getElem?_eq_getElem h]
  rfl
def isN (lo hi : Int) (l : List Int) : Bool := l.any fun n => decide (lo ≤ n) && decide (n < hi)
theorem s_IsNeeded_l (l : List Int) (hl : l.length ≤ 1048576) (a b lo hi : Int) (d : Nat) : ∀ i : Nat, i + d = l.length → Ev (fun k => spec_IsNeeded.l0 k l i a b lo hi) (isN lo hi (l.drop i)) := by
  induction d with
  | zero =>
    intro i h
    rw [List.drop_eq_nil_of_le (by omega)]
    refine Ev.step (f := fun _ => some _) (fun k => ?_) (Ev.now _)
    simp only [spec_IsNeeded.l0]
    rw [if_neg (by omega)]
    rfl
  | succ d ih =>
    intro i h
    have ih := ih (i + 1) (by omega)
    unfold isN at ih ⊢
    rw [List.drop_eq_getElem_cons (by omega), List.any_cons, ← rd_eq l i (by omega)]
    by_cases h1 : lo ≤ rd l i
    · by_cases h2 : rd l i < hi
      · rw [decide_eq_true h1, decide_eq_true h2]
        refine Ev.step (f := fun _ => some true) (fun k => ?_) (Ev.now _)
        simp only [spec_IsNeeded.l0]
        rw [if_pos (by omega), if_pos (by omega), if_pos h1, if_pos h2]
      · rw [decide_eq_false h2, Bool.and_false, Bool.false_or]
        refine Ev.step (fun k => ?_) ih
        simp only [spec_IsNeeded.l0]
        rw [if_pos (by omega), if_pos (by omega), if_pos h1, if_neg h2, w64 (by omega) (by omega)]
        rfl
    · rw [decide_eq_false h1, Bool.false_and, Bool.false_or]
      refine Ev.step (fun k => ?_) ih
      simp only [spec_IsNeeded.l0]
      rw [if_pos (by omega), if_pos (by omega), if_neg h1, w64 (by omega) (by omega)]
      rfl
theorem s_IsNeeded (a b lo hi : Int) (l : List Int) (hl : l.length ≤ 1048576) : Ev (fun k => spec_IsNeeded.f k a b lo hi l) (isN lo hi l) := s_IsNeeded_l l hl a b lo hi l.length 0 (by omega)
theorem i_IsNeeded (a b lo hi : Int) (l : List Int) : impl_IsNeeded.f a b lo hi l = some (isN lo hi l) := rfl
def isP (hi : Int) (l : List Int) : Bool := !(l.any fun n => decide (n < hi))
theorem s_IsPast_l (l : List Int) (hl : l.length ≤ 1048576) (a b lo hi : Int) (d : Nat) : ∀ i : Nat, i + d = l.length → Ev (fun k => spec_IsPast.l0 k l i a b lo hi) (isP hi (l.drop i)) := by
  induction d with
  | zero =>
    intro i h
    rw [List.drop_eq_nil_of_le (by omega)]
    refine Ev.step (f := fun _ => some _) (fun k => ?_) (Ev.now _)
    simp only [spec_IsPast.l0]
    rw [if_neg (by omega)]
    rfl
  | succ d ih =>
    intro i h
    have ih := ih (i + 1) (by omega)
    unfold isP at ih ⊢
    rw [List.drop_eq_getElem_cons (by omega), List.any_cons, ← rd_eq l i (by omega)]
    by_cases h2 : rd l i < hi
    · rw [decide_eq_true h2]
      refine Ev.step (f := fun _ => some false) (fun k => ?_) (Ev.now _)
      simp only [spec_IsPast.l0]
      rw [if_pos (by omega), if_pos (by omega), if_pos h2]
    · rw [decide_eq_false h2, Bool.false_or]
      refine Ev.step (fun k => ?_) ih
      simp only [spec_IsPast.l0]
      rw [if_pos (by omega), if_pos (by omega), if_neg h2, w64 (by omega) (by omega)]
      rfl
theorem s_IsPast (a b lo hi : Int) (l : List Int) (hl : l.length ≤ 1048576) : Ev (fun k => spec_IsPast.f k a b lo hi l) (isP hi l) := s_IsPast_l l hl a b lo hi l.length 0 (by omega)
theorem i_IsPast (a b lo hi : Int) (l : List Int) : impl_IsPast.f a b lo hi l = some (isP hi l) := rfl
def fineE (p key : Int) (ann : List Int) (e : S39) : Bool :=
  if p = 1 then isP e.f3 ann else if p = 2 then !(isN e.f2 e.f3 ann) && (decide (key < 0) || decide (e.f1 = key)) else !(isN e.f2 e.f3 ann)
def splitE (p key : Int) (ann : List Int) (l : List S39) : List S39 × List S39 := (l.filter fun e => !(fineE p key ann e), l.filter (fineE p key ann))
theorem s_SplitEntries_l (p key : Int) (ann : List Int) (ha : ann.length ≤ 1048576) (l : List S39) (hl : l.length ≤ 1048576) (d : Nat) : ∀ (i : Nat) (keep drop : List S39), i + d = l.length → keep.length ≤ i → drop.length ≤ i →
    Ev (fun k => spec_SplitEntries.l0 k p key l ann keep drop i) (keep ++ (splitE p key ann (l.drop i)).1, drop ++ (splitE p key ann (l.drop i)).2) := by
  induction d with
  | zero =>
    intro i keep drop hi hk hd
    rw [List.drop_eq_nil_of_le (by omega)]
    refine Ev.step (f := fun _ => some _) (fun k => ?_) (Ev.now _)
    simp only [spec_SplitEntries.l0]
    rw [if_neg (by omega)]
    simp [splitE]
  | succ d ih =>
    intro i keep drop hi hk hd
    have hr := rdT_eq l i (by omega)
    have goK : fineE p key ann l[i] = false → Ev (fun k => spec_SplitEntries.l0 k p key l ann (keep ++ [l[i]]) drop ((i + 1 : Nat) : Int)) (keep ++ (splitE p key ann (l.drop i)).1, drop ++ (splitE p key ann (l.drop i)).2) := by
      intro hf
      have := ih (i + 1) (keep ++ [l[i]]) drop (by omega) (by simp; omega) (by omega)
      rw [List.append_assoc] at this
      rw [List.drop_eq_getElem_cons (by omega)]
      unfold splitE at this ⊢
      rw [List.filter_cons_of_pos (by simp [hf]), List.filter_cons_of_neg (by simp [hf])]
      exact this
    have goD : fineE p key ann l[i] = true → Ev (fun k => spec_SplitEntries.l0 k p key l ann keep (drop ++ [l[i]]) ((i + 1 : Nat) : Int)) (keep ++ (splitE p key ann (l.drop i)).1, drop ++ (splitE p key ann (l.drop i)).2) := by
      intro hf
      have := ih (i + 1) keep (drop ++ [l[i]]) (by omega) (by omega) (by simp; omega)
      rw [List.append_assoc] at this
      rw [List.drop_eq_getElem_cons (by omega)]
      unfold splitE at this ⊢
      rw [List.filter_cons_of_neg (by simp [hf]), List.filter_cons_of_pos (by simp [hf])]
      exact this
    have hw : wrap64 ((i : Int) + 1) = ((i + 1 : Nat) : Int) := by rw [w64 (by omega) (by omega)]; rfl
    refine Ev.step (f := fun k => (spec_IsNeeded.f k l[i].f0 l[i].f1 l[i].f2 l[i].f3 ann).bind fun t => if p = 1 then (spec_IsPast.f k l[i].f0 l[i].f1 l[i].f2 l[i].f3 ann).bind fun u => if u = true then spec_SplitEntries.l0 k p key l ann keep (drop ++ [l[i]]) ((i + 1 : Nat) : Int) else spec_SplitEntries.l0 k p key l ann (keep ++ [l[i]]) drop ((i + 1 : Nat) : Int) else if p = 2 then if t = true then spec_SplitEntries.l0 k p key l ann (keep ++ [l[i]]) drop ((i + 1 : Nat) : Int) else if key < 0 then spec_SplitEntries.l0 k p key l ann keep (drop ++ [l[i]]) ((i + 1 : Nat) : Int) else if l[i].f1 = key then spec_SplitEntries.l0 k p key l ann keep (drop ++ [l[i]]) ((i + 1 : Nat) : Int) else spec_SplitEntries.l0 k p key l ann (keep ++ [l[i]]) drop ((i + 1 : Nat) : Int) else if t = true then spec_SplitEntries.l0 k p key l ann (keep ++ [l[i]]) drop ((i + 1 : Nat) : Int) else spec_SplitEntries.l0 k p key l ann keep (drop ++ [l[i]]) ((i + 1 : Nat) : Int)) (fun k => ?_) ?_
    · simp only [spec_SplitEntries.l0, hr, hw, if_pos (show (i : Int) < (l.length : Int) by omega), if_pos (show 0 ≤ (i : Int) by omega), if_pos (show keep.length < 4398046511104 by omega), if_pos (show drop.length < 4398046511104 by omega)]
    · refine Ev.bind (s_IsNeeded _ _ _ _ ann ha) ?_
      by_cases p1 : p = 1
      · simp only [if_pos p1]
        refine Ev.bind (s_IsPast _ _ _ _ ann ha) ?_
        by_cases h : isP l[i].f3 ann = true
        · simp only [if_pos h]
          exact goD (by unfold fineE; rw [if_pos p1]; exact h)
        · simp only [if_neg h]
          exact goK (by unfold fineE; rw [if_pos p1]; exact Bool.eq_false_iff.2 h)
      · simp only [if_neg p1]
        by_cases p2 : p = 2
        · simp only [if_pos p2]
          by_cases h : isN l[i].f2 l[i].f3 ann = true
          · simp only [if_pos h]
            exact goK (by unfold fineE; rw [if_neg p1, if_pos p2, h]; rfl)
          · simp only [if_neg h]
            by_cases h1 : key < 0
            · simp only [if_pos h1]
              exact goD (by unfold fineE; rw [if_neg p1, if_pos p2]; simp [h, h1])
            · simp only [if_neg h1]
              by_cases h2 : l[i].f1 = key
              · simp only [if_pos h2]
                exact goD (by unfold fineE; rw [if_neg p1, if_pos p2]; simp [h, h2])
              · simp only [if_neg h2]
                exact goK (by unfold fineE; rw [if_neg p1, if_pos p2]; simp [h1, h2])
        · simp only [if_neg p2]
          by_cases h : isN l[i].f2 l[i].f3 ann = true
          · simp only [if_pos h]
            exact goK (by unfold fineE; rw [if_neg p1, if_neg p2, h]; rfl)
          · simp only [if_neg h]
            exact goD (by unfold fineE; rw [if_neg p1, if_neg p2, Bool.eq_false_iff.2 h]; rfl)
theorem i_SplitEntries_l (p key : Int) (ann : List Int) (ha : ann.length ≤ 1048576) (l : List S39) (hl : l.length ≤ 1048576) (d : Nat) : ∀ (i : Nat) (keep drop : List S39), i + d = l.length → keep.length ≤ i → drop.length ≤ i →
    Ev (fun k => impl_SplitEntries.l0 k p key ann keep drop l (l.length : Int) i) (keep ++ (splitE p key ann (l.drop i)).1, drop ++ (splitE p key ann (l.drop i)).2) := by
  induction d with
  | zero =>
    intro i keep drop hi hk hd
    rw [List.drop_eq_nil_of_le (by omega)]
    refine Ev.step (f := fun _ => some _) (fun k => ?_) (Ev.now _)
    simp only [impl_SplitEntries.l0]
    rw [if_neg (by omega)]
    simp [splitE]
  | succ d ih =>
    intro i keep drop hi hk hd
    have hr := rdT_eq l i (by omega)
    have goK : fineE p key ann l[i] = false → Ev (fun k => impl_SplitEntries.l0 k p key ann (keep ++ [l[i]]) drop l (l.length : Int) ((i + 1 : Nat) : Int)) (keep ++ (splitE p key ann (l.drop i)).1, drop ++ (splitE p key ann (l.drop i)).2) := by
      intro hf
      have := ih (i + 1) (keep ++ [l[i]]) drop (by omega) (by simp; omega) (by omega)
      rw [List.append_assoc] at this
      rw [List.drop_eq_getElem_cons (by omega)]
      unfold splitE at this ⊢
      rw [List.filter_cons_of_pos (by simp [hf]), List.filter_cons_of_neg (by simp [hf])]
      exact this
    have goD : fineE p key ann l[i] = true → Ev (fun k => impl_SplitEntries.l0 k p key ann keep (drop ++ [l[i]]) l (l.length : Int) ((i + 1 : Nat) : Int)) (keep ++ (splitE p key ann (l.drop i)).1, drop ++ (splitE p key ann (l.drop i)).2) := by
      intro hf
      have := ih (i + 1) keep (drop ++ [l[i]]) (by omega) (by omega) (by simp; omega)
      rw [List.append_assoc] at this
      rw [List.drop_eq_getElem_cons (by omega)]
      unfold splitE at this ⊢
      rw [List.filter_cons_of_neg (by simp [hf]), List.filter_cons_of_pos (by simp [hf])]
      exact this
    have hw : wrap64 ((i : Int) + 1) = ((i + 1 : Nat) : Int) := by rw [w64 (by omega) (by omega)]; rfl
    have hs : ∀ k, impl_SplitEntries.l0 (k + 1) p key ann keep drop l (l.length : Int) (i : Int) = if fineE p key ann l[i] = true then impl_SplitEntries.l0 k p key ann keep (drop ++ [l[i]]) l (l.length : Int) ((i + 1 : Nat) : Int) else impl_SplitEntries.l0 k p key ann (keep ++ [l[i]]) drop l (l.length : Int) ((i + 1 : Nat) : Int) := by
      intro k
      simp only [impl_SplitEntries.l0, hr, hw, i_IsNeeded, i_IsPast, Option.bind_some, if_pos (show (i : Int) < (l.length : Int) by omega), if_pos (show 0 ≤ (i : Int) by omega), if_pos (show keep.length < 4398046511104 by omega), if_pos (show drop.length < 4398046511104 by omega)]
      unfold fineE
      by_cases p1 : p = 1
      · rw [if_pos p1, if_pos p1]
      · rw [if_neg p1, if_neg p1]
        by_cases p2 : p = 2
        · rw [if_pos p2, if_pos p2]
          cases isN l[i].f2 l[i].f3 ann with
          | true => simp
          | false =>
            by_cases h1 : key < 0
            · simp [h1]
            · by_cases h2 : key = l[i].f1
              · have h3 : decide (l[i].f1 = key) = true := decide_eq_true h2.symm
                simp only [Bool.not_false, Bool.true_and, decide_eq_false h1, Bool.false_or, h3, if_true, if_neg h1, if_pos h2, Bool.false_eq_true, if_false]
              · have h3 : decide (l[i].f1 = key) = false := decide_eq_false (fun x => h2 x.symm)
                simp only [Bool.not_false, Bool.true_and, decide_eq_false h1, Bool.false_or, h3, if_neg h1, if_neg h2, Bool.false_eq_true, if_false]
        · rw [if_neg p2, if_neg p2]
          cases isN l[i].f2 l[i].f3 ann <;> simp
    by_cases hf : fineE p key ann l[i] = true
    · exact Ev.step (fun k => by rw [hs, if_pos hf]) (goD hf)
    · exact Ev.step (fun k => by rw [hs, if_neg hf]) (goK (Bool.eq_false_iff.2 hf))
theorem s_SplitEntries (p key : Int) (l : List S39) (ann : List Int) (hl : l.length ≤ 1048576) (ha : ann.length ≤ 1048576) : Ev (fun k => spec_SplitEntries.f k p key l ann) (splitE p key ann l) := s_SplitEntries_l p key ann ha l hl l.length 0 [] [] (by omega) (by simp) (by simp)
theorem i_SplitEntries (p key : Int) (l : List S39) (ann : List Int) (hl : l.length ≤ 1048576) (ha : ann.length ≤ 1048576) : Ev (fun k => impl_SplitEntries.f k p key l ann) (splitE p key ann l) := i_SplitEntries_l p key ann ha l hl l.length 0 [] [] (by omega) (by simp) (by simp)
theorem splitE_len (p key : Int) (ann : List Int) (l : List S39) : (splitE p key ann l).1.length + (splitE p key ann l).2.length = l.length := by
  induction l with
  | nil => rfl
  | cons e l ih =>
    unfold splitE at ih ⊢
    cases h : fineE p key ann e with
    | true =>
      rw [List.filter_cons_of_neg (by simp [h]), List.filter_cons_of_pos (by simp [h])]
      simp only [List.length_cons]
      simp only at ih
      omega
    | false =>
      rw [List.filter_cons_of_pos (by simp [h]), List.filter_cons_of_neg (by simp [h])]
      simp only [List.length_cons]
      simp only at ih
      omega
theorem and_255 (y : Int) : 0 ≤ Go.bits .and .i64 y 255 ∧ Go.bits .and .i64 y 255 ≤ 255 := by
  have e : Go.bits .and .i64 y 255 = IntKind.i64.wrap (((BitVec.ofInt 64 y).toNat &&& 255 : Nat) : Int) := by
    show IntKind.i64.wrap _ = _
    congr 1
  have h : (BitVec.ofInt 64 y).toNat &&& 255 ≤ 255 := Nat.and_le_right
  rw [e, IntKind.wrap_i64]
  omega
theorem l1New_l (l : List Int) (hl : l.length ≤ maxLen) (d : Nat) : ∀ (i : Nat) (h : Int), i + d = 4000 → ∃ h', Ev (fun k => spec_l1New.l0 k l h i) (l, 0, h') := by
  induction d with
  | zero =>
    intro i h hi
    refine ⟨h, Ev.step (f := fun _ => some _) (fun k => ?_) (Ev.now _)⟩
    simp only [spec_l1New.l0]
    rw [if_neg (show ¬ (i : Int) < 4000 by omega)]
    first | done | (split <;> rfl)
  | succ d ih =>
    intro i h hi
    by_cases h1 : (i : Int) < l.length
    · obtain ⟨h', hh⟩ := ih (i + 1) (Go.bits .and .i64 (wrap64 ((wrap64 ((wrap64 (h * 131)) + (wrap64 (rd l i)))) + 7)) 1073741823) (by omega)
      refine ⟨h', Ev.step (fun k => ?_) hh⟩
      simp only [spec_l1New.l0]
      rw [if_pos h1, if_pos (by omega), if_pos (by omega), w64 (x := (i : Int) + 1) (by omega) (by omega)]
      rfl
    · refine ⟨h, Ev.step (f := fun _ => some _) (fun k => ?_) (Ev.now _)⟩
      simp only [spec_l1New.l0]
      rw [if_neg h1]
theorem l1New (l : List Int) (hl : l.length ≤ maxLen) : ∃ h, Ev (fun k => spec_l1New.f k l) (l, 0, h) := l1New_l l hl 4000 0 _ rfl
theorem l1Byte (b : List Int) (i h : Int) (hb : b.length ≤ maxLen) (hi : 0 ≤ i) : ∃ x i' h', spec_l1Byte.f b i h = some (x, i', h') ∧ 0 ≤ x ∧ x ≤ 255 ∧ 0 ≤ i' := by
  unfold maxLen at hb
  unfold spec_l1Byte.f
  by_cases h1 : i < b.length
  · rw [if_pos h1, if_pos hi]
    refine ⟨_, _, _, rfl, (and_255 _).1, (and_255 _).2, ?_⟩
    rw [w64 (by omega) (by omega)]
    omega
  · rw [if_neg h1]
    exact ⟨_, _, _, rfl, (and_255 _).1, (and_255 _).2, hi⟩
theorem l1Below (b : List Int) (i h n : Int) (hb : b.length ≤ maxLen) (hi : 0 ≤ i) (hn : n ≤ 4294967296) : ∃ x i' h', spec_l1Below.f b i h n = some (x, i', h') ∧ 0 ≤ x ∧ (0 < n → x < n) ∧ (n ≤ 0 → x = 0) ∧ x ≤ 4294967296 ∧ 0 ≤ i' := by
  unfold spec_l1Below.f
  by_cases h1 : n ≤ 0
  · rw [if_pos h1]
    exact ⟨_, _, _, rfl, by omega, by omega, fun _ => rfl, by omega, hi⟩
  · rw [if_neg h1]
    by_cases h2 : n ≤ 256
    · rw [if_pos h2]
      obtain ⟨x, i', h', e, x0, x1, hi'⟩ := l1Byte b i h hb hi
      rw [e]
      simp only [Option.bind_some]
      rw [if_neg (by omega), tmod_pos x0]
      exact ⟨_, _, _, rfl, Int.emod_nonneg _ (by omega), fun _ => Int.emod_lt_of_pos _ (by omega), by omega, by have := Int.emod_lt_of_pos x (show 0 < n by omega); omega, hi'⟩
    · rw [if_neg h2]
      obtain ⟨x, i1, h1', e1, x0, x1, hi1⟩ := l1Byte b i h hb hi
      obtain ⟨y, i2, h2', e2, y0, y1, hi2⟩ := l1Byte b i1 h1' hb hi1
      obtain ⟨z, i3, h3', e3, z0, z1, hi3⟩ := l1Byte b i2 h2' hb hi2
      obtain ⟨u, i4, h4', e4, u0, u1, hi4⟩ := l1Byte b i3 h3' hb hi3
      rw [e1]
      simp only [Option.bind_some]
      rw [e2]
      simp only [Option.bind_some]
      rw [e3]
      simp only [Option.bind_some]
      rw [e4]
      simp only [Option.bind_some]
      rw [if_neg (by omega), w64 (x := x * 16777216) (by omega) (by omega), w64 (x := y * 65536) (by omega) (by omega), w64 (x := z * 256) (by omega) (by omega), w64 (x := x * 16777216 + y * 65536) (by omega) (by omega), w64 (x := x * 16777216 + y * 65536 + z * 256) (by omega) (by omega), w64 (x := x * 16777216 + y * 65536 + z * 256 + u) (by omega) (by omega), tmod_pos (by omega)]
      exact ⟨_, _, _, rfl, Int.emod_nonneg _ (by omega), fun _ => Int.emod_lt_of_pos _ (by omega), by omega, by have := Int.emod_lt_of_pos (x * 16777216 + y * 65536 + z * 256 + u) (show 0 < n by omega); omega, hi4⟩
theorem l1PickInt (b : List Int) (i h : Int) (l : List Int) (hb : b.length ≤ maxLen) (hi : 0 ≤ i) (h0 : 0 < l.length) (h1 : l.length ≤ 256) : ∃ x i' h', spec_l1PickInt.f b i h l = some (x, i', h') ∧ x ∈ l ∧ 0 ≤ i' := by
  obtain ⟨x, i', h', e, x0, x1, _, _, hi'⟩ := l1Below b i h (l.length : Int) hb hi (by omega)
  have hx := x1 (by omega)
  unfold spec_l1PickInt.f
  rw [e]
  simp only [Option.bind_some]
  rw [if_pos x0, if_pos hx]
  refine ⟨_, _, _, rfl, ?_, hi'⟩
  unfold rd
  rw [List.getD_eq_getElem?_getD, List.getElem?_eq_getElem (show x.toNat < l.length by omega)]
  exact List.getElem_mem _
theorem l1In_ (x a b : Int) : spec_l1In.f x a b = some (decide (a ≤ x ∧ x ≤ b)) := by
  unfold spec_l1In.f
  by_cases h : a ≤ x <;> simp [h]
def mkH (a b : Int) : Int := if 0 ≤ a ∧ a ≤ 62 ∧ 0 ≤ b ∧ b ≤ 9999 then (b * 64 + a + 1) * 2 else 0
theorem s_MakeHandle (a b : Int) : spec_MakeHandle.f a b = some (mkH a b) := by
  unfold spec_MakeHandle.f mkH
  simp only [l1In_, Option.bind_some, decide_eq_true_eq]
  by_cases h1 : 0 ≤ a ∧ a ≤ 62
  · by_cases h2 : 0 ≤ b ∧ b ≤ 9999
    · rw [if_pos h1, if_pos h2, if_pos ⟨h1.1, h1.2, h2.1, h2.2⟩]
      congr 1
      unfold wrap64
      omega
    · rw [if_pos h1, if_neg h2, if_neg (by omega)]
  · rw [if_neg h1, if_neg (by omega)]
theorem l2Handle (b : List Int) (i h : Int) (hb : b.length ≤ maxLen) (hi : 0 ≤ i) : ∃ x i' h', spec_l2Handle.f b i h = some (x, i', h') ∧ -2 ≤ x ∧ x ≤ 9223372036854775807 ∧ 0 ≤ i' := by
  unfold spec_l2Handle.f
  obtain ⟨x, i1, h1, e1, x0, _, _, _, hi1⟩ := l1Below b i h 8 hb hi (by omega)
  rw [e1]
  simp only [Option.bind_some]
  by_cases c0 : x = 0
  · rw [if_pos c0]
    exact ⟨_, _, _, rfl, by omega, by omega, hi1⟩
  · rw [if_neg c0]
    by_cases c1 : x = 1
    · rw [if_pos c1]
      obtain ⟨y, i2, h2, e2, hy, hi2⟩ := l1PickInt b i1 h1 [(-2), (-1), 1, 128, 129, 1280000, 1280126, 1280127, 9223372036854775807] hb hi1 (by simp) (by simp)
      rw [e2]
      simp only [Option.bind_some]
      refine ⟨_, _, _, rfl, ?_, ?_, hi2⟩
      · simp at hy; omega
      · simp at hy; omega
    · rw [if_neg c1]
      obtain ⟨y, i2, h2, e2, y0, y1, _, _, hi2⟩ := l1Below b i1 h1 9 hb hi1 (by omega)
      rw [e2]
      simp only [Option.bind_some]
      obtain ⟨z, i3, h3, e3, z0, z1, _, _, hi3⟩ := l1Below b i2 h2 4 hb hi2 (by omega)
      rw [e3]
      simp only [Option.bind_some, s_MakeHandle]
      obtain ⟨u, i4, h4, e4, u0, u1, _, _, hi4⟩ := l1Below b i3 h3 2 hb hi3 (by omega)
      rw [e4]
      simp only [Option.bind_some]
      have hm : 0 ≤ mkH y z ∧ mkH y z ≤ 2000000 := by
        unfold mkH
        by_cases h : 0 ≤ y ∧ y ≤ 62 ∧ 0 ≤ z ∧ z ≤ 9999
        · rw [if_pos h]; omega
        · rw [if_neg h]; omega
      have hu := u1 (by omega)
      exact ⟨_, _, _, rfl, by rw [w64 (by omega) (by omega)]; omega, by rw [w64 (by omega) (by omega)]; omega, hi4⟩
theorem l6Entry (b : List Int) (i h : Int) (hb : b.length ≤ maxLen) (hi : 0 ≤ i) : ∃ x k lo hg i' h', spec_l6Entry.f b i h = some (x, k, lo, hg, i', h') ∧ (0 ≤ x ∧ x ≤ 2000000) ∧ 0 ≤ i' := by
  unfold spec_l6Entry.f
  obtain ⟨a, i1, h1, e1, a0, _, _, _, hi1⟩ := l1Below b i h 5 hb hi (by omega)
  rw [e1]
  simp only [Option.bind_some]
  obtain ⟨c, i2, h2, e2, c0, _, _, _, hi2⟩ := l1Below b i1 h1 6 hb hi1 (by omega)
  rw [e2]
  simp only [Option.bind_some]
  obtain ⟨d, i3, h3, e3, d0, _, _, _, hi3⟩ := l1Below b i2 h2 3 hb hi2 (by omega)
  rw [e3]
  simp only [Option.bind_some, s_MakeHandle]
  obtain ⟨f, i4, h4, e4, f0, _, _, _, hi4⟩ := l1Below b i3 h3 3 hb hi3 (by omega)
  rw [e4]
  simp only [Option.bind_some]
  obtain ⟨g, i5, h5, e5, g0, _, _, _, hi5⟩ := l1Below b i4 h4 4 hb hi4 (by omega)
  rw [e5]
  simp only [Option.bind_some]
  refine ⟨_, _, _, _, _, _, rfl, ?_, hi5⟩
  unfold mkH
  by_cases q : 0 ≤ c ∧ c ≤ 62 ∧ 0 ≤ d ∧ d ≤ 9999
  · rw [if_pos q]; omega
  · rw [if_neg q]; omega
theorem l6Any (b : List Int) (i h : Int) (hb : b.length ≤ maxLen) (hi : 0 ≤ i) : ∃ x k lo hg i' h', spec_l6Any.f b i h = some (x, k, lo, hg, i', h') ∧ (-2 ≤ x ∧ x ≤ 9223372036854775807) ∧ 0 ≤ i' := by
  unfold spec_l6Any.f
  obtain ⟨x, k, lo, hg, i1, h1, e1, hx, hi1⟩ := l6Entry b i h hb hi
  rw [e1]
  simp only [Option.bind_some]
  obtain ⟨c, i2, h2, e2, _, _, _, _, hi2⟩ := l1Below b i1 h1 12 hb hi1 (by omega)
  rw [e2]
  simp only [Option.bind_some]
  by_cases c0 : c = 0
  · rw [if_pos c0]
    obtain ⟨y, i3, h3, e3, y0, y1, hi3⟩ := l2Handle b i2 h2 hb hi2
    rw [e3]
    simp only [Option.bind_some]
    exact ⟨_, _, _, _, _, _, rfl, ⟨y0, y1⟩, hi3⟩
  · rw [if_neg c0]
    by_cases c1 : c = 1
    · rw [if_pos c1]
      obtain ⟨y, i3, h3, e3, _, hi3⟩ := l1PickInt b i2 h2 [0, 1, 99, 100] hb hi2 (by simp) (by simp)
      rw [e3]
      simp only [Option.bind_some]
      exact ⟨_, _, _, _, _, _, rfl, by omega, hi3⟩
    · rw [if_neg c1]
      by_cases c2 : c = 2
      · rw [if_pos c2]
        obtain ⟨y, i3, h3, e3, _, hi3⟩ := l1PickInt b i2 h2 [0, 99, 100] hb hi2 (by simp) (by simp)
        rw [e3]
        simp only [Option.bind_some]
        exact ⟨_, _, _, _, _, _, rfl, by omega, hi3⟩
      · rw [if_neg c2]
        by_cases c3 : c = 3
        · rw [if_pos c3]
          obtain ⟨y, i3, h3, e3, _, hi3⟩ := l1PickInt b i2 h2 [(-1), 9, 10] hb hi2 (by simp) (by simp)
          rw [e3]
          simp only [Option.bind_some]
          exact ⟨_, _, _, _, _, _, rfl, by omega, hi3⟩
        · rw [if_neg c3]
          exact ⟨_, _, _, _, _, _, rfl, by omega, hi2⟩
theorem l6Entries_l (b : List Int) (hb : b.length ≤ maxLen) (n : Nat) : ∀ (out : List S39) (i h : Int), 0 ≤ i → out.length + n ≤ 100 → ∃ s i' h', Ev (fun k => spec_l6Entries.l0 k out (n : Int) b i h) (s, i', h') ∧ s.length = out.length + n ∧ 0 ≤ i' := by
  induction n with
  | zero =>
    intro out i h hi ho
    refine ⟨out, i, h, Ev.step (f := fun _ => some _) (fun k => ?_) (Ev.now _), by omega, hi⟩
    simp only [spec_l6Entries.l0]
    rw [if_neg (by omega)]
  | succ n ih =>
    intro out i h hi ho
    obtain ⟨x, k, lo, hg, i1, h1, e1, _, hi1⟩ := l6Any b i h hb hi
    obtain ⟨s, i', h', e, hs, hi'⟩ := ih (out ++ [⟨x, k, lo, hg⟩]) i1 h1 hi1 (by simp; omega)
    refine ⟨s, i', h', Ev.step (fun q => ?_) e, by rw [hs]; simp; omega, hi'⟩
    simp only [spec_l6Entries.l0]
    rw [if_pos (by omega), e1]
    simp only [Option.bind_some]
    rw [if_pos (by omega), show wrap64 (((n + 1 : Nat) : Int) - 1) = (n : Int) by unfold wrap64; omega]
theorem l6Entries (b : List Int) (i h : Int) (hb : b.length ≤ maxLen) (hi : 0 ≤ i) : ∃ s i' h', Ev (fun k => spec_l6Entries.f k b i h) (s, i', h') ∧ s.length ≤ 5 ∧ 0 ≤ i' := by
  unfold spec_l6Entries.f
  obtain ⟨x, i1, h1, e1, x0, x1, _, _, hi1⟩ := l1Below b i h 5 hb hi (by omega)
  have x2 := x1 (by omega)
  obtain ⟨s, i', h', e, hs, hi'⟩ := l6Entries_l b hb x.toNat [] i1 h1 hi1 (by simp; omega)
  rw [show ((x.toNat : Nat) : Int) = x by omega] at e
  refine ⟨s, i', h', ?_, by rw [hs]; simp; omega, hi'⟩
  simp only [e1, Option.bind_some]
  exact e
theorem l6Stamps_l (b : List Int) (hb : b.length ≤ maxLen) (n : Nat) : ∀ (out : List Int) (i h : Int), 0 ≤ i → out.length + n ≤ 100 → ∃ s i' h', Ev (fun k => spec_l6Stamps.l0 k out (n : Int) b i h) (s, i', h') ∧ s.length = out.length + n ∧ 0 ≤ i' := by
  induction n with
  | zero =>
    intro out i h hi ho
    refine ⟨out, i, h, Ev.step (f := fun _ => some _) (fun k => ?_) (Ev.now _), by omega, hi⟩
    simp only [spec_l6Stamps.l0]
    rw [if_neg (by omega)]
  | succ n ih =>
    intro out i h hi ho
    obtain ⟨x, i1, h1, e1, _, _, _, _, hi1⟩ := l1Below b i h 8 hb hi (by omega)
    obtain ⟨s, i', h', e, hs, hi'⟩ := ih (out ++ [wrap64 (1 + x)]) i1 h1 hi1 (by simp; omega)
    refine ⟨s, i', h', Ev.step (fun q => ?_) e, by rw [hs]; simp; omega, hi'⟩
    simp only [spec_l6Stamps.l0]
    rw [if_pos (by omega), e1]
    simp only [Option.bind_some]
    rw [if_pos (by omega), show wrap64 (((n + 1 : Nat) : Int) - 1) = (n : Int) by unfold wrap64; omega]
theorem l6Stamps (b : List Int) (i h : Int) (hb : b.length ≤ maxLen) (hi : 0 ≤ i) : ∃ s i' h', Ev (fun k => spec_l6Stamps.f k b i h) (s, i', h') ∧ s.length ≤ 5 ∧ 0 ≤ i' := by
  unfold spec_l6Stamps.f
  obtain ⟨x, i1, h1, e1, x0, x1, _, _, hi1⟩ := l1Below b i h 4 hb hi (by omega)
  have x2 := x1 (by omega)
  obtain ⟨s, i', h', e, hs, hi'⟩ := l6Stamps_l b hb x.toNat [] i1 h1 hi1 (by simp; omega)
  rw [show ((x.toNat : Nat) : Int) = x by omega] at e
  refine ⟨s, i', h', ?_, by rw [hs]; simp; omega, hi'⟩
  simp only [e1, Option.bind_some]
  exact e
def isH (h : Int) : Prop := 2 ≤ h ∧ h / 2 % 64 ≠ 0 ∧ h / 2 / 64 ≤ 9999
instance (h : Int) : Decidable (isH h) := by unfold isH; infer_instance
theorem s_IsHandle (h : Int) (h1 : h ≤ 9223372036854775807) : spec_IsHandle.f h = some (decide (isH h)) := by
  unfold spec_IsHandle.f isH
  by_cases h2 : h > 1
  · rw [if_pos h2, tdiv_pos (by omega), w64 (by omega) (by omega), tmod_pos (by omega), tdiv_pos (by omega), w64 (by omega) (by omega)]
    by_cases h3 : h / 2 % 64 > 0
    · rw [if_pos h3]
      congr 1
      exact decide_eq_decide.2 (by omega)
    · rw [if_neg h3]
      exact congrArg some (decide_eq_false (by omega)).symm
  · rw [if_neg h2]
    exact congrArg some (decide_eq_false (by omega)).symm
theorem i_parts (h : Int) (h1 : h ≤ 9223372036854775807) : impl_parts.f h = some (if isH h then (h / 2 % 64 - 1, h / 2 / 64, true) else (-1, -1, false)) := by
  unfold impl_parts.f
  by_cases h2 : h < 2
  · rw [if_pos h2, if_neg (by unfold isH; omega)]
  · rw [if_neg h2, tdiv_pos (by omega), w64 (x := h / 2) (by omega) (by omega), w64 (x := h / 2 - 1) (by omega) (by omega), tmod_pos (by omega), tdiv_pos (by omega), w64 (by omega) (by omega)]
    by_cases h3 : isH h
    · rw [if_pos h3]
      unfold isH at h3
      rw [if_neg (by omega), if_neg (by omega)]
      have e1 : (h / 2 - 1) % 64 = h / 2 % 64 - 1 := by omega
      have e2 : (h / 2 - 1) / 64 = h / 2 / 64 := by omega
      rw [e1, e2]
    · rw [if_neg h3]
      unfold isH at h3
      repeat' split
      all_goals first | rfl | omega
theorem i_IsHandle (h : Int) (h1 : h ≤ 9223372036854775807) : impl_IsHandle.f h = some (decide (isH h)) := by
  unfold impl_IsHandle.f
  rw [i_parts h h1]
  by_cases h2 : isH h <;> simp [h2]
def isM (h : Int) : Prop := h = 1 ∨ isH h ∧ h % 2 = 1
instance (h : Int) : Decidable (isM h) := by unfold isM; infer_instance
theorem s_IsMarked (h : Int) (h1 : h ≤ 9223372036854775807) : spec_IsMarked.f h = some (decide (isM h)) := by
  unfold spec_IsMarked.f isM
  by_cases h2 : h = 1
  · simp [h2]
  · rw [if_neg h2, s_IsHandle h h1]
    simp only [Option.bind_some, decide_eq_true_eq]
    by_cases h3 : isH h
    · rw [if_pos h3, tmod_pos (by unfold isH at h3; omega)]
      by_cases h4 : h % 2 = 1 <;> simp [h2, h3, h4]
    · rw [if_neg h3]
      simp [h2, h3]
theorem i_IsMarked (h : Int) (h1 : h ≤ 9223372036854775807) : impl_IsMarked.f h = some (decide (isM h)) := by
  unfold impl_IsMarked.f isM
  by_cases h2 : h = 1
  · simp [h2]
  · rw [if_neg h2, i_IsHandle h h1]
    simp only [Option.bind_some, decide_eq_true_eq]
    by_cases h3 : isH h
    · rw [if_pos h3, tmod_pos (by unfold isH at h3; omega)]
      by_cases h4 : h % 2 = 1 <;> simp [h2, h3, h4]
    · rw [if_neg h3]
      simp [h2, h3]
theorem in_ (x a b : Int) : impl_in.f x a b = some (decide (a ≤ x ∧ x ≤ b)) := by
  unfold impl_in.f
  by_cases h : a ≤ x <;> simp [h]
def isE (h k lo hi : Int) : Prop := isH h ∧ ¬ isM h ∧ (0 ≤ k ∧ k ≤ 9) ∧ 1 ≤ lo ∧ lo ≤ hi ∧ hi ≤ 99
instance (h k lo hi : Int) : Decidable (isE h k lo hi) := by unfold isE; infer_instance
theorem s_IsEntry (h k lo hi : Int) (h1 : h ≤ 9223372036854775807) : spec_IsEntry.f h k lo hi = some (decide (isE h k lo hi)) := by
  unfold spec_IsEntry.f isE
  simp only [s_IsHandle h h1, s_IsMarked h h1, l1In_, Option.bind_some, decide_eq_true_eq]
  by_cases c1 : isH h <;> by_cases c2 : isM h <;> by_cases c3 : 0 ≤ k ∧ k ≤ 9 <;> by_cases c4 : 1 ≤ lo <;> by_cases c5 : lo ≤ hi <;> simp [c1, c2, c3, c4, c5]
theorem i_IsEntry (h k lo hi : Int) (h1 : h ≤ 9223372036854775807) : impl_IsEntry.f h k lo hi = some (decide (isE h k lo hi)) := by
  unfold impl_IsEntry.f isE
  simp only [i_IsHandle h h1, i_IsMarked h h1, in_, Option.bind_some, decide_eq_true_eq]
  by_cases c1 : isH h <;> by_cases c2 : isM h <;> by_cases c3 : 0 ≤ k ∧ k ≤ 9 <;> by_cases c4 : 1 ≤ lo <;> by_cases c5 : lo ≤ hi <;> simp [c1, c2, c3, c4, c5]
def bs (l : List UInt8) : ByteArray := ⟨l.toArray⟩
theorem bs_append (a b : List UInt8) : bs (a ++ b) = bs a ++ bs b := by
  apply ByteArray.ext
  rw [ByteArray.data_append]
  simp [bs]
theorem bs_nil : bs [] = ByteArray.empty := rfl
theorem bs_data (s : ByteArray) : bs s.data.toList = s := by
  apply ByteArray.ext
  simp [bs]
theorem bs_toList (l : List UInt8) : (bs l).data.toList = l := by simp [bs]
theorem bs_size (l : List UInt8) : (bs l).size = l.length := by
  show l.toArray.size = l.length
  simp
theorem bs_inj {a b : List UInt8} (h : bs a = bs b) : a = b := by rw [← bs_toList a, ← bs_toList b, h]
def dec (n : Int) : ByteArray := bs (Lib.itoa n)
def dg (m : Nat) : List UInt8 := if m = 0 then [] else Lib.decDigits m
theorem decD_step (m : Nat) : Lib.decDigits m = dg (m / 10) ++ [UInt8.ofNat (48 + m % 10)] := by
  rw [Lib.decDigits]
  unfold dg
  by_cases h : m < 10
  · rw [dif_pos h, if_pos (by omega), show m % 10 = m by omega]
    rfl
  · rw [dif_neg h, if_neg (by omega)]
theorem dg_step (m : Nat) (h : 0 < m) : dg m = dg (m / 10) ++ [UInt8.ofNat (48 + m % 10)] := by
  rw [← decD_step]
  unfold dg
  rw [if_neg (by omega)]
theorem dg_len (f : Nat) : ∀ m : Nat, m < 10 ^ f → (dg m).length ≤ f := by
  induction f with
  | zero =>
    intro m h
    have : m = 0 := by omega
    subst this
    simp [dg]
  | succ f ih =>
    intro m h
    rcases Nat.eq_zero_or_pos m with h0 | h0
    · subst h0
      simp [dg]
    · rw [dg_step m h0, List.length_append]
      have := ih (m / 10) (by rw [Nat.pow_succ] at h; omega)
      simp
      omega
theorem decD_digit (m : Nat) : ∀ c ∈ Lib.decDigits m, 48 ≤ c.toNat ∧ c.toNat ≤ 57 := by
  induction m using Nat.strongRecOn with
  | ind m ih =>
    intro c hc
    rw [decD_step] at hc
    rcases List.mem_append.1 hc with h | h
    · unfold dg at h
      by_cases h0 : m / 10 = 0
      · rw [if_pos h0] at h
        cases h
      · rw [if_neg h0] at h
        exact ih (m / 10) (by omega) c h
    · rw [List.mem_singleton] at h
      subst h
      simp only [UInt8.toNat_ofNat']
      omega
theorem decD_ne (m : Nat) : Lib.decDigits m ≠ [] := by rw [decD_step]; simp
theorem dec_neg (n : Int) (h : n < 0) : dec n = bs (45 :: Lib.decDigits n.natAbs) := by unfold dec Lib.itoa; rw [if_pos h]
theorem dec_pos (n : Int) (h : ¬ n < 0) : dec n = bs (Lib.decDigits n.toNat) := by unfold dec Lib.itoa; rw [if_neg h]
theorem dec_small (n : Int) (h : -9223372036854775808 ≤ n) (h2 : n ≤ 9223372036854775807) : (dec n).size ≤ 30 := by
  have hl : ∀ m : Nat, m ≤ 9223372036854775808 → (Lib.decDigits m).length ≤ 21 := by
    intro m hm
    rw [decD_step, List.length_append]
    have := dg_len 20 (m / 10) (by omega)
    simp
    omega
  by_cases h0 : n < 0
  · rw [dec_neg n h0, bs_size, List.length_cons]
    have := hl n.natAbs (by omega)
    omega
  · rw [dec_pos n h0, bs_size]
    have := hl n.toNat (by omega)
    omega
theorem tmod_n (m : Nat) : Int.tmod (-(m : Int)) 10 = -((m % 10 : Nat) : Int) := by
  rw [Int.neg_tmod, tmod_pos (by omega)]
  omega
theorem tdiv_n (m : Nat) : Int.tdiv (-(m : Int)) 10 = -((m / 10 : Nat) : Int) := by
  rw [Int.neg_tdiv, tdiv_pos (by omega)]
  omega
theorem s_FormatInt_z (neg : Bool) (out : ByteArray) (ho : out.size ≤ 200) : Ev (fun k => spec_FormatInt.l0 k 0 out neg) ((if neg = true then bs [45] else bs []) ++ (bs (dg 0) ++ out)) := by
  have e : bs (dg 0) ++ out = out := by
    show bs [] ++ out = out
    rw [bs_nil, ByteArray.empty_append]
  rw [e]
  refine Ev.step (f := fun _ => some _) (fun k => ?_) (Ev.now _)
  simp only [spec_FormatInt.l0, if_true]
  cases neg with
  | true =>
    rw [if_pos rfl, if_pos rfl, if_pos (by omega)]
    rfl
  | false =>
    rw [if_neg (by decide), if_neg (by decide), bs_nil, ByteArray.empty_append]
theorem s_FormatInt_l (neg : Bool) (f : Nat) : ∀ (m : Nat) (x : Int) (out : ByteArray), (x = (m : Int) ∨ x = -(m : Int)) → m < 10 ^ f → m ≤ 9223372036854775808 → out.size + f ≤ 100 →
    Ev (fun k => spec_FormatInt.l0 k x out neg) ((if neg = true then bs [45] else bs []) ++ (bs (dg m) ++ out)) := by
  induction f with
  | zero =>
    intro m x out hx hm hm2 ho
    have h0 : m = 0 := by omega
    subst h0
    have hx0 : x = 0 := by omega
    subst hx0
    exact s_FormatInt_z neg out (by omega)
  | succ f ih =>
    intro m x out hx hm hm2 ho
    rcases Nat.eq_zero_or_pos m with h0 | h0
    · subst h0
      have hx0 : x = 0 := by omega
      subst hx0
      exact s_FormatInt_z neg out (by omega)
    · rw [dg_step m h0, bs_append, ByteArray.append_assoc]
      have hsz : (bs [UInt8.ofNat (48 + m % 10)] ++ out).size = 1 + out.size := by rw [ByteArray.size_append, bs_size]; rfl
      have hn : strOfNums [((48 + (m % 10 : Nat) : Nat) : Int)] = bs [UInt8.ofNat (48 + m % 10)] := by
        unfold strOfNums bs
        rfl
      have goal : ∀ x', (x' = ((m / 10 : Nat) : Int) ∨ x' = -((m / 10 : Nat) : Int)) → Ev (fun k => spec_FormatInt.l0 k x' (bs [UInt8.ofNat (48 + m % 10)] ++ out) neg) ((if neg = true then bs [45] else bs []) ++ (bs (dg (m / 10)) ++ (bs [UInt8.ofNat (48 + m % 10)] ++ out))) :=
        fun x' hx' => ih (m / 10) x' _ hx' (by rw [Nat.pow_succ] at hm; omega) (by omega) (by rw [hsz]; omega)
      rcases hx with hx | hx
      · subst hx
        refine Ev.step (fun k => ?_) (goal ((m / 10 : Nat) : Int) (.inl rfl))
        simp only [spec_FormatInt.l0, Option.bind_some]
        rw [if_neg (by omega), tmod_pos (show (0 : Int) ≤ (m : Int) by omega), tdiv_pos (show (0 : Int) ≤ (m : Int) by omega), if_neg (by omega), w64 (x := 48 + (m : Int) % 10) (by omega) (by omega), w64 (x := (m : Int) / 10) (by omega) (by omega),
          show (48 + (m : Int) % 10) % 256 = ((48 + (m % 10 : Nat) : Nat) : Int) by omega, hn, if_pos (by rw [bs_size]; simp; omega)]
        rfl
      · subst hx
        refine Ev.step (fun k => ?_) (goal (-((m / 10 : Nat) : Int)) (.inr rfl))
        simp only [spec_FormatInt.l0, Option.bind_some]
        rw [if_neg (by omega), tmod_n, tdiv_n]
        by_cases hz : m % 10 = 0
        · rw [if_neg (by omega), w64 (x := 48 + -((m % 10 : Nat) : Int)) (by omega) (by omega), w64 (x := -((m / 10 : Nat) : Int)) (by omega) (by omega),
            show (48 + -((m % 10 : Nat) : Int)) % 256 = ((48 + (m % 10 : Nat) : Nat) : Int) by omega, hn, if_pos (by rw [bs_size]; simp; omega)]
        · rw [if_pos (by omega), w64 (x := -(-((m % 10 : Nat) : Int))) (by omega) (by omega), w64 (x := 48 + -(-((m % 10 : Nat) : Int))) (by omega) (by omega), w64 (x := -((m / 10 : Nat) : Int)) (by omega) (by omega),
            show (48 + -(-((m % 10 : Nat) : Int))) % 256 = ((48 + (m % 10 : Nat) : Nat) : Int) by omega, hn, if_pos (by rw [bs_size]; simp; omega)]
theorem s_FormatInt (n : Int) (h : -9223372036854775808 ≤ n) (h2 : n ≤ 9223372036854775807) : Ev (fun k => spec_FormatInt.f k n) (dec n) := by
  unfold spec_FormatInt.f
  by_cases h0 : n = 0
  · simp only [if_pos h0]
    subst h0
    have e : dec 0 = (⟨#[48]⟩ : ByteArray) := by
      rw [dec_pos 0 (by omega), show (0 : Int).toNat = 0 by rfl, decD_step]
      rfl
    rw [e]
    exact Ev.now _
  · simp only [if_neg h0]
    have key := s_FormatInt_l (decide (n < 0)) 20 n.natAbs n ⟨#[]⟩ (by omega) (by omega) (by omega) (by simp [ByteArray.size])
    have e : (if decide (n < 0) = true then bs [45] else bs []) ++ (bs (dg n.natAbs) ++ (⟨#[]⟩ : ByteArray)) = dec n := by
      rw [show (⟨#[]⟩ : ByteArray) = bs [] from rfl, ← bs_append, List.append_nil]
      have hd : dg n.natAbs = Lib.decDigits n.natAbs := by unfold dg; rw [if_neg (by omega)]
      by_cases hn : n < 0
      · rw [if_pos (by simpa using hn), dec_neg n hn, ← bs_append, hd]
        rfl
      · rw [if_neg (by simpa using hn), dec_pos n hn, ← bs_append, hd, show n.natAbs = n.toNat by omega]
        rfl
    rw [e] at key
    exact key
theorem lsz (l : List UInt8) : (ByteArray.mk l.toArray).size = l.length := by simp [ByteArray.size]
theorem lsz0 : (⟨#[]⟩ : ByteArray).size = 0 := rfl
theorem eapp (s : ByteArray) : (⟨#[]⟩ : ByteArray) ++ s = s := ByteArray.empty_append
theorem appe (s : ByteArray) : s ++ (⟨#[]⟩ : ByteArray) = s := ByteArray.append_empty
theorem dec30 {n : Int} (h : -9223372036854775808 ≤ n) (h2 : n ≤ 9223372036854775807) : (dec n).size ≤ 30 := dec_small n h h2
theorem Ev_if {α : Type} {c : Prop} [Decidable c] {f g : Nat → Option α} {r : α} (hc : c) (h : Ev f r) : Ev (fun n => if c then f n else g n) r := by
  simp only [if_pos hc]
  exact h
theorem ifle {α : Type} {n : Nat} {x y : α} (h : n ≤ 9223372036854775807) : (if n ≤ 9223372036854775807 then x else y) = x := if_pos h
def idxOf (h : Int) : Int := if isH h then h / 2 % 64 - 1 else -1
theorem s_IndexOf (h : Int) (h1 : h ≤ 9223372036854775807) : spec_IndexOf.f h = some (idxOf h) := by
  unfold spec_IndexOf.f idxOf
  rw [s_IsHandle h h1]
  simp only [Option.bind_some, decide_eq_true_eq]
  by_cases h3 : isH h
  · have h4 := h3
    unfold isH at h4
    rw [if_pos h3, if_pos h3, tdiv_pos (x := h) (by omega), w64 (x := h / 2) (by omega) (by omega), tmod_pos (x := h / 2) (by omega), w64 (by omega) (by omega)]
  · rw [if_neg h3, if_neg h3]
theorem i_IndexOf (h : Int) (h1 : h ≤ 9223372036854775807) : impl_IndexOf.f h = some (idxOf h) := by
  unfold impl_IndexOf.f idxOf
  rw [i_parts h h1]
  by_cases h2 : isH h <;> simp [h2]
def genOf (h : Int) : Int := if isH h then h / 2 / 64 else -1
theorem s_GenerationOf (h : Int) (h1 : h ≤ 9223372036854775807) : spec_GenerationOf.f h = some (genOf h) := by
  unfold spec_GenerationOf.f genOf
  rw [s_IsHandle h h1]
  simp only [Option.bind_some, decide_eq_true_eq]
  by_cases h3 : isH h
  · have h4 := h3
    unfold isH at h4
    rw [if_pos h3, if_pos h3, tdiv_pos (x := h) (by omega), w64 (x := h / 2) (by omega) (by omega), tdiv_pos (by omega), w64 (by omega) (by omega)]
  · rw [if_neg h3, if_neg h3]
theorem i_GenerationOf (h : Int) (h1 : h ≤ 9223372036854775807) : impl_GenerationOf.f h = some (genOf h) := by
  unfold impl_GenerationOf.f genOf
  rw [i_parts h h1]
  by_cases h2 : isH h <;> simp [h2]
def unm (h : Int) : Int := if isM h then h - 1 else h
theorem s_Unmarked (h : Int) (h1 : h ≤ 9223372036854775807) : spec_Unmarked.f h = some (unm h) := by
  unfold spec_Unmarked.f unm
  rw [s_IsMarked h h1]
  simp only [Option.bind_some, decide_eq_true_eq]
  by_cases h2 : isM h
  · have h3 := h2
    unfold isM isH at h3
    rw [if_pos h2, if_pos h2, w64 (by omega) (by omega)]
  · rw [if_neg h2, if_neg h2]
def fhS (h : Int) : ByteArray := if isM h then bs [42] else bs []
def fh (h : Int) : ByteArray := if unm h = 0 then bs [110, 111, 110, 101] ++ fhS h else if isH h then ((dec (idxOf h) ++ bs [46]) ++ dec (genOf h)) ++ fhS h else bs []
theorem fhS_size (h : Int) : (fhS h).size ≤ 1 := by
  unfold fhS
  by_cases m : isM h
  · rw [if_pos m]; exact Nat.le_refl _
  · rw [if_neg m]; exact Nat.zero_le _
theorem idx_b (h : Int) : -1 ≤ idxOf h ∧ idxOf h ≤ 62 := by
  by_cases d : isH h
  · rw [idxOf, if_pos d]; unfold isH at d; omega
  · rw [idxOf, if_neg d]; omega
theorem gen_b (h : Int) : -1 ≤ genOf h ∧ genOf h ≤ 9999 := by
  by_cases d : isH h
  · rw [genOf, if_pos d]; unfold isH at d; omega
  · rw [genOf, if_neg d]; omega
theorem fh_size (h : Int) : (fh h).size ≤ 100 := by
  have h1 := fhS_size h
  have i1 := idx_b h
  have g1 := gen_b h
  have d1 := dec30 (n := idxOf h) (by omega) (by omega)
  have d2 := dec30 (n := genOf h) (by omega) (by omega)
  have e1 : (bs [110, 111, 110, 101]).size = 4 := rfl
  have e2 : (bs [46]).size = 1 := rfl
  have e3 : (bs []).size = 0 := rfl
  unfold fh
  split
  · rw [ByteArray.size_append]; omega
  · split
    · rw [ByteArray.size_append, ByteArray.size_append, ByteArray.size_append]; omega
    · omega
theorem unm_idx (h : Int) : idxOf (unm h) = idxOf h ∧ genOf (unm h) = genOf h ∨ h = 1 := by
  by_cases c : isM h
  · have e : unm h = h - 1 := if_pos c
    have c' := c
    unfold isM at c'
    rcases c' with c1 | ⟨c1, c2⟩
    · exact .inr c1
    · left
      have d2 : isH (h - 1) := by unfold isH at c1 ⊢; omega
      have e2 : (h - 1) / 2 = h / 2 := by omega
      unfold idxOf genOf
      rw [e, if_pos d2, if_pos c1, if_pos d2, if_pos c1, e2]
      exact ⟨rfl, rfl⟩
  · have e : unm h = h := if_neg c
    rw [e]
    exact .inl ⟨rfl, rfl⟩
theorem unm_b (h : Int) (h0 : -9223372036854775808 ≤ h) (h1 : h ≤ 9223372036854775807) : unm h ≤ 9223372036854775807 := by
  by_cases c : isM h
  · rw [unm, if_pos c]; omega
  · rw [unm, if_neg c]; omega
theorem unm_H {h : Int} (d : isH h) : unm h ≠ 0 := by
  unfold isH at d
  by_cases c : isM h
  · rw [unm, if_pos c]; omega
  · rw [unm, if_neg c]; omega
theorem unm_0 {h : Int} (d : ¬ isH h) (z : h ≠ 0) (o : h ≠ 1) : unm h ≠ 0 := by
  by_cases c : isM h
  · unfold isM at c
    rcases c with c | c
    · exact absurd c o
    · exact absurd c.1 d
  · rw [unm, if_neg c]; exact z
theorem s_FormatHandle_j (h : Int) (x3 : ByteArray) (hx : x3.size ≤ 1) (h0 : -9223372036854775808 ≤ h) (h1 : h ≤ 9223372036854775807) :
    Ev (fun k => spec_FormatHandle.j0 k h x3) (if unm h = 0 then bs [110, 111, 110, 101] ++ x3 else if isH h then ((dec (idxOf h) ++ bs [46]) ++ dec (genOf h)) ++ x3 else bs []) := by
  have hu := unm_b h h0 h1
  by_cases c : unm h = 0
  · rw [if_pos c]
    refine Ev.step (f := fun _ => some _) (fun k => ?_) (Ev.now _)
    simp only [spec_FormatHandle.j0, s_Unmarked h h1, Option.bind_some, if_pos c]
    rw [if_pos (by omega)]
    rfl
  · rw [if_neg c]
    by_cases d : isH h
    · rw [if_pos d]
      have hi : idxOf (unm h) = idxOf h ∧ genOf (unm h) = genOf h := by
        rcases unm_idx h with e | e
        · exact e
        · subst e
          exact absurd d (by unfold isH; omega)
      have i1 := idx_b h
      have g1 := gen_b h
      have d1 := dec30 (n := idxOf h) (by omega) (by omega)
      have d2 := dec30 (n := genOf h) (by omega) (by omega)
      refine Ev.step (f := fun k => (spec_FormatInt.f k (idxOf h)).bind fun t115 => if t115.size + 1 ≤ 9223372036854775807 then (spec_FormatInt.f k (genOf h)).bind fun t117 => if (t115 ++ bs [46]).size + t117.size ≤ 9223372036854775807 then if ((t115 ++ bs [46]) ++ t117).size + x3.size ≤ 9223372036854775807 then some (((t115 ++ bs [46]) ++ t117) ++ x3) else none else none else none) (fun k => ?_) (Ev.bind (s_FormatInt (idxOf h) (by omega) (by omega)) ?_)
      · simp only [spec_FormatHandle.j0, s_Unmarked h h1, Option.bind_some, if_neg c, s_IsHandle h h1, decide_eq_true d, if_true, s_IndexOf (unm h) hu, s_GenerationOf (unm h) hu, hi.1, hi.2]
        rfl
      · simp (disch := omega) only [ifle]
        refine Ev.bind (s_FormatInt (genOf h) (by omega) (by omega)) ?_
        simp (disch := omega) only [ifle, ByteArray.size_append, bs_size, List.length_cons, List.length_nil]
        exact Ev.now _
    · rw [if_neg d]
      refine Ev.step (f := fun _ => some _) (fun k => ?_) (Ev.now _)
      simp only [spec_FormatHandle.j0, s_Unmarked h h1, Option.bind_some, if_neg c, s_IsHandle h h1, decide_eq_false d]
      rw [if_neg (by decide)]
      rfl
theorem s_FormatHandle (h : Int) (h0 : -9223372036854775808 ≤ h) (h1 : h ≤ 9223372036854775807) : Ev (fun k => spec_FormatHandle.f k h) (fh h) := by
  unfold spec_FormatHandle.f fh fhS
  simp only [s_IsMarked h h1, Option.bind_some, decide_eq_true_eq]
  by_cases m : isM h
  · simp only [if_pos m]
    exact s_FormatHandle_j h _ (by decide) h0 h1
  · simp only [if_neg m]
    exact s_FormatHandle_j h _ (by decide) h0 h1
theorem i_FormatInt (n : Int) (h : -9223372036854775808 ≤ n) (h2 : n ≤ 9223372036854775807) : impl_FormatInt.f n = some (dec n) := by
  unfold impl_FormatInt.f strconv_Itoa.f
  rw [if_pos ⟨h, h2⟩]
  rfl
theorem i_FormatHandle (h : Int) (h0 : -9223372036854775808 ≤ h) (h1 : h ≤ 9223372036854775807) : Ev (fun k => impl_FormatHandle.f k h) (fh h) := by
  unfold impl_FormatHandle.f
  simp only [i_IsHandle h h1, Option.bind_some, decide_eq_true_eq]
  have i1 := idx_b h
  have g1 := gen_b h
  have d1 := dec30 (n := idxOf h) (by omega) (by omega)
  have d2 := dec30 (n := genOf h) (by omega) (by omega)
  by_cases d : isH h
  · have hu := unm_H d
    simp only [if_pos d, i_IndexOf h h1, i_GenerationOf h h1, i_IsMarked h h1, Option.bind_some, i_FormatInt (idxOf h) (by omega) (by omega), i_FormatInt (genOf h) (by omega) (by omega), decide_eq_true_eq]
    simp only [ByteArray.size_append, lsz, List.length_cons, List.length_nil]
    rw [if_pos (by omega), if_pos (by omega)]
    unfold fh fhS
    rw [if_neg hu, if_pos d]
    by_cases m : isM h
    · rw [if_pos m, if_pos m, if_pos (by omega)]
      exact Ev.now _
    · rw [if_neg m, if_neg m]
      rw [bs_nil, ByteArray.append_empty]
      exact Ev.now _
  · simp only [if_neg d]
    by_cases z : h = 0
    · subst z
      simp only [if_true]
      refine Ev.step (f := fun _ => some _) (fun k => ?_) (Ev.now _)
      simp only [impl_FormatHandle.j0, i_IsMarked 0 h1, Option.bind_some]
      rw [if_neg (by decide), if_neg (by decide)]
      rfl
    · simp only [if_neg z]
      by_cases o : h = 1
      · subst o
        refine Ev.step (f := fun _ => some _) (fun k => ?_) (Ev.now _)
        simp only [impl_FormatHandle.j0, i_IsMarked 1 h1, Option.bind_some]
        rw [if_neg (by decide), if_pos (by decide), if_pos (by decide)]
        rfl
      · refine Ev.step (f := fun _ => some _) (fun k => ?_) (Ev.now _)
        simp only [impl_FormatHandle.j0]
        rw [if_pos (by simpa using o)]
        unfold fh
        rw [if_neg (unm_0 d z o), if_neg d]
        rfl
def fent (h k lo hi : Int) : ByteArray := (fh h ++ (⟨#[32, 111, 102, 32]⟩ : ByteArray) ++ dec k ++ (⟨#[32, 102, 114, 111, 109, 32]⟩ : ByteArray) ++ dec lo ++ (⟨#[32, 116, 111, 32]⟩ : ByteArray) ++ dec hi)
theorem s_FormatEntry (h k lo hi : Int) (h0 : -9223372036854775808 ≤ h) (h1 : h ≤ 9223372036854775807) : Ev (fun n => spec_FormatEntry.f n h k lo hi) (if isE h k lo hi then fent h k lo hi else ⟨#[]⟩) := by
  unfold spec_FormatEntry.f
  simp only [s_IsEntry h k lo hi h1, Option.bind_some, decide_eq_true_eq]
  have l0 : (⟨#[32, 111, 102, 32]⟩ : ByteArray).size = 4 := rfl
  have l1 : (⟨#[32, 102, 114, 111, 109, 32]⟩ : ByteArray).size = 6 := rfl
  have l2 : (⟨#[32, 116, 111, 32]⟩ : ByteArray).size = 4 := rfl
  have dh := fh_size h
  by_cases e : isE h k lo hi
  · have h' := e
    unfold isE at h'
    have da := dec30 (n := k) (by omega) (by omega)
    have db := dec30 (n := lo) (by omega) (by omega)
    have dc := dec30 (n := hi) (by omega) (by omega)
    simp only [if_pos e]
    refine Ev.bind (s_FormatHandle h h0 h1) ?_
    simp (disch := omega) only [ifle]
    refine Ev.bind (s_FormatInt k (by omega) (by omega)) ?_
    simp (disch := omega) only [ifle, ByteArray.size_append, l0, l1, l2]
    refine Ev.bind (s_FormatInt lo (by omega) (by omega)) ?_
    simp (disch := omega) only [ifle, ByteArray.size_append, l0, l1, l2]
    refine Ev.bind (s_FormatInt hi (by omega) (by omega)) ?_
    simp (disch := omega) only [ifle, ByteArray.size_append, l0, l1, l2]
    exact Ev.now _
  · simp only [if_neg e]
    exact Ev.now _
theorem i_FormatEntry (h k lo hi : Int) (h0 : -9223372036854775808 ≤ h) (h1 : h ≤ 9223372036854775807) : Ev (fun n => impl_FormatEntry.f n h k lo hi) (if isE h k lo hi then fent h k lo hi else ⟨#[]⟩) := by
  unfold impl_FormatEntry.f
  simp only [i_IsEntry h k lo hi h1, Option.bind_some, decide_eq_true_eq]
  have l0 : (⟨#[32, 111, 102, 32]⟩ : ByteArray).size = 4 := rfl
  have l1 : (⟨#[32, 102, 114, 111, 109, 32]⟩ : ByteArray).size = 6 := rfl
  have l2 : (⟨#[32, 116, 111, 32]⟩ : ByteArray).size = 4 := rfl
  have dh := fh_size h
  by_cases e : isE h k lo hi
  · have h' := e
    unfold isE at h'
    have da := dec30 (n := k) (by omega) (by omega)
    have db := dec30 (n := lo) (by omega) (by omega)
    have dc := dec30 (n := hi) (by omega) (by omega)
    simp only [if_pos e, i_FormatInt k (by omega) (by omega), i_FormatInt lo (by omega) (by omega), i_FormatInt hi (by omega) (by omega), Option.bind_some]
    refine Ev.bind (i_FormatHandle h h0 h1) ?_
    simp (disch := omega) only [ifle, ByteArray.size_append, l0, l1, l2]
    exact Ev.now _
  · simp only [if_neg e]
    exact Ev.now _

theorem past_not (lo hi : Int) (l : List Int) (h : isP hi l = true) : isN lo hi l = false := by
  unfold isP at h
  unfold isN
  rw [Bool.not_eq_true'] at h
  rw [List.any_eq_false] at h ⊢
  intro x hx
  have := h x hx
  simp at this ⊢
  intro _
  exact this
theorem fine_not (p key : Int) (ann : List Int) (e : S39) (h : fineE p key ann e = true) : isN e.f2 e.f3 ann = false := by
  unfold fineE at h
  by_cases p1 : p = 1
  · rw [if_pos p1] at h
    exact past_not _ _ _ h
  · rw [if_neg p1] at h
    by_cases p2 : p = 2
    · rw [if_pos p2] at h
      cases hq : isN e.f2 e.f3 ann with
      | false => rfl
      | true => rw [hq] at h; simp at h
    · rw [if_neg p2] at h
      cases hq : isN e.f2 e.f3 ann with
      | false => rfl
      | true => rw [hq] at h; simp at h
theorem fe_tail (c : List Int) (hc : c.length ≤ maxLen) : Ev (fun k => (spec_DrawIsNeeded.f k c).bind fun bt426 => ((impl_IsNeeded.f bt426.1 bt426.2.1 bt426.2.2.1 bt426.2.2.2.1 bt426.2.2.2.2).bind fun t434 => ((spec_IsNeeded.f k bt426.1 bt426.2.1 bt426.2.2.1 bt426.2.2.2.1 bt426.2.2.2.2).bind fun t435 => (if (t434 == t435) = true then ((impl_IsPast.f bt426.1 bt426.2.1 bt426.2.2.1 bt426.2.2.2.1 bt426.2.2.2.2).bind fun t436 => ((spec_IsPast.f k bt426.1 bt426.2.1 bt426.2.2.1 bt426.2.2.2.1 bt426.2.2.2.2).bind fun t437 => (if (t436 == t437) = true then ((impl_IsPast.f bt426.1 bt426.2.1 bt426.2.2.1 bt426.2.2.2.1 bt426.2.2.2.2).bind fun t438 => (if t438 = true then ((impl_IsNeeded.f bt426.1 bt426.2.1 bt426.2.2.1 bt426.2.2.2.1 bt426.2.2.2.2).bind fun t439 => (if t439 = true then (none) else ((impl_IsNeeded.f bt426.1 bt426.2.1 bt426.2.2.1 bt426.2.2.2.1 ([] : List Int)).bind fun t440 => (if t440 = true then (none) else ((impl_IsPast.f bt426.1 bt426.2.1 bt426.2.2.1 bt426.2.2.2.1 ([] : List Int)).bind fun t441 => (if t441 = true then ((impl_FormatEntry.f k bt426.1 bt426.2.1 bt426.2.2.1 bt426.2.2.2.1).bind fun t442 => ((spec_FormatEntry.f k bt426.1 bt426.2.1 bt426.2.2.1 bt426.2.2.2.1).bind fun t443 => (some (t442.toList == t443.toList)))) else (none))))))) else ((impl_IsNeeded.f bt426.1 bt426.2.1 bt426.2.2.1 bt426.2.2.2.1 ([] : List Int)).bind fun t444 => (if t444 = true then (none) else ((impl_IsPast.f bt426.1 bt426.2.1 bt426.2.2.1 bt426.2.2.2.1 ([] : List Int)).bind fun t445 => (if t445 = true then ((impl_FormatEntry.f k bt426.1 bt426.2.1 bt426.2.2.1 bt426.2.2.2.1).bind fun t446 => ((spec_FormatEntry.f k bt426.1 bt426.2.1 bt426.2.2.1 bt426.2.2.2.1).bind fun t447 => (some (t446.toList == t447.toList)))) else (none))))))) else (none)))) else (none))))) true := by
  obtain ⟨h, hn⟩ := l1New c hc
  obtain ⟨x, k0, lo, hg, i1, h1, e1, hx, hi1⟩ := l6Any c 0 h hc (by omega)
  obtain ⟨s, i2, h2, e2, hs, _⟩ := l6Stamps c i1 h1 hc hi1
  have hd : Ev (fun k => spec_DrawIsNeeded.f k c) (x, k0, lo, hg, s) := by
    unfold spec_DrawIsNeeded.f
    refine Ev.bind hn ?_
    simp only [e1, Option.bind_some]
    refine Ev.bind e2 ?_
    exact Ev.now _
  refine Ev.bind hd ?_
  simp only [i_IsNeeded, i_IsPast, Option.bind_some]
  refine Ev.bind (s_IsNeeded x k0 lo hg s (by omega)) ?_
  simp only [beq_self_eq_true, if_true]
  refine Ev.bind (s_IsPast x k0 lo hg s (by omega)) ?_
  have n0 : isN lo hg [] = false := rfl
  have p0 : isP hg [] = true := rfl
  simp only [beq_self_eq_true, if_true, n0, p0, Bool.false_eq_true, if_false]
  have fin : Ev (fun k => (impl_FormatEntry.f k x k0 lo hg).bind fun t442 => ((spec_FormatEntry.f k x k0 lo hg).bind fun t443 => (some (t442.toList == t443.toList)))) true := by
    refine Ev.bind (i_FormatEntry x k0 lo hg (by omega) (by omega)) ?_
    refine Ev.bind (s_FormatEntry x k0 lo hg (by omega) (by omega)) ?_
    simp only [beq_self_eq_true]
    exact Ev.now _
  by_cases hp : isP hg s = true
  · have hn2 := past_not lo hg s hp
    simp only [if_pos hp, hn2, Bool.false_eq_true, if_false]
    exact fin
  · simp only [if_neg hp]
    exact fin
theorem fe_l1 (c : List Int) (hc : c.length ≤ maxLen) (p : Int) (ann : List Int) (D : List S39) (hD : D.length ≤ 100) (hf : ∀ e ∈ D, isN e.f2 e.f3 ann = false) (d : Nat) : ∀ i : Nat, i + d = D.length → Ev (fun k => laws_FnEntries.l1 k c p ann D D (i : Int)) true := by
  induction d with
  | zero =>
    intro i hi
    refine Ev.step (fun k => ?_) (fe_tail c hc)
    simp only [laws_FnEntries.l1]
    rw [if_neg (by omega)]
  | succ d ih =>
    intro i hi
    refine Ev.step (fun k => ?_) (ih (i + 1) (by omega))
    have hr := rdT_eq D i (by omega)
    have hm := hf D[i] (List.getElem_mem _)
    simp only [laws_FnEntries.l1, hr, i_IsNeeded, hm, Option.bind_some, Bool.false_eq_true, if_false]
    rw [if_pos (by omega), if_pos (by omega), if_pos (by omega), if_neg (by simp), w64 (by omega) (by omega)]
    rfl
theorem fe_l0 (c : List Int) (hc : c.length ≤ maxLen) (p : Int) (ann : List Int) (C D : List S39) (hC : C.length ≤ 100) (hD : D.length ≤ 100) (hf : ∀ e ∈ D, isN e.f2 e.f3 ann = false) (d : Nat) : ∀ i : Nat, i + d = C.length → Ev (fun k => laws_FnEntries.l0 k c p ann C D C D (i : Int)) true := by
  induction d with
  | zero =>
    intro i hi
    refine Ev.step (fun k => ?_) (fe_l1 c hc p ann D hD hf D.length 0 (by omega))
    simp only [laws_FnEntries.l0]
    rw [if_neg (by omega)]
    rfl
  | succ d ih =>
    intro i hi
    refine Ev.step (fun k => ?_) (ih (i + 1) (by omega))
    have hr := rdT_eq C i (by omega)
    simp only [laws_FnEntries.l0, hr]
    rw [if_pos (by omega), if_pos (by omega), if_pos (by omega), if_neg (by simp), w64 (by omega) (by omega)]
    rfl
theorem FnEntries : laws_FnEntries.Pure := by
  intro c hc _ _
  unfold laws_FnEntries.f laws_big.f
  simp only [Option.bind_some, decide_eq_true_eq]
  by_cases hbig : (c.length : Int) > 1048576
  · exact ⟨0, by rw [if_pos hbig]⟩
  · simp only [if_neg hbig]
    obtain ⟨h, hn⟩ := l1New c hc
    obtain ⟨p, i1, h1, e1, _, _, _, _, hi1⟩ := l1Below c 0 h 4 hc (by omega) (by omega)
    obtain ⟨q, i2, h2, e2, _, _, _, _, hi2⟩ := l1Below c i1 h1 4 hc hi1 (by omega)
    obtain ⟨l, i3, h3, e3, hl, hi3⟩ := l6Entries c i2 h2 hc hi2
    obtain ⟨s, i4, h4, e4, hs, _⟩ := l6Stamps c i3 h3 hc hi3
    have hd : Ev (fun k => spec_DrawSplitEntries.f k c) (p, wrap64 (q - 1), l, s) := by
      unfold spec_DrawSplitEntries.f
      refine Ev.bind hn ?_
      simp only [e1, e2, Option.bind_some]
      refine Ev.bind e3 ?_
      refine Ev.bind e4 ?_
      exact Ev.now _
    generalize wrap64 (q - 1) = key at hd
    refine (Ev.bind hd ?_).rounds
    refine Ev.bind (i_SplitEntries p key l s (by omega) (by omega)) ?_
    refine Ev.bind (s_SplitEntries p key l s (by omega) (by omega)) ?_
    have hlen := splitE_len p key s l
    have hf : ∀ e ∈ (splitE p key s l).2, isN e.f2 e.f3 s = false := fun e he => fine_not p key s e (List.mem_filter.1 he).2
    generalize splitE p key s l = R at hlen hf
    simp only [if_true]
    have hne : ((wrap64 ((R.1.length : Int) + (R.2.length : Int))) != (l.length : Int)) = false := by
      rw [w64 (by omega) (by omega)]
      simp
      omega
    simp only [hne]
    refine Ev.step (fun k => ?_) (fe_l0 c hc p s R.1 R.2 (by omega) (by omega) hf R.1.length 0 (by omega))
    simp only [laws_FnEntries.j0]
    rw [if_neg (by decide)]
    rfl

end Go.Proofs.YtbenihcaleiacaaDoor.Pure
