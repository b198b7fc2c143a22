/- The pure side of FnExactSplitEntries: the program's SplitEntries answers what the reference's does, in lists of its own, for every policy, key, list and stamps (the law itself answers true past 1048576). No condition. -/
import Derived.Test.YtlbbnepkdhlgmabGFnExactSplitEntriesx5
import Derived.OpenShut
import Derived.Laws.BitsLemmas
set_option linter.unusedVariables false
set_option linter.unusedSimpArgs false
namespace Go.Proofs.Ytlbbnepkdhlgmab.Pure
open Go.RowKit Go.Proofs.Ytlbbnepkdhlgmab.GFnExactSplitEntries Go.Proofs.YtlbbnepkdhlgmabW.PrintWords Go.Proofs.YtlbbnepkdhlgmabW.PrintLast

theorem w64 {x : Int} (h : -9223372036854775808 ≤ x) (h' : x ≤ 9223372036854775807) : wrap64 x = x := by unfold wrap64; omega
theorem tdiv_pos {x y : Int} (h : 0 ≤ x) : Int.tdiv x y = x / y := Int.tdiv_eq_ediv_of_nonneg h
theorem tmod_pos {x y : Int} (h : 0 ≤ x) : Int.tmod x y = x % y := Int.tmod_eq_emod_of_nonneg h
theorem eq_strs {g w : Option ByteArray} {r : ByteArray} (h1 : w = some r) (h2 : g = some r) : (w.bind fun t => g.bind fun u => if u.toList = t.toList then some true else some false) = some true := by
  subst h1; subst h2; simp
theorem eq_ints {g w : Option Int} {r : Int} (h1 : w = some r) (h2 : g = some r) : (w.bind fun t => g.bind fun u => if u = t then some true else some false) = some true := by
  subst h1; subst h2; simp
theorem eq_bools {g w : Option Bool} {r : Bool} (h1 : w = some r) (h2 : g = some r) : (w.bind fun t => g.bind fun u => if (u != t) = true then some false else some true) = some true := by
  subst h1; subst h2; simp
theorem ev_strs {g w : Nat → Option ByteArray} {r : ByteArray} (h1 : Ev w r) (h2 : Ev g r) : ∃ k, ((w k).bind fun t => (g k).bind fun u => if u.toList = t.toList then some true else some false) = some true := by
  obtain ⟨K, h1⟩ := h1
  obtain ⟨L, h2⟩ := h2
  exact ⟨max K L, eq_strs (h1 _ (by omega)) (h2 _ (by omega))⟩
theorem ev2 {α β : Type} {g : Nat → Option α} {f : Nat → Option β} {a : α} {b : β} {F : α → β → Option Bool} (hg : Ev g a) (hf : Ev f b) (h : F a b = some true) : ∃ k, ((g k).bind fun t => (f k).bind fun u => F t u) = some true :=
  (Ev.bind hg (Ev.bind hf ⟨0, fun _ _ => h⟩)).rounds
theorem rd_eq (l : List Int) (i : Nat) (h : i < l.length) : rd l (i : Int) = l[i] := by
  unfold rd
  rw [show ((i : Int)).toNat = i by omega, List.getD_eq_getElem?_getD, List.getElem?_eq_getElem h]
  rfl

theorem rdT_eq (l : List S25) (i : Nat) (h : i < l.length) : rd_T25 l (i : Int) = l[i] := by
  unfold rd_T25
  rw [show ((i : Int)).toNat = i by omega, List.getD_eq_getElem?_getD, List.getElem?_eq_getElem h]
  rfl

def isN (lo hi : Int) (l : List Int) : Bool := l.any fun n => decide (lo ≤ n) && decide (n < hi)
theorem s_IsNeeded_l (l : List Int) (hl : l.length ≤ 1048576) (a b lo hi : Int) (d : Nat) : ∀ i : Nat, i + d = l.length → Ev (fun k => spec_IsNeeded.l0 k l i a b lo hi) (isN lo hi (l.drop i)) := by
  induction d with
  | zero =>
    intro i h
    rw [List.drop_eq_nil_of_le (by omega)]
    refine Ev.step (f := fun _ => some _) (fun k => ?_) (Ev.now _)
    simp only [spec_IsNeeded.l0]
    rw [if_neg (by omega)]
    rfl
  | succ d ih =>
    intro i h
    have ih := ih (i + 1) (by omega)
    unfold isN at ih ⊢
    rw [List.drop_eq_getElem_cons (by omega), List.any_cons, ← rd_eq l i (by omega)]
    by_cases h1 : lo ≤ rd l i
    · by_cases h2 : rd l i < hi
      · rw [decide_eq_true h1, decide_eq_true h2]
        refine Ev.step (f := fun _ => some true) (fun k => ?_) (Ev.now _)
        simp only [spec_IsNeeded.l0]
        rw [if_pos (by omega), if_pos (by omega), if_pos h1, if_pos h2]
      · rw [decide_eq_false h2, Bool.and_false, Bool.false_or]
        refine Ev.step (fun k => ?_) ih
        simp only [spec_IsNeeded.l0]
        rw [if_pos (by omega), if_pos (by omega), if_pos h1, if_neg h2, w64 (by omega) (by omega)]
        rfl
    · rw [decide_eq_false h1, Bool.false_and, Bool.false_or]
      refine Ev.step (fun k => ?_) ih
      simp only [spec_IsNeeded.l0]
      rw [if_pos (by omega), if_pos (by omega), if_neg h1, w64 (by omega) (by omega)]
      rfl
theorem s_IsNeeded (a b lo hi : Int) (l : List Int) (hl : l.length ≤ 1048576) : Ev (fun k => spec_IsNeeded.f k a b lo hi l) (isN lo hi l) := s_IsNeeded_l l hl a b lo hi l.length 0 (by omega)
theorem i_IsNeeded (a b lo hi : Int) (l : List Int) : impl_IsNeeded.f a b lo hi l = some (isN lo hi l) := rfl

def isP (hi : Int) (l : List Int) : Bool := !(l.any fun n => decide (n < hi))
theorem s_IsPast_l (l : List Int) (hl : l.length ≤ 1048576) (a b lo hi : Int) (d : Nat) : ∀ i : Nat, i + d = l.length → Ev (fun k => spec_IsPast.l0 k l i a b lo hi) (isP hi (l.drop i)) := by
  induction d with
  | zero =>
    intro i h
    rw [List.drop_eq_nil_of_le (by omega)]
    refine Ev.step (f := fun _ => some _) (fun k => ?_) (Ev.now _)
    simp only [spec_IsPast.l0]
    rw [if_neg (by omega)]
    rfl
  | succ d ih =>
    intro i h
    have ih := ih (i + 1) (by omega)
    unfold isP at ih ⊢
    rw [List.drop_eq_getElem_cons (by omega), List.any_cons, ← rd_eq l i (by omega)]
    by_cases h2 : rd l i < hi
    · rw [decide_eq_true h2]
      refine Ev.step (f := fun _ => some false) (fun k => ?_) (Ev.now _)
      simp only [spec_IsPast.l0]
      rw [if_pos (by omega), if_pos (by omega), if_pos h2]
    · rw [decide_eq_false h2, Bool.false_or]
      refine Ev.step (fun k => ?_) ih
      simp only [spec_IsPast.l0]
      rw [if_pos (by omega), if_pos (by omega), if_neg h2, w64 (by omega) (by omega)]
      rfl
theorem s_IsPast (a b lo hi : Int) (l : List Int) (hl : l.length ≤ 1048576) : Ev (fun k => spec_IsPast.f k a b lo hi l) (isP hi l) := s_IsPast_l l hl a b lo hi l.length 0 (by omega)
theorem i_IsPast (a b lo hi : Int) (l : List Int) : impl_IsPast.f a b lo hi l = some (isP hi l) := rfl

def fineE (p key : Int) (ann : List Int) (e : S25) : Bool :=
  if p = 1 then isP e.f3 ann else if p = 2 then !(isN e.f2 e.f3 ann) && (decide (key < 0) || decide (e.f1 = key)) else !(isN e.f2 e.f3 ann)
def splitE (p key : Int) (ann : List Int) (l : List S25) : List S25 × List S25 := (l.filter fun e => !(fineE p key ann e), l.filter (fineE p key ann))
theorem s_SplitEntries_l (p key : Int) (ann : List Int) (ha : ann.length ≤ 1048576) (l : List S25) (hl : l.length ≤ 1048576) (d : Nat) : ∀ (i : Nat) (keep drop : List S25), i + d = l.length → keep.length ≤ i → drop.length ≤ i →
    Ev (fun k => spec_SplitEntries.l0 k p key l ann keep drop i) (keep ++ (splitE p key ann (l.drop i)).1, drop ++ (splitE p key ann (l.drop i)).2) := by
  induction d with
  | zero =>
    intro i keep drop hi hk hd
    rw [List.drop_eq_nil_of_le (by omega)]
    refine Ev.step (f := fun _ => some _) (fun k => ?_) (Ev.now _)
    simp only [spec_SplitEntries.l0]
    rw [if_neg (by omega)]
    simp [splitE]
  | succ d ih =>
    intro i keep drop hi hk hd
    have hr := rdT_eq l i (by omega)
    have goK : fineE p key ann l[i] = false → Ev (fun k => spec_SplitEntries.l0 k p key l ann (keep ++ [l[i]]) drop ((i + 1 : Nat) : Int)) (keep ++ (splitE p key ann (l.drop i)).1, drop ++ (splitE p key ann (l.drop i)).2) := by
      intro hf
      have := ih (i + 1) (keep ++ [l[i]]) drop (by omega) (by simp; omega) (by omega)
      rw [List.append_assoc] at this
      rw [List.drop_eq_getElem_cons (by omega)]
      unfold splitE at this ⊢
      rw [List.filter_cons_of_pos (by simp [hf]), List.filter_cons_of_neg (by simp [hf])]
      exact this
    have goD : fineE p key ann l[i] = true → Ev (fun k => spec_SplitEntries.l0 k p key l ann keep (drop ++ [l[i]]) ((i + 1 : Nat) : Int)) (keep ++ (splitE p key ann (l.drop i)).1, drop ++ (splitE p key ann (l.drop i)).2) := by
      intro hf
      have := ih (i + 1) keep (drop ++ [l[i]]) (by omega) (by omega) (by simp; omega)
      rw [List.append_assoc] at this
      rw [List.drop_eq_getElem_cons (by omega)]
      unfold splitE at this ⊢
      rw [List.filter_cons_of_neg (by simp [hf]), List.filter_cons_of_pos (by simp [hf])]
      exact this
    have hw : wrap64 ((i : Int) + 1) = ((i + 1 : Nat) : Int) := by rw [w64 (by omega) (by omega)]; rfl
    refine Ev.step (f := fun k => (spec_IsNeeded.f k l[i].f0 l[i].f1 l[i].f2 l[i].f3 ann).bind fun t => if p = 1 then (spec_IsPast.f k l[i].f0 l[i].f1 l[i].f2 l[i].f3 ann).bind fun u => if u = true then spec_SplitEntries.l0 k p key l ann keep (drop ++ [l[i]]) ((i + 1 : Nat) : Int) else spec_SplitEntries.l0 k p key l ann (keep ++ [l[i]]) drop ((i + 1 : Nat) : Int) else if p = 2 then if t = true then spec_SplitEntries.l0 k p key l ann (keep ++ [l[i]]) drop ((i + 1 : Nat) : Int) else if key < 0 then spec_SplitEntries.l0 k p key l ann keep (drop ++ [l[i]]) ((i + 1 : Nat) : Int) else if l[i].f1 = key then spec_SplitEntries.l0 k p key l ann keep (drop ++ [l[i]]) ((i + 1 : Nat) : Int) else spec_SplitEntries.l0 k p key l ann (keep ++ [l[i]]) drop ((i + 1 : Nat) : Int) else if t = true then spec_SplitEntries.l0 k p key l ann (keep ++ [l[i]]) drop ((i + 1 : Nat) : Int) else spec_SplitEntries.l0 k p key l ann keep (drop ++ [l[i]]) ((i + 1 : Nat) : Int)) (fun k => ?_) ?_
    · simp only [spec_SplitEntries.l0, hr, hw, if_pos (show (i : Int) < (l.length : Int) by omega), if_pos (show 0 ≤ (i : Int) by omega), if_pos (show keep.length < 4398046511104 by omega), if_pos (show drop.length < 4398046511104 by omega)]
    · refine Ev.bind (s_IsNeeded _ _ _ _ ann ha) ?_
      by_cases p1 : p = 1
      · simp only [if_pos p1]
        refine Ev.bind (s_IsPast _ _ _ _ ann ha) ?_
        by_cases h : isP l[i].f3 ann = true
        · simp only [if_pos h]
          exact goD (by unfold fineE; rw [if_pos p1]; exact h)
        · simp only [if_neg h]
          exact goK (by unfold fineE; rw [if_pos p1]; exact Bool.eq_false_iff.2 h)
      · simp only [if_neg p1]
        by_cases p2 : p = 2
        · simp only [if_pos p2]
          by_cases h : isN l[i].f2 l[i].f3 ann = true
          · simp only [if_pos h]
            exact goK (by unfold fineE; rw [if_neg p1, if_pos p2, h]; rfl)
          · simp only [if_neg h]
            by_cases h1 : key < 0
            · simp only [if_pos h1]
              exact goD (by unfold fineE; rw [if_neg p1, if_pos p2]; simp [h, h1])
            · simp only [if_neg h1]
              by_cases h2 : l[i].f1 = key
              · simp only [if_pos h2]
                exact goD (by unfold fineE; rw [if_neg p1, if_pos p2]; simp [h, h2])
              · simp only [if_neg h2]
                exact goK (by unfold fineE; rw [if_neg p1, if_pos p2]; simp [h1, h2])
        · simp only [if_neg p2]
          by_cases h : isN l[i].f2 l[i].f3 ann = true
          · simp only [if_pos h]
            exact goK (by unfold fineE; rw [if_neg p1, if_neg p2, h]; rfl)
          · simp only [if_neg h]
            exact goD (by unfold fineE; rw [if_neg p1, if_neg p2, Bool.eq_false_iff.2 h]; rfl)
theorem i_SplitEntries_l (p key : Int) (ann : List Int) (ha : ann.length ≤ 1048576) (l : List S25) (hl : l.length ≤ 1048576) (d : Nat) : ∀ (i : Nat) (keep drop : List S25), i + d = l.length → keep.length ≤ i → drop.length ≤ i →
    Ev (fun k => impl_SplitEntries.l0 k p key ann keep drop l (l.length : Int) i) (keep ++ (splitE p key ann (l.drop i)).1, drop ++ (splitE p key ann (l.drop i)).2) := by
  induction d with
  | zero =>
    intro i keep drop hi hk hd
    rw [List.drop_eq_nil_of_le (by omega)]
    refine Ev.step (f := fun _ => some _) (fun k => ?_) (Ev.now _)
    simp only [impl_SplitEntries.l0]
    rw [if_neg (by omega)]
    simp [splitE]
  | succ d ih =>
    intro i keep drop hi hk hd
    have hr := rdT_eq l i (by omega)
    have goK : fineE p key ann l[i] = false → Ev (fun k => impl_SplitEntries.l0 k p key ann (keep ++ [l[i]]) drop l (l.length : Int) ((i + 1 : Nat) : Int)) (keep ++ (splitE p key ann (l.drop i)).1, drop ++ (splitE p key ann (l.drop i)).2) := by
      intro hf
      have := ih (i + 1) (keep ++ [l[i]]) drop (by omega) (by simp; omega) (by omega)
      rw [List.append_assoc] at this
      rw [List.drop_eq_getElem_cons (by omega)]
      unfold splitE at this ⊢
      rw [List.filter_cons_of_pos (by simp [hf]), List.filter_cons_of_neg (by simp [hf])]
      exact this
    have goD : fineE p key ann l[i] = true → Ev (fun k => impl_SplitEntries.l0 k p key ann keep (drop ++ [l[i]]) l (l.length : Int) ((i + 1 : Nat) : Int)) (keep ++ (splitE p key ann (l.drop i)).1, drop ++ (splitE p key ann (l.drop i)).2) := by
      intro hf
      have := ih (i + 1) keep (drop ++ [l[i]]) (by omega) (by omega) (by simp; omega)
      rw [List.append_assoc] at this
      rw [List.drop_eq_getElem_cons (by omega)]
      unfold splitE at this ⊢
      rw [List.filter_cons_of_neg (by simp [hf]), List.filter_cons_of_pos (by simp [hf])]
      exact this
    have hw : wrap64 ((i : Int) + 1) = ((i + 1 : Nat) : Int) := by rw [w64 (by omega) (by omega)]; rfl
    have hs : ∀ k, impl_SplitEntries.l0 (k + 1) p key ann keep drop l (l.length : Int) (i : Int) = if fineE p key ann l[i] = true then impl_SplitEntries.l0 k p key ann keep (drop ++ [l[i]]) l (l.length : Int) ((i + 1 : Nat) : Int) else impl_SplitEntries.l0 k p key ann (keep ++ [l[i]]) drop l (l.length : Int) ((i + 1 : Nat) : Int) := by
      intro k
      simp only [impl_SplitEntries.l0, hr, hw, i_IsNeeded, i_IsPast, Option.bind_some, if_pos (show (i : Int) < (l.length : Int) by omega), if_pos (show 0 ≤ (i : Int) by omega), if_pos (show keep.length < 4398046511104 by omega), if_pos (show drop.length < 4398046511104 by omega)]
      unfold fineE
      by_cases p1 : p = 1
      · rw [if_pos p1, if_pos p1]
      · rw [if_neg p1, if_neg p1]
        by_cases p2 : p = 2
        · rw [if_pos p2, if_pos p2]
          cases isN l[i].f2 l[i].f3 ann with
          | true => simp
          | false =>
            by_cases h1 : key < 0
            · simp [h1]
            · by_cases h2 : key = l[i].f1
              · have h3 : decide (l[i].f1 = key) = true := decide_eq_true h2.symm
                simp only [Bool.not_false, Bool.true_and, decide_eq_false h1, Bool.false_or, h3, if_true, if_neg h1, if_pos h2, Bool.false_eq_true, if_false]
              · have h3 : decide (l[i].f1 = key) = false := decide_eq_false (fun x => h2 x.symm)
                simp only [Bool.not_false, Bool.true_and, decide_eq_false h1, Bool.false_or, h3, if_neg h1, if_neg h2, Bool.false_eq_true, if_false]
        · rw [if_neg p2, if_neg p2]
          cases isN l[i].f2 l[i].f3 ann <;> simp
    by_cases hf : fineE p key ann l[i] = true
    · exact Ev.step (fun k => by rw [hs, if_pos hf]) (goD hf)
    · exact Ev.step (fun k => by rw [hs, if_neg hf]) (goK (Bool.eq_false_iff.2 hf))
theorem s_SplitEntries (p key : Int) (l : List S25) (ann : List Int) (hl : l.length ≤ 1048576) (ha : ann.length ≤ 1048576) : Ev (fun k => spec_SplitEntries.f k p key l ann) (splitE p key ann l) := s_SplitEntries_l p key ann ha l hl l.length 0 [] [] (by omega) (by simp) (by simp)
theorem i_SplitEntries (p key : Int) (l : List S25) (ann : List Int) (hl : l.length ≤ 1048576) (ha : ann.length ≤ 1048576) : Ev (fun k => impl_SplitEntries.f k p key l ann) (splitE p key ann l) := i_SplitEntries_l p key ann ha l hl l.length 0 [] [] (by omega) (by simp) (by simp)
theorem splitE_len (p key : Int) (ann : List Int) (l : List S25) : (splitE p key ann l).1.length + (splitE p key ann l).2.length = l.length := by
  induction l with
  | nil => rfl
  | cons e l ih =>
    unfold splitE at ih ⊢
    cases h : fineE p key ann e with
    | true =>
      rw [List.filter_cons_of_neg (by simp [h]), List.filter_cons_of_pos (by simp [h])]
      simp only [List.length_cons]
      simp only at ih
      omega
    | false =>
      rw [List.filter_cons_of_pos (by simp [h]), List.filter_cons_of_neg (by simp [h])]
      simp only [List.length_cons]
      simp only at ih
      omega

def toE (e : S23) : S25 := ⟨e.f0, e.f1, e.f2, e.f3⟩
theorem rdL_eq (l : List S23) (i : Nat) (h : i < l.length) : rd_T23 l (i : Int) = l[i] := by
  unfold rd_T23
  rw [show ((i : Int)).toNat = i by omega, List.getD_eq_getElem?_getD, List.getElem?_eq_getElem h]
  rfl
theorem toEntryS_l (l : List S23) (hl : l.length ≤ 1048576) (d : Nat) : ∀ i : Nat, i + d = l.length → Ev (fun k => laws_toEntryS.l0 k l ((l.map toE).take i ++ List.replicate d z25) i) (l.map toE) := by
  induction d with
  | zero =>
    intro i hi
    refine Ev.step (f := fun _ => some _) (fun k => ?_) (Ev.now _)
    simp only [laws_toEntryS.l0]
    rw [if_neg (by omega), List.take_of_length_le (by simp; omega)]
    simp
  | succ d ih =>
    intro i hi
    refine Ev.step (fun k => ?_) (ih (i + 1) (by omega))
    have hlen : ((l.map toE).take i).length = i := by rw [List.length_take, List.length_map]; omega
    simp only [laws_toEntryS.l0, laws_toEntry.f, Option.bind_some]
    rw [if_pos (by omega), if_pos (by omega), if_pos (by rw [List.length_append, hlen, List.length_replicate]; omega), w64 (by omega) (by omega), rdL_eq l i (by omega)]
    congr 1
    rw [show ((i : Int)).toNat = i by omega, List.set_append_right _ _ (by omega), hlen, List.take_succ_eq_append_getElem (by simp; omega), List.append_assoc]
    simp [List.replicate_succ, toE]
theorem toEntryS (l : List S23) (hl : l.length ≤ 1048576) : Ev (fun k => laws_toEntryS.f k l) (l.map toE) := by
  unfold laws_toEntryS.f
  simp only [if_pos (show 0 ≤ (l.length : Int) by omega), if_pos (show ((l.length : Int)).toNat ≤ 8796093022208 by omega)]
  exact toEntryS_l l hl l.length 0 (by omega)
theorem eqEntryS_l (l : List S25) (hl : l.length ≤ 1048576) (d : Nat) : ∀ i : Nat, i + d = l.length → Ev (fun k => laws_eqEntryS.l0 k l l i) true := by
  induction d with
  | zero =>
    intro i hi
    refine Ev.step (f := fun _ => some true) (fun k => ?_) (Ev.now _)
    simp only [laws_eqEntryS.l0]
    rw [if_neg (by omega)]
  | succ d ih =>
    intro i hi
    refine Ev.step (fun k => ?_) (ih (i + 1) (by omega))
    simp only [laws_eqEntryS.l0, laws_eqEntry.f, if_true, Option.bind_some]
    rw [if_pos (by omega), if_pos (by omega), w64 (by omega) (by omega), if_pos (by omega)]
    rfl
theorem eqEntryS_refl (l : List S25) (hl : l.length ≤ 1048576) : Ev (fun k => laws_eqEntryS.f k l l) true := by
  unfold laws_eqEntryS.f
  simp only [if_true]
  exact eqEntryS_l l hl l.length 0 (by omega)

def seqE (a : Int) (n : Nat) : List S25 := (List.range n).map fun (j : Nat) => ⟨a + 4 * (j : Int), a + 4 * (j : Int) + 1, a + 4 * (j : Int) + 2, a + 4 * (j : Int) + 3⟩
theorem seqE_len (a : Int) (n : Nat) : (seqE a n).length = n := by simp [seqE]
theorem seqE_succ (a : Int) (n : Nat) : seqE a (n + 1) = seqE a n ++ [⟨a + 4 * (n : Int), a + 4 * (n : Int) + 1, a + 4 * (n : Int) + 2, a + 4 * (n : Int) + 3⟩] := by simp [seqE, List.range_succ]
theorem rd_seqE (a : Int) (n i : Nat) (h : i < n) : rd_T25 (seqE a n) (i : Int) = ⟨a + 4 * (i : Int), a + 4 * (i : Int) + 1, a + 4 * (i : Int) + 2, a + 4 * (i : Int) + 3⟩ := by
  rw [rdT_eq _ _ (by rw [seqE_len]; exact h)]
  simp [seqE]
theorem rd_set (l : List S25) (i : Nat) (h : i < l.length) (x : S25) : rd_T25 (l.set i x) (i : Int) = x := by
  rw [rdT_eq _ _ (by simpa using h)]
  simp
theorem markEntryS_l (l : List S25) (hl : l.length ≤ 1048576) (a : Int) (h0 : 0 ≤ a) (h1 : a ≤ 4611686018427387904) (d : Nat) : ∀ i : Nat, i + d = l.length →
    Ev (fun k => laws_markEntryS.l0 k (seqE a i ++ l.drop i) (a + 4 * (i : Int)) i) (a + 4 * (l.length : Int), seqE a l.length) := by
  induction d with
  | zero =>
    intro i hi
    refine Ev.step (f := fun _ => some _) (fun k => ?_) (Ev.now _)
    simp only [laws_markEntryS.l0]
    rw [if_neg (by rw [List.length_append, seqE_len, List.length_drop]; omega), List.drop_eq_nil_of_le (by omega), List.append_nil, show i = l.length by omega]
  | succ d ih =>
    intro i hi
    refine Ev.step (fun k => ?_) (ih (i + 1) (by omega))
    have hlen : i < (seqE a i ++ l.drop i).length := by rw [List.length_append, seqE_len, List.length_drop]; omega
    have hst : ∀ x : S25, (seqE a i ++ l.drop i).set i x = seqE a i ++ (x :: l.drop (i + 1)) := by
      intro x
      rw [List.set_append_right _ _ (by rw [seqE_len]; omega), seqE_len, Nat.sub_self, List.drop_eq_getElem_cons (by omega), List.set_cons_zero]
    simp only [laws_markEntryS.l0, Option.bind_some, show ((i : Int)).toNat = i by omega, List.set_set, rd_set _ _ hlen]
    rw [if_pos (by rw [List.length_append, seqE_len, List.length_drop]; omega), if_pos (by omega)]
    have e1 : wrap64 (a + 4 * (i : Int) + 1) = a + 4 * (i : Int) + 1 := w64 (by omega) (by omega)
    have e2 : wrap64 (a + 4 * (i : Int) + 1 + 1) = a + 4 * (i : Int) + 2 := by rw [w64 (by omega) (by omega)]; omega
    have e3 : wrap64 (a + 4 * (i : Int) + 2 + 1) = a + 4 * (i : Int) + 3 := by rw [w64 (by omega) (by omega)]; omega
    have e4 : wrap64 (a + 4 * (i : Int) + 3 + 1) = a + 4 * ((i + 1 : Nat) : Int) := by rw [w64 (by omega) (by omega)]; omega
    have e5 : wrap64 ((i : Int) + 1) = ((i + 1 : Nat) : Int) := by rw [w64 (by omega) (by omega)]; rfl
    simp only [e1, e2, e3, e4, e5, hst, seqE_succ, List.append_assoc]
    rfl
theorem markEntryS (l : List S25) (hl : l.length ≤ 1048576) (a : Int) (h0 : 0 ≤ a) (h1 : a ≤ 4611686018427387904) : Ev (fun k => laws_markEntryS.f k l a) (a + 4 * (l.length : Int), seqE a l.length) := by
  have := markEntryS_l l hl a h0 h1 l.length 0 (by omega)
  simpa [laws_markEntryS.f, seqE] using this
theorem heldEntryS_l (n : Nat) (hl : n ≤ 1048576) (a : Int) (h0 : 0 ≤ a) (h1 : a ≤ 4611686018427387904) (d : Nat) : ∀ i : Nat, i + d = n →
    Ev (fun k => laws_heldEntryS.l0 k (seqE a n) (a + 4 * (i : Int)) i) (a + 4 * (n : Int)) := by
  induction d with
  | zero =>
    intro i hi
    refine Ev.step (f := fun _ => some _) (fun k => ?_) (Ev.now _)
    simp only [laws_heldEntryS.l0]
    rw [if_neg (by rw [seqE_len]; omega), show i = n by omega]
  | succ d ih =>
    intro i hi
    refine Ev.step (fun k => ?_) (ih (i + 1) (by omega))
    have e1 : wrap64 (a + 4 * (i : Int) + 1) = a + 4 * (i : Int) + 1 := w64 (by omega) (by omega)
    have e2 : wrap64 (a + 4 * (i : Int) + 1 + 1) = a + 4 * (i : Int) + 2 := by rw [w64 (by omega) (by omega)]; omega
    have e3 : wrap64 (a + 4 * (i : Int) + 2 + 1) = a + 4 * (i : Int) + 3 := by rw [w64 (by omega) (by omega)]; omega
    have e4 : wrap64 (a + 4 * (i : Int) + 3 + 1) = a + 4 * ((i + 1 : Nat) : Int) := by rw [w64 (by omega) (by omega)]; omega
    have e5 : wrap64 ((i : Int) + 1) = ((i + 1 : Nat) : Int) := by rw [w64 (by omega) (by omega)]; rfl
    simp only [laws_heldEntryS.l0, rd_seqE a n i (by omega), e1, e2, e3, e4, e5, if_true]
    rw [if_pos (by rw [seqE_len]; omega), if_pos (by omega)]
theorem heldEntryS (n : Nat) (hl : n ≤ 1048576) (a : Int) (h0 : 0 ≤ a) (h1 : a ≤ 4611686018427387904) : Ev (fun k => laws_heldEntryS.f k (seqE a n) a) (a + 4 * (n : Int)) := by
  have := heldEntryS_l n hl a h0 h1 n 0 (by omega)
  simpa [laws_heldEntryS.f] using this

theorem toIntS_l (l : List Int) (hl : l.length ≤ 1048576) (d : Nat) : ∀ i : Nat, i + d = l.length → Ev (fun k => laws_toIntS.l0 k l (l.take i ++ List.replicate d 0) i) l := by
  induction d with
  | zero =>
    intro i hi
    refine Ev.step (f := fun _ => some l) (fun k => ?_) (Ev.now _)
    simp only [laws_toIntS.l0]
    rw [if_neg (by omega), List.take_of_length_le (by omega)]
    simp
  | succ d ih =>
    intro i hi
    refine Ev.step (fun k => ?_) (ih (i + 1) (by omega))
    simp only [laws_toIntS.l0]
    have hlen : (l.take i).length = i := by rw [List.length_take]; omega
    rw [if_pos (by omega), if_pos (by omega), if_pos (by rw [List.length_append, hlen, List.length_replicate]; omega), w64 (by omega) (by omega), rd_eq l i (by omega)]
    congr 1
    rw [show ((i : Int)).toNat = i by omega, List.set_append_right _ _ (by omega), hlen, List.take_succ_eq_append_getElem (by omega), List.append_assoc]
    simp [List.replicate_succ]
theorem toIntS (l : List Int) (hl : l.length ≤ 1048576) : Ev (fun k => laws_toIntS.f k l) l := by
  unfold laws_toIntS.f
  simp only [if_pos (show 0 ≤ (l.length : Int) by omega), if_pos (show ((l.length : Int)).toNat ≤ 35184372088832 by omega)]
  exact toIntS_l l hl l.length 0 (by omega)

theorem eqIntS_l (l : List Int) (hl : l.length ≤ 1048576) (d : Nat) : ∀ i : Nat, i + d = l.length → Ev (fun k => laws_eqIntS.l0 k l l i) true := by
  induction d with
  | zero =>
    intro i hi
    refine Ev.step (f := fun _ => some true) (fun k => ?_) (Ev.now _)
    simp only [laws_eqIntS.l0]
    rw [if_neg (by omega)]
  | succ d ih =>
    intro i hi
    refine Ev.step (fun k => ?_) (ih (i + 1) (by omega))
    simp only [laws_eqIntS.l0, if_true]
    rw [if_pos (by omega), if_pos (by omega), w64 (by omega) (by omega), if_pos (by omega)]
    rfl
theorem eqIntS_refl (l : List Int) (hl : l.length ≤ 1048576) : Ev (fun k => laws_eqIntS.f k l l) true := by
  unfold laws_eqIntS.f
  simp only [if_true]
  exact eqIntS_l l hl l.length 0 (by omega)

def seqL (a : Int) (n : Nat) : List Int := (List.range n).map fun (j : Nat) => a + (j : Int)
theorem seqL_len (a : Int) (n : Nat) : (seqL a n).length = n := by simp [seqL]
theorem seqL_succ (a : Int) (n : Nat) : seqL a (n + 1) = seqL a n ++ [a + (n : Int)] := by simp [seqL, List.range_succ]
theorem rd_seqL (a : Int) (n i : Nat) (h : i < n) : rd (seqL a n) (i : Int) = a + (i : Int) := by
  rw [rd_eq _ _ (by rw [seqL_len]; exact h)]
  simp [seqL]
theorem markIntS_l (l : List Int) (hl : l.length ≤ 1048576) (a : Int) (h0 : 0 ≤ a) (h1 : a ≤ 4611686018427387904) (d : Nat) : ∀ i : Nat, i + d = l.length →
    Ev (fun k => laws_markIntS.l0 k (seqL a i ++ l.drop i) (a + (i : Int)) i) (a + (l.length : Int), seqL a l.length) := by
  induction d with
  | zero =>
    intro i hi
    refine Ev.step (f := fun _ => some _) (fun k => ?_) (Ev.now _)
    simp only [laws_markIntS.l0]
    rw [if_neg (by rw [List.length_append, seqL_len, List.length_drop]; omega), List.drop_eq_nil_of_le (by omega), List.append_nil, show i = l.length by omega]
  | succ d ih =>
    intro i hi
    refine Ev.step (fun k => ?_) (ih (i + 1) (by omega))
    simp only [laws_markIntS.l0]
    rw [if_pos (by rw [List.length_append, seqL_len, List.length_drop]; omega), if_pos (by omega), w64 (x := a + (i : Int) + 1) (by omega) (by omega), w64 (x := (i : Int) + 1) (by omega) (by omega)]
    congr 1
    · rw [show ((i : Int)).toNat = i by omega, List.set_append_right _ _ (by rw [seqL_len]; omega), seqL_len, Nat.sub_self, List.drop_eq_getElem_cons (by omega), List.set_cons_zero, seqL_succ, List.append_assoc]
      rfl
    · omega
theorem markIntS (l : List Int) (hl : l.length ≤ 1048576) (a : Int) (h0 : 0 ≤ a) (h1 : a ≤ 4611686018427387904) : Ev (fun k => laws_markIntS.f k l a) (a + (l.length : Int), seqL a l.length) := by
  have := markIntS_l l hl a h0 h1 l.length 0 (by omega)
  simpa [laws_markIntS.f, seqL] using this

theorem FnExactSplitEntries : ∀ (p key : Int) (l : List S23) (ann : List Int), (Lit.int .i64 p).wf = true → (Lit.int .i64 key).wf = true → l.length ≤ maxLen → (∀ x ∈ l, (Lit.int .i64 x.f0).wf = true ∧ (Lit.int .i64 x.f1).wf = true ∧ (Lit.int .i64 x.f2).wf = true ∧ (Lit.int .i64 x.f3).wf = true) → ann.length ≤ maxLen → (∀ x ∈ ann, (Lit.int .i64 x).wf = true) → ∃ k, laws_FnExactSplitEntries.f k p key l ann = some true := by
  intro p key l ann _ _ hlm _ _ _
  unfold maxLen at hlm
  unfold laws_FnExactSplitEntries.f laws_szEntryS.f
  by_cases h : (ann.length : Int) > 1048576
  · exact ⟨0, by rw [if_pos h]⟩
  · have ha : ann.length ≤ 1048576 := by omega
    simp only [if_neg h]
    rw [w64 (x := 1048576 - (l.length : Int)) (by omega) (by omega)]
    by_cases h2 : 1048576 - (l.length : Int) < 0
    · exact ⟨0, by rw [if_pos h2]; rfl⟩
    · have hl : l.length ≤ 1048576 := by omega
      simp only [if_neg h2, Option.bind_some]
      have hm : (l.map toE).length ≤ 1048576 := by simpa using hl
      refine (Ev.bind (toEntryS l hl) ?_).rounds
      refine Ev.bind (toIntS ann ha) ?_
      refine Ev.bind (s_SplitEntries p key _ ann hm ha) ?_
      refine Ev.bind (toEntryS l hl) ?_
      refine Ev.bind (toIntS ann ha) ?_
      refine Ev.bind (i_SplitEntries p key _ ann hm ha) ?_
      have hs := splitE_len p key ann (l.map toE)
      have hi := i_SplitEntries p key _ ann hm ha
      generalize hR : splitE p key ann (l.map toE) = R at hs hi
      have r1 : R.1.length ≤ 1048576 := by omega
      have r2 : R.2.length ≤ 1048576 := by omega
      refine Ev.bind (eqEntryS_refl R.1 r1) ?_
      simp only [if_true]
      refine Ev.bind (eqEntryS_refl R.2 r2) ?_
      simp only [Bool.not_true]
      refine Ev.step (fun k => by simp only [laws_FnExactSplitEntries.j0]; rw [if_neg (by simp)]) ?_
      refine Ev.bind (toEntryS l hl) ?_
      refine Ev.bind (eqEntryS_refl _ hm) ?_
      simp only [if_true]
      refine Ev.bind (toIntS ann ha) ?_
      refine Ev.bind (eqIntS_refl ann ha) ?_
      simp only [if_true]
      refine Ev.bind (markEntryS _ hm 1 (by omega) (by omega)) ?_
      refine Ev.bind (markIntS ann ha _ (by omega) (by omega)) ?_
      simp only [if_neg (show ¬ (1 + 4 * ((l.map toE).length : Int) + (ann.length : Int) < 0) by omega)]
      refine Ev.bind (eqEntryS_refl R.1 r1) ?_
      simp only [if_true]
      refine Ev.bind (eqEntryS_refl R.2 r2) ?_
      simp only [Bool.not_true]
      refine Ev.step (fun k => by simp only [laws_FnExactSplitEntries.j1]; rw [if_neg (by simp)]) ?_
      refine Ev.bind (markEntryS R.1 r1 1 (by omega) (by omega)) ?_
      refine Ev.bind (markEntryS R.2 r2 _ (by omega) (by omega)) ?_
      refine Ev.bind (heldEntryS R.1.length r1 1 (by omega) (by omega)) ?_
      simp only [if_neg (show ¬ (1 + 4 * (R.1.length : Int) < 0) by omega)]
      refine Ev.bind (heldEntryS R.2.length r2 _ (by omega) (by omega)) ?_
      simp only [if_neg (show ¬ (1 + 4 * (R.1.length : Int) + 4 * (R.2.length : Int) < 0) by omega), if_true]
      refine Ev.bind (toEntryS l hl) ?_
      refine Ev.bind (toIntS ann ha) ?_
      refine Ev.bind hi ?_
      refine Ev.bind (eqEntryS_refl R.1 r1) ?_
      simp only [if_true]
      refine Ev.bind (eqEntryS_refl R.2 r2) ?_
      simp only [Bool.not_true]
      refine Ev.step (fun k => by simp only [laws_FnExactSplitEntries.j2]; rw [if_neg (by simp)]) ?_
      refine Ev.bind (heldEntryS R.1.length r1 1 (by omega) (by omega)) ?_
      simp only [if_neg (show ¬ (1 + 4 * (R.1.length : Int) < 0) by omega)]
      refine Ev.bind (heldEntryS R.2.length r2 _ (by omega) (by omega)) ?_
      simp only [if_neg (show ¬ (1 + 4 * (R.1.length : Int) + 4 * (R.2.length : Int) < 0) by omega), if_true]
      exact Ev.now _

end Go.Proofs.Ytlbbnepkdhlgmab.Pure
