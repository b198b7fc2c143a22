/- The pure side of FnExactFormatHandle: the program's FormatHandle answers what the reference's does, for every number. No condition. -/
import Derived.Test.YtbenihcaleiacaaDoorGFnExactFormatHandlex2
import Derived.OpenShut
import Derived.Laws.BitsLemmas
set_option linter.unusedVariables false
set_option linter.unusedSimpArgs false
namespace Go.Proofs.YtbenihcaleiacaaDoor.Pure
open Go.RowKit Go.Proofs.YtbenihcaleiacaaDoor.GFnExactFormatHandle Go.Proofs.YtbenihcaleiacaaDoorW.PrintWords Go.Proofs.YtbenihcaleiacaaDoorW.PrintLast

theorem w64 {x : Int} (h : -9223372036854775808 ≤ x) (h' : x ≤ 9223372036854775807) : wrap64 x = x := by unfold wrap64; omega
theorem tdiv_pos {x y : Int} (h : 0 ≤ x) : Int.tdiv x y = x / y := Int.tdiv_eq_ediv_of_nonneg h
theorem tmod_pos {x y : Int} (h : 0 ≤ x) : Int.tmod x y = x % y := Int.tmod_eq_emod_of_nonneg h
theorem eq_strs {g w : Option ByteArray} {r : ByteArray} (h1 : w = some r) (h2 : g = some r) : (w.bind fun t => g.bind fun u => if u.toList = t.toList then some true else some false) = some true := by
  subst h1; subst h2; simp
theorem eq_ints {g w : Option Int} {r : Int} (h1 : w = some r) (h2 : g = some r) : (w.bind fun t => g.bind fun u => if u = t then some true else some false) = some true := by
  subst h1; subst h2; simp
theorem eq_bools {g w : Option Bool} {r : Bool} (h1 : w = some r) (h2 : g = some r) : (w.bind fun t => g.bind fun u => if (u != t) = true then some false else some true) = some true := by
  subst h1; subst h2; simp
theorem ev_strs {g w : Nat → Option ByteArray} {r : ByteArray} (h1 : Ev w r) (h2 : Ev g r) : ∃ k, ((w k).bind fun t => (g k).bind fun u => if u.toList = t.toList then some true else some false) = some true := by
  obtain ⟨K, h1⟩ := h1
  obtain ⟨L, h2⟩ := h2
  exact ⟨max K L, eq_strs (h1 _ (by omega)) (h2 _ (by omega))⟩
theorem ev2 {α β : Type} {g : Nat → Option α} {f : Nat → Option β} {a : α} {b : β} {F : α → β → Option Bool} (hg : Ev g a) (hf : Ev f b) (h : F a b = some true) : ∃ k, ((g k).bind fun t => (f k).bind fun u => F t u) = some true :=
  (Ev.bind hg (Ev.bind hf ⟨0, fun _ _ => h⟩)).rounds
theorem rd_eq (l : List Int) (i : Nat) (h : i < l.length) : rd l (i : Int) = l[i] := by
  unfold rd
  rw [show ((i : Int)).toNat = i by omega, List.getD_eq_getElem?_getD, List.getElem?_eq_getElem h]
  rfl

def bs (l : List UInt8) : ByteArray := ⟨l.toArray⟩
theorem bs_append (a b : List UInt8) : bs (a ++ b) = bs a ++ bs b := by
  apply ByteArray.ext
  rw [ByteArray.data_append]
  simp [bs]
theorem bs_nil : bs [] = ByteArray.empty := rfl
theorem bs_data (s : ByteArray) : bs s.data.toList = s := by
  apply ByteArray.ext
  simp [bs]
theorem bs_toList (l : List UInt8) : (bs l).data.toList = l := by simp [bs]
theorem bs_size (l : List UInt8) : (bs l).size = l.length := by
  show l.toArray.size = l.length
  simp
theorem bs_inj {a b : List UInt8} (h : bs a = bs b) : a = b := by rw [← bs_toList a, ← bs_toList b, h]
def dec (n : Int) : ByteArray := bs (Lib.itoa n)
def dg (m : Nat) : List UInt8 := if m = 0 then [] else Lib.decDigits m
theorem decD_step (m : Nat) : Lib.decDigits m = dg (m / 10) ++ [UInt8.ofNat (48 + m % 10)] := by
  rw [Lib.decDigits]
  unfold dg
  by_cases h : m < 10
  · rw [dif_pos h, if_pos (by omega), show m % 10 = m by omega]
    rfl
  · rw [dif_neg h, if_neg (by omega)]
theorem dg_step (m : Nat) (h : 0 < m) : dg m = dg (m / 10) ++ [UInt8.ofNat (48 + m % 10)] := by
  rw [← decD_step]
  unfold dg
  rw [if_neg (by omega)]
theorem dg_len (f : Nat) : ∀ m : Nat, m < 10 ^ f → (dg m).length ≤ f := by
  induction f with
  | zero =>
    intro m h
    have : m = 0 := by omega
    subst this
    simp [dg]
  | succ f ih =>
    intro m h
    rcases Nat.eq_zero_or_pos m with h0 | h0
    · subst h0
      simp [dg]
    · rw [dg_step m h0, List.length_append]
      have := ih (m / 10) (by rw [Nat.pow_succ] at h; omega)
      simp
      omega
theorem decD_digit (m : Nat) : ∀ c ∈ Lib.decDigits m, 48 ≤ c.toNat ∧ c.toNat ≤ 57 := by
  induction m using Nat.strongRecOn with
  | ind m ih =>
    intro c hc
    rw [decD_step] at hc
    rcases List.mem_append.1 hc with h | h
    · unfold dg at h
      by_cases h0 : m / 10 = 0
      · rw [if_pos h0] at h
        cases h
      · rw [if_neg h0] at h
        exact ih (m / 10) (by omega) c h
    · rw [List.mem_singleton] at h
      subst h
      simp only [UInt8.toNat_ofNat']
      omega
theorem decD_ne (m : Nat) : Lib.decDigits m ≠ [] := by rw [decD_step]; simp
theorem dec_neg (n : Int) (h : n < 0) : dec n = bs (45 :: Lib.decDigits n.natAbs) := by unfold dec Lib.itoa; rw [if_pos h]
theorem dec_pos (n : Int) (h : ¬ n < 0) : dec n = bs (Lib.decDigits n.toNat) := by unfold dec Lib.itoa; rw [if_neg h]
theorem dec_small (n : Int) (h : -9223372036854775808 ≤ n) (h2 : n ≤ 9223372036854775807) : (dec n).size ≤ 30 := by
  have hl : ∀ m : Nat, m ≤ 9223372036854775808 → (Lib.decDigits m).length ≤ 21 := by
    intro m hm
    rw [decD_step, List.length_append]
    have := dg_len 20 (m / 10) (by omega)
    simp
    omega
  by_cases h0 : n < 0
  · rw [dec_neg n h0, bs_size, List.length_cons]
    have := hl n.natAbs (by omega)
    omega
  · rw [dec_pos n h0, bs_size]
    have := hl n.toNat (by omega)
    omega

theorem tmod_n (m : Nat) : Int.tmod (-(m : Int)) 10 = -((m % 10 : Nat) : Int) := by
  rw [Int.neg_tmod, tmod_pos (by omega)]
  omega
theorem tdiv_n (m : Nat) : Int.tdiv (-(m : Int)) 10 = -((m / 10 : Nat) : Int) := by
  rw [Int.neg_tdiv, tdiv_pos (by omega)]
  omega
theorem s_FormatInt_z (neg : Bool) (out : ByteArray) (ho : out.size ≤ 200) : Ev (fun k => spec_FormatInt.l0 k 0 out neg) ((if neg = true then bs [45] else bs []) ++ (bs (dg 0) ++ out)) := by
  have e : bs (dg 0) ++ out = out := by
    show bs [] ++ out = out
    rw [bs_nil, ByteArray.empty_append]
  rw [e]
  refine Ev.step (f := fun _ => some _) (fun k => ?_) (Ev.now _)
  simp only [spec_FormatInt.l0, if_true]
  cases neg with
  | true =>
    rw [if_pos rfl, if_pos rfl, if_pos (by omega)]
    rfl
  | false =>
    rw [if_neg (by decide), if_neg (by decide), bs_nil, ByteArray.empty_append]
theorem s_FormatInt_l (neg : Bool) (f : Nat) : ∀ (m : Nat) (x : Int) (out : ByteArray), (x = (m : Int) ∨ x = -(m : Int)) → m < 10 ^ f → m ≤ 9223372036854775808 → out.size + f ≤ 100 →
    Ev (fun k => spec_FormatInt.l0 k x out neg) ((if neg = true then bs [45] else bs []) ++ (bs (dg m) ++ out)) := by
  induction f with
  | zero =>
    intro m x out hx hm hm2 ho
    have h0 : m = 0 := by omega
    subst h0
    have hx0 : x = 0 := by omega
    subst hx0
    exact s_FormatInt_z neg out (by omega)
  | succ f ih =>
    intro m x out hx hm hm2 ho
    rcases Nat.eq_zero_or_pos m with h0 | h0
    · subst h0
      have hx0 : x = 0 := by omega
      subst hx0
      exact s_FormatInt_z neg out (by omega)
    · rw [dg_step m h0, bs_append, ByteArray.append_assoc]
      have hsz : (bs [UInt8.ofNat (48 + m % 10)] ++ out).size = 1 + out.size := by rw [ByteArray.size_append, bs_size]; rfl
      have hn : strOfNums [((48 + (m % 10 : Nat) : Nat) : Int)] = bs [UInt8.ofNat (48 + m % 10)] := by
        unfold strOfNums bs
        rfl
      have goal : ∀ x', (x' = ((m / 10 : Nat) : Int) ∨ x' = -((m / 10 : Nat) : Int)) → Ev (fun k => spec_FormatInt.l0 k x' (bs [UInt8.ofNat (48 + m % 10)] ++ out) neg) ((if neg = true then bs [45] else bs []) ++ (bs (dg (m / 10)) ++ (bs [UInt8.ofNat (48 + m % 10)] ++ out))) :=
        fun x' hx' => ih (m / 10) x' _ hx' (by rw [Nat.pow_succ] at hm; omega) (by omega) (by rw [hsz]; omega)
      rcases hx with hx | hx
      · subst hx
        refine Ev.step (fun k => ?_) (goal ((m / 10 : Nat) : Int) (.inl rfl))
        simp only [spec_FormatInt.l0, Option.bind_some]
        rw [if_neg (by omega), tmod_pos (show (0 : Int) ≤ (m : Int) by omega), tdiv_pos (show (0 : Int) ≤ (m : Int) by omega), if_neg (by omega), w64 (x := 48 + (m : Int) % 10) (by omega) (by omega), w64 (x := (m : Int) / 10) (by omega) (by omega),
          show (48 + (m : Int) % 10) % 256 = ((48 + (m % 10 : Nat) : Nat) : Int) by omega, hn, if_pos (by rw [bs_size]; simp; omega)]
        rfl
      · subst hx
        refine Ev.step (fun k => ?_) (goal (-((m / 10 : Nat) : Int)) (.inr rfl))
        simp only [spec_FormatInt.l0, Option.bind_some]
        rw [if_neg (by omega), tmod_n, tdiv_n]
        by_cases hz : m % 10 = 0
        · rw [if_neg (by omega), w64 (x := 48 + -((m % 10 : Nat) : Int)) (by omega) (by omega), w64 (x := -((m / 10 : Nat) : Int)) (by omega) (by omega),
            show (48 + -((m % 10 : Nat) : Int)) % 256 = ((48 + (m % 10 : Nat) : Nat) : Int) by omega, hn, if_pos (by rw [bs_size]; simp; omega)]
        · rw [if_pos (by omega), w64 (x := -(-((m % 10 : Nat) : Int))) (by omega) (by omega), w64 (x := 48 + -(-((m % 10 : Nat) : Int))) (by omega) (by omega), w64 (x := -((m / 10 : Nat) : Int)) (by omega) (by omega),
            show (48 + -(-((m % 10 : Nat) : Int))) % 256 = ((48 + (m % 10 : Nat) : Nat) : Int) by omega, hn, if_pos (by rw [bs_size]; simp; omega)]
theorem s_FormatInt (n : Int) (h : -9223372036854775808 ≤ n) (h2 : n ≤ 9223372036854775807) : Ev (fun k => spec_FormatInt.f k n) (dec n) := by
  unfold spec_FormatInt.f
  by_cases h0 : n = 0
  · simp only [if_pos h0]
    subst h0
    have e : dec 0 = (⟨#[48]⟩ : ByteArray) := by
      rw [dec_pos 0 (by omega), show (0 : Int).toNat = 0 by rfl, decD_step]
      rfl
    rw [e]
    exact Ev.now _
  · simp only [if_neg h0]
    have key := s_FormatInt_l (decide (n < 0)) 20 n.natAbs n ⟨#[]⟩ (by omega) (by omega) (by omega) (by simp [ByteArray.size])
    have e : (if decide (n < 0) = true then bs [45] else bs []) ++ (bs (dg n.natAbs) ++ (⟨#[]⟩ : ByteArray)) = dec n := by
      rw [show (⟨#[]⟩ : ByteArray) = bs [] from rfl, ← bs_append, List.append_nil]
      have hd : dg n.natAbs = Lib.decDigits n.natAbs := by unfold dg; rw [if_neg (by omega)]
      by_cases hn : n < 0
      · rw [if_pos (by simpa using hn), dec_neg n hn, ← bs_append, hd]
        rfl
      · rw [if_neg (by simpa using hn), dec_pos n hn, ← bs_append, hd, show n.natAbs = n.toNat by omega]
        rfl
    rw [e] at key
    exact key

theorem lsz (l : List UInt8) : (ByteArray.mk l.toArray).size = l.length := by simp [ByteArray.size]
theorem lsz0 : (⟨#[]⟩ : ByteArray).size = 0 := rfl
theorem eapp (s : ByteArray) : (⟨#[]⟩ : ByteArray) ++ s = s := ByteArray.empty_append
theorem appe (s : ByteArray) : s ++ (⟨#[]⟩ : ByteArray) = s := ByteArray.append_empty
theorem dec30 {n : Int} (h : -9223372036854775808 ≤ n) (h2 : n ≤ 9223372036854775807) : (dec n).size ≤ 30 := dec_small n h h2
theorem ifle {α : Type} {n : Nat} {x y : α} (h : n ≤ 9223372036854775807) : (if n ≤ 9223372036854775807 then x else y) = x := if_pos h

def isH (h : Int) : Prop := 2 ≤ h ∧ h / 2 % 64 ≠ 0 ∧ h / 2 / 64 ≤ 9999
instance (h : Int) : Decidable (isH h) := by unfold isH; infer_instance
theorem s_IsHandle (h : Int) (h1 : h ≤ 9223372036854775807) : spec_IsHandle.f h = some (decide (isH h)) := by
  unfold spec_IsHandle.f isH
  by_cases h2 : h > 1
  · rw [if_pos h2, tdiv_pos (by omega), w64 (by omega) (by omega), tmod_pos (by omega), tdiv_pos (by omega), w64 (by omega) (by omega)]
    by_cases h3 : h / 2 % 64 > 0
    · rw [if_pos h3]
      congr 1
      exact decide_eq_decide.2 (by omega)
    · rw [if_neg h3]
      exact congrArg some (decide_eq_false (by omega)).symm
  · rw [if_neg h2]
    exact congrArg some (decide_eq_false (by omega)).symm

theorem i_parts (h : Int) (h1 : h ≤ 9223372036854775807) : impl_parts.f h = some (if isH h then (h / 2 % 64 - 1, h / 2 / 64, true) else (-1, -1, false)) := by
  unfold impl_parts.f
  by_cases h2 : h < 2
  · rw [if_pos h2, if_neg (by unfold isH; omega)]
  · rw [if_neg h2, tdiv_pos (by omega), w64 (x := h / 2) (by omega) (by omega), w64 (x := h / 2 - 1) (by omega) (by omega), tmod_pos (by omega), tdiv_pos (by omega), w64 (by omega) (by omega)]
    by_cases h3 : isH h
    · rw [if_pos h3]
      unfold isH at h3
      rw [if_neg (by omega), if_neg (by omega)]
      have e1 : (h / 2 - 1) % 64 = h / 2 % 64 - 1 := by omega
      have e2 : (h / 2 - 1) / 64 = h / 2 / 64 := by omega
      rw [e1, e2]
    · rw [if_neg h3]
      unfold isH at h3
      repeat' split
      all_goals first | rfl | omega

def idxOf (h : Int) : Int := if isH h then h / 2 % 64 - 1 else -1
theorem s_IndexOf (h : Int) (h1 : h ≤ 9223372036854775807) : spec_IndexOf.f h = some (idxOf h) := by
  unfold spec_IndexOf.f idxOf
  rw [s_IsHandle h h1]
  simp only [Option.bind_some, decide_eq_true_eq]
  by_cases h3 : isH h
  · have h4 := h3
    unfold isH at h4
    rw [if_pos h3, if_pos h3, tdiv_pos (x := h) (by omega), w64 (x := h / 2) (by omega) (by omega), tmod_pos (x := h / 2) (by omega), w64 (by omega) (by omega)]
  · rw [if_neg h3, if_neg h3]
theorem i_IndexOf (h : Int) (h1 : h ≤ 9223372036854775807) : impl_IndexOf.f h = some (idxOf h) := by
  unfold impl_IndexOf.f idxOf
  rw [i_parts h h1]
  by_cases h2 : isH h <;> simp [h2]

def genOf (h : Int) : Int := if isH h then h / 2 / 64 else -1
theorem s_GenerationOf (h : Int) (h1 : h ≤ 9223372036854775807) : spec_GenerationOf.f h = some (genOf h) := by
  unfold spec_GenerationOf.f genOf
  rw [s_IsHandle h h1]
  simp only [Option.bind_some, decide_eq_true_eq]
  by_cases h3 : isH h
  · have h4 := h3
    unfold isH at h4
    rw [if_pos h3, if_pos h3, tdiv_pos (x := h) (by omega), w64 (x := h / 2) (by omega) (by omega), tdiv_pos (by omega), w64 (by omega) (by omega)]
  · rw [if_neg h3, if_neg h3]
theorem i_GenerationOf (h : Int) (h1 : h ≤ 9223372036854775807) : impl_GenerationOf.f h = some (genOf h) := by
  unfold impl_GenerationOf.f genOf
  rw [i_parts h h1]
  by_cases h2 : isH h <;> simp [h2]

theorem i_IsHandle (h : Int) (h1 : h ≤ 9223372036854775807) : impl_IsHandle.f h = some (decide (isH h)) := by
  unfold impl_IsHandle.f
  rw [i_parts h h1]
  by_cases h2 : isH h <;> simp [h2]

def isM (h : Int) : Prop := h = 1 ∨ isH h ∧ h % 2 = 1
instance (h : Int) : Decidable (isM h) := by unfold isM; infer_instance
theorem s_IsMarked (h : Int) (h1 : h ≤ 9223372036854775807) : spec_IsMarked.f h = some (decide (isM h)) := by
  unfold spec_IsMarked.f isM
  by_cases h2 : h = 1
  · simp [h2]
  · rw [if_neg h2, s_IsHandle h h1]
    simp only [Option.bind_some, decide_eq_true_eq]
    by_cases h3 : isH h
    · rw [if_pos h3, tmod_pos (by unfold isH at h3; omega)]
      by_cases h4 : h % 2 = 1 <;> simp [h2, h3, h4]
    · rw [if_neg h3]
      simp [h2, h3]
theorem i_IsMarked (h : Int) (h1 : h ≤ 9223372036854775807) : impl_IsMarked.f h = some (decide (isM h)) := by
  unfold impl_IsMarked.f isM
  by_cases h2 : h = 1
  · simp [h2]
  · rw [if_neg h2, i_IsHandle h h1]
    simp only [Option.bind_some, decide_eq_true_eq]
    by_cases h3 : isH h
    · rw [if_pos h3, tmod_pos (by unfold isH at h3; omega)]
      by_cases h4 : h % 2 = 1 <;> simp [h2, h3, h4]
    · rw [if_neg h3]
      simp [h2, h3]

def unm (h : Int) : Int := if isM h then h - 1 else h
theorem s_Unmarked (h : Int) (h1 : h ≤ 9223372036854775807) : spec_Unmarked.f h = some (unm h) := by
  unfold spec_Unmarked.f unm
  rw [s_IsMarked h h1]
  simp only [Option.bind_some, decide_eq_true_eq]
  by_cases h2 : isM h
  · have h3 := h2
    unfold isM isH at h3
    rw [if_pos h2, if_pos h2, w64 (by omega) (by omega)]
  · rw [if_neg h2, if_neg h2]

def fhS (h : Int) : ByteArray := if isM h then bs [42] else bs []
def fh (h : Int) : ByteArray := if unm h = 0 then bs [110, 111, 110, 101] ++ fhS h else if isH h then ((dec (idxOf h) ++ bs [46]) ++ dec (genOf h)) ++ fhS h else bs []
theorem fhS_size (h : Int) : (fhS h).size ≤ 1 := by
  unfold fhS
  by_cases m : isM h
  · rw [if_pos m]; exact Nat.le_refl _
  · rw [if_neg m]; exact Nat.zero_le _
theorem idx_b (h : Int) : -1 ≤ idxOf h ∧ idxOf h ≤ 62 := by
  by_cases d : isH h
  · rw [idxOf, if_pos d]; unfold isH at d; omega
  · rw [idxOf, if_neg d]; omega
theorem gen_b (h : Int) : -1 ≤ genOf h ∧ genOf h ≤ 9999 := by
  by_cases d : isH h
  · rw [genOf, if_pos d]; unfold isH at d; omega
  · rw [genOf, if_neg d]; omega
theorem fh_size (h : Int) : (fh h).size ≤ 100 := by
  have h1 := fhS_size h
  have i1 := idx_b h
  have g1 := gen_b h
  have d1 := dec30 (n := idxOf h) (by omega) (by omega)
  have d2 := dec30 (n := genOf h) (by omega) (by omega)
  have e1 : (bs [110, 111, 110, 101]).size = 4 := rfl
  have e2 : (bs [46]).size = 1 := rfl
  have e3 : (bs []).size = 0 := rfl
  unfold fh
  split
  · rw [ByteArray.size_append]; omega
  · split
    · rw [ByteArray.size_append, ByteArray.size_append, ByteArray.size_append]; omega
    · omega
theorem unm_idx (h : Int) : idxOf (unm h) = idxOf h ∧ genOf (unm h) = genOf h ∨ h = 1 := by
  by_cases c : isM h
  · have e : unm h = h - 1 := if_pos c
    have c' := c
    unfold isM at c'
    rcases c' with c1 | ⟨c1, c2⟩
    · exact .inr c1
    · left
      have d2 : isH (h - 1) := by unfold isH at c1 ⊢; omega
      have e2 : (h - 1) / 2 = h / 2 := by omega
      unfold idxOf genOf
      rw [e, if_pos d2, if_pos c1, if_pos d2, if_pos c1, e2]
      exact ⟨rfl, rfl⟩
  · have e : unm h = h := if_neg c
    rw [e]
    exact .inl ⟨rfl, rfl⟩
theorem unm_b (h : Int) (h0 : -9223372036854775808 ≤ h) (h1 : h ≤ 9223372036854775807) : unm h ≤ 9223372036854775807 := by
  by_cases c : isM h
  · rw [unm, if_pos c]; omega
  · rw [unm, if_neg c]; omega
theorem unm_H {h : Int} (d : isH h) : unm h ≠ 0 := by
  unfold isH at d
  by_cases c : isM h
  · rw [unm, if_pos c]; omega
  · rw [unm, if_neg c]; omega
theorem unm_0 {h : Int} (d : ¬ isH h) (z : h ≠ 0) (o : h ≠ 1) : unm h ≠ 0 := by
  by_cases c : isM h
  · unfold isM at c
    rcases c with c | c
    · exact absurd c o
    · exact absurd c.1 d
  · rw [unm, if_neg c]; exact z
theorem s_FormatHandle_j (h : Int) (x3 : ByteArray) (hx : x3.size ≤ 1) (h0 : -9223372036854775808 ≤ h) (h1 : h ≤ 9223372036854775807) :
    Ev (fun k => spec_FormatHandle.j0 k h x3) (if unm h = 0 then bs [110, 111, 110, 101] ++ x3 else if isH h then ((dec (idxOf h) ++ bs [46]) ++ dec (genOf h)) ++ x3 else bs []) := by
  have hu := unm_b h h0 h1
  by_cases c : unm h = 0
  · rw [if_pos c]
    refine Ev.step (f := fun _ => some _) (fun k => ?_) (Ev.now _)
    simp only [spec_FormatHandle.j0, s_Unmarked h h1, Option.bind_some, if_pos c]
    rw [if_pos (by omega)]
    rfl
  · rw [if_neg c]
    by_cases d : isH h
    · rw [if_pos d]
      have hi : idxOf (unm h) = idxOf h ∧ genOf (unm h) = genOf h := by
        rcases unm_idx h with e | e
        · exact e
        · subst e
          exact absurd d (by unfold isH; omega)
      have i1 := idx_b h
      have g1 := gen_b h
      have d1 := dec30 (n := idxOf h) (by omega) (by omega)
      have d2 := dec30 (n := genOf h) (by omega) (by omega)
      refine Ev.step (f := fun k => (spec_FormatInt.f k (idxOf h)).bind fun t115 => if t115.size + 1 ≤ 9223372036854775807 then (spec_FormatInt.f k (genOf h)).bind fun t117 => if (t115 ++ bs [46]).size + t117.size ≤ 9223372036854775807 then if ((t115 ++ bs [46]) ++ t117).size + x3.size ≤ 9223372036854775807 then some (((t115 ++ bs [46]) ++ t117) ++ x3) else none else none else none) (fun k => ?_) (Ev.bind (s_FormatInt (idxOf h) (by omega) (by omega)) ?_)
      · simp only [spec_FormatHandle.j0, s_Unmarked h h1, Option.bind_some, if_neg c, s_IsHandle h h1, decide_eq_true d, if_true, s_IndexOf (unm h) hu, s_GenerationOf (unm h) hu, hi.1, hi.2]
        rfl
      · simp (disch := omega) only [ifle]
        refine Ev.bind (s_FormatInt (genOf h) (by omega) (by omega)) ?_
        simp (disch := omega) only [ifle, ByteArray.size_append, bs_size, List.length_cons, List.length_nil]
        exact Ev.now _
    · rw [if_neg d]
      refine Ev.step (f := fun _ => some _) (fun k => ?_) (Ev.now _)
      simp only [spec_FormatHandle.j0, s_Unmarked h h1, Option.bind_some, if_neg c, s_IsHandle h h1, decide_eq_false d]
      rw [if_neg (by decide)]
      rfl
theorem s_FormatHandle (h : Int) (h0 : -9223372036854775808 ≤ h) (h1 : h ≤ 9223372036854775807) : Ev (fun k => spec_FormatHandle.f k h) (fh h) := by
  unfold spec_FormatHandle.f fh fhS
  simp only [s_IsMarked h h1, Option.bind_some, decide_eq_true_eq]
  by_cases m : isM h
  · simp only [if_pos m]
    exact s_FormatHandle_j h _ (by decide) h0 h1
  · simp only [if_neg m]
    exact s_FormatHandle_j h _ (by decide) h0 h1

theorem i_FormatInt (n : Int) (h : -9223372036854775808 ≤ n) (h2 : n ≤ 9223372036854775807) : impl_FormatInt.f n = some (dec n) := by
  unfold impl_FormatInt.f strconv_Itoa.f
  rw [if_pos ⟨h, h2⟩]
  rfl

theorem i_FormatHandle (h : Int) (h0 : -9223372036854775808 ≤ h) (h1 : h ≤ 9223372036854775807) : Ev (fun k => impl_FormatHandle.f k h) (fh h) := by
  unfold impl_FormatHandle.f
  simp only [i_IsHandle h h1, Option.bind_some, decide_eq_true_eq]
  have i1 := idx_b h
  have g1 := gen_b h
  have d1 := dec30 (n := idxOf h) (by omega) (by omega)
  have d2 := dec30 (n := genOf h) (by omega) (by omega)
  by_cases d : isH h
  · have hu := unm_H d
    simp only [if_pos d, i_IndexOf h h1, i_GenerationOf h h1, i_IsMarked h h1, Option.bind_some, i_FormatInt (idxOf h) (by omega) (by omega), i_FormatInt (genOf h) (by omega) (by omega), decide_eq_true_eq]
    simp only [ByteArray.size_append, lsz, List.length_cons, List.length_nil]
    rw [if_pos (by omega), if_pos (by omega)]
    unfold fh fhS
    rw [if_neg hu, if_pos d]
    by_cases m : isM h
    · rw [if_pos m, if_pos m, if_pos (by omega)]
      exact Ev.now _
    · rw [if_neg m, if_neg m]
      rw [bs_nil, ByteArray.append_empty]
      exact Ev.now _
  · simp only [if_neg d]
    by_cases z : h = 0
    · subst z
      simp only [if_true]
      refine Ev.step (f := fun _ => some _) (fun k => ?_) (Ev.now _)
      simp only [impl_FormatHandle.j0, i_IsMarked 0 h1, Option.bind_some]
      rw [if_neg (by decide), if_neg (by decide)]
      rfl
    · simp only [if_neg z]
      by_cases o : h = 1
      · subst o
        refine Ev.step (f := fun _ => some _) (fun k => ?_) (Ev.now _)
        simp only [impl_FormatHandle.j0, i_IsMarked 1 h1, Option.bind_some]
        rw [if_neg (by decide), if_pos (by decide), if_pos (by decide)]
        rfl
      · refine Ev.step (f := fun _ => some _) (fun k => ?_) (Ev.now _)
        simp only [impl_FormatHandle.j0]
        rw [if_pos (by simpa using o)]
        unfold fh
        rw [if_neg (unm_0 d z o), if_neg d]
        rfl

theorem FnExactFormatHandle : laws_FnExactFormatHandle.Pure := by
  intro h w
  have hb := bounds_i64 w
  exact ev_strs (s_FormatHandle h hb.1 hb.2) (i_FormatHandle h hb.1 hb.2)

end Go.Proofs.YtbenihcaleiacaaDoor.Pure
