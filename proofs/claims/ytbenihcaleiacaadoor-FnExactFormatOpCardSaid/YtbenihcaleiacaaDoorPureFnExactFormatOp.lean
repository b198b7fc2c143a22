/- The pure side of FnExactFormatOp: the program's FormatOp answers what the reference's does, for every operation. No condition. -/
import Derived.Test.YtbenihcaleiacaaDoorGFnExactFormatOpx3
import Derived.OpenShut
import Derived.Laws.BitsLemmas
set_option linter.unusedVariables false
set_option linter.unusedSimpArgs false
namespace Go.Proofs.YtbenihcaleiacaaDoor.Pure
open Go.RowKit Go.Proofs.YtbenihcaleiacaaDoor.GFnExactFormatOp Go.Proofs.YtbenihcaleiacaaDoorW.PrintWords Go.Proofs.YtbenihcaleiacaaDoorW.PrintLast

theorem w64 {x : Int} (h : -9223372036854775808 ≤ x) (h' : x ≤ 9223372036854775807) : wrap64 x = x := by unfold wrap64; omega
theorem tdiv_pos {x y : Int} (h : 0 ≤ x) : Int.tdiv x y = x / y := Int.tdiv_eq_ediv_of_nonneg h
theorem tmod_pos {x y : Int} (h : 0 ≤ x) : Int.tmod x y = x % y := Int.tmod_eq_emod_of_nonneg h
theorem eq_strs {g w : Option ByteArray} {r : ByteArray} (h1 : w = some r) (h2 : g = some r) : (w.bind fun t => g.bind fun u => if u.toList = t.toList then some true else some false) = some true := by
  subst h1; subst h2; simp
theorem eq_ints {g w : Option Int} {r : Int} (h1 : w = some r) (h2 : g = some r) : (w.bind fun t => g.bind fun u => if u = t then some true else some false) = some true := by
  subst h1; subst h2; simp
theorem eq_bools {g w : Option Bool} {r : Bool} (h1 : w = some r) (h2 : g = some r) : (w.bind fun t => g.bind fun u => if (u != t) = true then some false else some true) = some true := by
  subst h1; subst h2; simp
theorem ev_strs {g w : Nat → Option ByteArray} {r : ByteArray} (h1 : Ev w r) (h2 : Ev g r) : ∃ k, ((w k).bind fun t => (g k).bind fun u => if u.toList = t.toList then some true else some false) = some true := by
  obtain ⟨K, h1⟩ := h1
  obtain ⟨L, h2⟩ := h2
  exact ⟨max K L, eq_strs (h1 _ (by omega)) (h2 _ (by omega))⟩
theorem ev2 {α β : Type} {g : Nat → Option α} {f : Nat → Option β} {a : α} {b : β} {F : α → β → Option Bool} (hg : Ev g a) (hf : Ev f b) (h : F a b = some true) : ∃ k, ((g k).bind fun t => (f k).bind fun u => F t u) = some true :=
  (Ev.bind hg (Ev.bind hf ⟨0, fun _ _ => h⟩)).rounds
theorem rd_eq (l : List Int) (i : Nat) (h : i < l.length) : rd l (i : Int) = l[i] := by
  unfold rd
  rw [show ((i : Int)).toNat = i by omega, List.getD_eq_getElem?_getD, List.getElem?_eq_getElem h]
  rfl

theorem l1In_ (x a b : Int) : spec_l1In.f x a b = some (decide (a ≤ x ∧ x ≤ b)) := by
  unfold spec_l1In.f
  by_cases h : a ≤ x <;> simp [h]

theorem in_ (x a b : Int) : impl_in.f x a b = some (decide (a ≤ x ∧ x ≤ b)) := by
  unfold impl_in.f
  by_cases h : a ≤ x <;> simp [h]

def isO (a b c : Int) : Prop := ((a = 1 ∨ a = 4 ∨ a = 5) ∧ b = 0 ∧ c = 0) ∨ (a = 2 ∧ (0 ≤ b ∧ b ≤ 9) ∧ c = 0) ∨ (a = 3 ∧ (0 ≤ b ∧ b ≤ 9) ∧ (0 ≤ c ∧ c ≤ 99))
instance (a b c : Int) : Decidable (isO a b c) := by unfold isO; infer_instance
theorem s_IsOp (a b c : Int) : Ev (fun k => spec_IsOp.f k a b c) (decide (isO a b c)) := by
  have e : ∀ k, spec_IsOp.f k a b c = spec_IsOp.j0 k a (decide (a = 1 ∨ a = 4 ∨ a = 5)) a b c := by
    intro k
    unfold spec_IsOp.f
    by_cases h1 : a = 1
    · subst h1; rfl
    · rw [if_neg h1]
      by_cases h2 : a = 4
      · subst h2; rfl
      · rw [if_neg h2]
        congr 1
        show decide (a = 5) = _
        exact decide_eq_decide.2 (by omega)
  simp only [e]
  refine Ev.step (f := fun _ => some (decide (isO a b c))) (fun k => ?_) (Ev.now _)
  simp only [spec_IsOp.j0, l1In_, Option.bind_some, decide_eq_true_eq]
  unfold isO
  repeat' split
  all_goals first
    | exact congrArg some (decide_eq_decide.2 (by omega))
    | exact congrArg some (decide_eq_true (by omega)).symm
    | exact congrArg some (decide_eq_false (by omega)).symm
    | (show some (decide (c = 0)) = _; exact congrArg some (decide_eq_decide.2 (by omega)))
theorem i_IsOp (a b c : Int) : Ev (fun k => impl_IsOp.f k a b c) (decide (isO a b c)) := by
  have e : ∀ k, impl_IsOp.f k a b c = impl_IsOp.j0 k a (decide (a = 1 ∨ a = 4 ∨ a = 5)) a b c := by
    intro k
    unfold impl_IsOp.f
    by_cases h1 : a = 1
    · subst h1; rfl
    · rw [if_neg h1]
      by_cases h2 : a = 4
      · subst h2; rfl
      · rw [if_neg h2]
        congr 1
        show decide (a = 5) = _
        exact decide_eq_decide.2 (by omega)
  simp only [e]
  refine Ev.step (f := fun _ => some (decide (isO a b c))) (fun k => ?_) (Ev.now _)
  simp only [impl_IsOp.j0, in_, Option.bind_some, decide_eq_true_eq]
  unfold isO
  repeat' split
  all_goals first
    | exact congrArg some (decide_eq_decide.2 (by omega))
    | exact congrArg some (decide_eq_true (by omega)).symm
    | exact congrArg some (decide_eq_false (by omega)).symm
    | (show some (decide (c = 0)) = _; exact congrArg some (decide_eq_decide.2 (by omega)))

def bs (l : List UInt8) : ByteArray := ⟨l.toArray⟩
theorem bs_append (a b : List UInt8) : bs (a ++ b) = bs a ++ bs b := by
  apply ByteArray.ext
  rw [ByteArray.data_append]
  simp [bs]
theorem bs_nil : bs [] = ByteArray.empty := rfl
theorem bs_data (s : ByteArray) : bs s.data.toList = s := by
  apply ByteArray.ext
  simp [bs]
theorem bs_toList (l : List UInt8) : (bs l).data.toList = l := by simp [bs]
theorem bs_size (l : List UInt8) : (bs l).size = l.length := by
  show l.toArray.size = l.length
  simp
theorem bs_inj {a b : List UInt8} (h : bs a = bs b) : a = b := by rw [← bs_toList a, ← bs_toList b, h]
def dec (n : Int) : ByteArray := bs (Lib.itoa n)
def dg (m : Nat) : List UInt8 := if m = 0 then [] else Lib.decDigits m
theorem decD_step (m : Nat) : Lib.decDigits m = dg (m / 10) ++ [UInt8.ofNat (48 + m % 10)] := by
  rw [Lib.decDigits]
  unfold dg
  by_cases h : m < 10
  · rw [dif_pos h, if_pos (by omega), show m % 10 = m by omega]
    rfl
  · rw [dif_neg h, if_neg (by omega)]
theorem dg_step (m : Nat) (h : 0 < m) : dg m = dg (m / 10) ++ [UInt8.ofNat (48 + m % 10)] := by
  rw [← decD_step]
  unfold dg
  rw [if_neg (by omega)]
theorem dg_len (f : Nat) : ∀ m : Nat, m < 10 ^ f → (dg m).length ≤ f := by
  induction f with
  | zero =>
    intro m h
    have : m = 0 := by omega
    subst this
    simp [dg]
  | succ f ih =>
    intro m h
    rcases Nat.eq_zero_or_pos m with h0 | h0
    · subst h0
      simp [dg]
    · rw [dg_step m h0, List.length_append]
      have := ih (m / 10) (by rw [Nat.pow_succ] at h; omega)
      simp
      omega
theorem decD_digit (m : Nat) : ∀ c ∈ Lib.decDigits m, 48 ≤ c.toNat ∧ c.toNat ≤ 57 := by
  induction m using Nat.strongRecOn with
  | ind m ih =>
    intro c hc
    rw [decD_step] at hc
    rcases List.mem_append.1 hc with h | h
    · unfold dg at h
      by_cases h0 : m / 10 = 0
      · rw [if_pos h0] at h
        cases h
      · rw [if_neg h0] at h
        exact ih (m / 10) (by omega) c h
    · rw [List.mem_singleton] at h
      subst h
      simp only [UInt8.toNat_ofNat']
      omega
theorem decD_ne (m : Nat) : Lib.decDigits m ≠ [] := by rw [decD_step]; simp
theorem dec_neg (n : Int) (h : n < 0) : dec n = bs (45 :: Lib.decDigits n.natAbs) := by unfold dec Lib.itoa; rw [if_pos h]
theorem dec_pos (n : Int) (h : ¬ n < 0) : dec n = bs (Lib.decDigits n.toNat) := by unfold dec Lib.itoa; rw [if_neg h]
theorem dec_small (n : Int) (h : -9223372036854775808 ≤ n) (h2 : n ≤ 9223372036854775807) : (dec n).size ≤ 30 := by
  have hl : ∀ m : Nat, m ≤ 9223372036854775808 → (Lib.decDigits m).length ≤ 21 := by
    intro m hm
    rw [decD_step, List.length_append]
    have := dg_len 20 (m / 10) (by omega)
    simp
    omega
  by_cases h0 : n < 0
  · rw [dec_neg n h0, bs_size, List.length_cons]
    have := hl n.natAbs (by omega)
    omega
  · rw [dec_pos n h0, bs_size]
    have := hl n.toNat (by omega)
    omega

theorem i_FormatInt (n : Int) (h : -9223372036854775808 ≤ n) (h2 : n ≤ 9223372036854775807) : impl_FormatInt.f n = some (dec n) := by
  unfold impl_FormatInt.f strconv_Itoa.f
  rw [if_pos ⟨h, h2⟩]
  rfl

theorem tmod_n (m : Nat) : Int.tmod (-(m : Int)) 10 = -((m % 10 : Nat) : Int) := by
  rw [Int.neg_tmod, tmod_pos (by omega)]
  omega
theorem tdiv_n (m : Nat) : Int.tdiv (-(m : Int)) 10 = -((m / 10 : Nat) : Int) := by
  rw [Int.neg_tdiv, tdiv_pos (by omega)]
  omega
theorem s_FormatInt_z (neg : Bool) (out : ByteArray) (ho : out.size ≤ 200) : Ev (fun k => spec_FormatInt.l0 k 0 out neg) ((if neg = true then bs [45] else bs []) ++ (bs (dg 0) ++ out)) := by
  have e : bs (dg 0) ++ out = out := by
    show bs [] ++ out = out
    rw [bs_nil, ByteArray.empty_append]
  rw [e]
  refine Ev.step (f := fun _ => some _) (fun k => ?_) (Ev.now _)
  simp only [spec_FormatInt.l0, if_true]
  cases neg with
  | true =>
    rw [if_pos rfl, if_pos rfl, if_pos (by omega)]
    rfl
  | false =>
    rw [if_neg (by decide), if_neg (by decide), bs_nil, ByteArray.empty_append]
theorem s_FormatInt_l (neg : Bool) (f : Nat) : ∀ (m : Nat) (x : Int) (out : ByteArray), (x = (m : Int) ∨ x = -(m : Int)) → m < 10 ^ f → m ≤ 9223372036854775808 → out.size + f ≤ 100 →
    Ev (fun k => spec_FormatInt.l0 k x out neg) ((if neg = true then bs [45] else bs []) ++ (bs (dg m) ++ out)) := by
  induction f with
  | zero =>
    intro m x out hx hm hm2 ho
    have h0 : m = 0 := by omega
    subst h0
    have hx0 : x = 0 := by omega
    subst hx0
    exact s_FormatInt_z neg out (by omega)
  | succ f ih =>
    intro m x out hx hm hm2 ho
    rcases Nat.eq_zero_or_pos m with h0 | h0
    · subst h0
      have hx0 : x = 0 := by omega
      subst hx0
      exact s_FormatInt_z neg out (by omega)
    · rw [dg_step m h0, bs_append, ByteArray.append_assoc]
      have hsz : (bs [UInt8.ofNat (48 + m % 10)] ++ out).size = 1 + out.size := by rw [ByteArray.size_append, bs_size]; rfl
      have hn : strOfNums [((48 + (m % 10 : Nat) : Nat) : Int)] = bs [UInt8.ofNat (48 + m % 10)] := by
        unfold strOfNums bs
        rfl
      have goal : ∀ x', (x' = ((m / 10 : Nat) : Int) ∨ x' = -((m / 10 : Nat) : Int)) → Ev (fun k => spec_FormatInt.l0 k x' (bs [UInt8.ofNat (48 + m % 10)] ++ out) neg) ((if neg = true then bs [45] else bs []) ++ (bs (dg (m / 10)) ++ (bs [UInt8.ofNat (48 + m % 10)] ++ out))) :=
        fun x' hx' => ih (m / 10) x' _ hx' (by rw [Nat.pow_succ] at hm; omega) (by omega) (by rw [hsz]; omega)
      rcases hx with hx | hx
      · subst hx
        refine Ev.step (fun k => ?_) (goal ((m / 10 : Nat) : Int) (.inl rfl))
        simp only [spec_FormatInt.l0, Option.bind_some]
        rw [if_neg (by omega), tmod_pos (show (0 : Int) ≤ (m : Int) by omega), tdiv_pos (show (0 : Int) ≤ (m : Int) by omega), if_neg (by omega), w64 (x := 48 + (m : Int) % 10) (by omega) (by omega), w64 (x := (m : Int) / 10) (by omega) (by omega),
          show (48 + (m : Int) % 10) % 256 = ((48 + (m % 10 : Nat) : Nat) : Int) by omega, hn, if_pos (by rw [bs_size]; simp; omega)]
        rfl
      · subst hx
        refine Ev.step (fun k => ?_) (goal (-((m / 10 : Nat) : Int)) (.inr rfl))
        simp only [spec_FormatInt.l0, Option.bind_some]
        rw [if_neg (by omega), tmod_n, tdiv_n]
        by_cases hz : m % 10 = 0
        · rw [if_neg (by omega), w64 (x := 48 + -((m % 10 : Nat) : Int)) (by omega) (by omega), w64 (x := -((m / 10 : Nat) : Int)) (by omega) (by omega),
            show (48 + -((m % 10 : Nat) : Int)) % 256 = ((48 + (m % 10 : Nat) : Nat) : Int) by omega, hn, if_pos (by rw [bs_size]; simp; omega)]
        · rw [if_pos (by omega), w64 (x := -(-((m % 10 : Nat) : Int))) (by omega) (by omega), w64 (x := 48 + -(-((m % 10 : Nat) : Int))) (by omega) (by omega), w64 (x := -((m / 10 : Nat) : Int)) (by omega) (by omega),
            show (48 + -(-((m % 10 : Nat) : Int))) % 256 = ((48 + (m % 10 : Nat) : Nat) : Int) by omega, hn, if_pos (by rw [bs_size]; simp; omega)]
theorem s_FormatInt (n : Int) (h : -9223372036854775808 ≤ n) (h2 : n ≤ 9223372036854775807) : Ev (fun k => spec_FormatInt.f k n) (dec n) := by
  unfold spec_FormatInt.f
  by_cases h0 : n = 0
  · simp only [if_pos h0]
    subst h0
    have e : dec 0 = (⟨#[48]⟩ : ByteArray) := by
      rw [dec_pos 0 (by omega), show (0 : Int).toNat = 0 by rfl, decD_step]
      rfl
    rw [e]
    exact Ev.now _
  · simp only [if_neg h0]
    have key := s_FormatInt_l (decide (n < 0)) 20 n.natAbs n ⟨#[]⟩ (by omega) (by omega) (by omega) (by simp [ByteArray.size])
    have e : (if decide (n < 0) = true then bs [45] else bs []) ++ (bs (dg n.natAbs) ++ (⟨#[]⟩ : ByteArray)) = dec n := by
      rw [show (⟨#[]⟩ : ByteArray) = bs [] from rfl, ← bs_append, List.append_nil]
      have hd : dg n.natAbs = Lib.decDigits n.natAbs := by unfold dg; rw [if_neg (by omega)]
      by_cases hn : n < 0
      · rw [if_pos (by simpa using hn), dec_neg n hn, ← bs_append, hd]
        rfl
      · rw [if_neg (by simpa using hn), dec_pos n hn, ← bs_append, hd, show n.natAbs = n.toNat by omega]
        rfl
    rw [e] at key
    exact key

theorem lsz (l : List UInt8) : (ByteArray.mk l.toArray).size = l.length := by simp [ByteArray.size]
theorem lsz0 : (⟨#[]⟩ : ByteArray).size = 0 := rfl
theorem eapp (s : ByteArray) : (⟨#[]⟩ : ByteArray) ++ s = s := ByteArray.empty_append
theorem appe (s : ByteArray) : s ++ (⟨#[]⟩ : ByteArray) = s := ByteArray.append_empty
theorem dec30 {n : Int} (h : -9223372036854775808 ≤ n) (h2 : n ≤ 9223372036854775807) : (dec n).size ≤ 30 := dec_small n h h2
theorem Ev_if {α : Type} {c : Prop} [Decidable c] {f g : Nat → Option α} {r : α} (hc : c) (h : Ev f r) : Ev (fun n => if c then f n else g n) r := by
  simp only [if_pos hc]
  exact h
theorem ifle {α : Type} {n : Nat} {x y : α} (h : n ≤ 9223372036854775807) : (if n ≤ 9223372036854775807 then x else y) = x := if_pos h

def opW : List ByteArray := [(⟨#[]⟩ : ByteArray), (⟨#[98, 101, 103, 105, 110]⟩ : ByteArray), (⟨#[114, 101, 97, 100]⟩ : ByteArray), (⟨#[119, 114, 105, 116, 101]⟩ : ByteArray), (⟨#[101, 110, 100]⟩ : ByteArray), (⟨#[99, 111, 108, 108, 101, 99, 116]⟩ : ByteArray)]
def fop (a b c : Int) : ByteArray := if isO a b c then (if a = 2 then (rdOf ByteArray.empty opW a ++ (⟨#[32]⟩ : ByteArray)) ++ dec b else if a = 3 then (((rdOf ByteArray.empty opW a ++ (⟨#[32]⟩ : ByteArray)) ++ dec b) ++ (⟨#[32]⟩ : ByteArray)) ++ dec c else rdOf ByteArray.empty opW a) else (⟨#[]⟩ : ByteArray)
theorem s_FormatOp (a b c : Int) : Ev (fun k => spec_FormatOp.f k a b c) (fop a b c) := by
  unfold spec_FormatOp.f
  refine Ev.bind (s_IsOp a b c) ?_
  have l1 : (⟨#[32]⟩ : ByteArray).size = 1 := rfl
  have hW : spec_l5Words.f = some opW := rfl
  unfold fop
  by_cases h : isO a b c
  · simp only [decide_eq_true h, if_true, if_pos h, hW, Option.bind_some]
    have h' := h
    unfold isO at h'
    rcases h' with ⟨h1, rfl, rfl⟩ | ⟨rfl, hb, rfl⟩ | ⟨rfl, hb, hc⟩
    · rcases h1 with rfl | rfl | rfl <;> exact Ev.congr (fun _ => rfl) (Ev.now _)
    · have w2 : (rdOf ByteArray.empty opW 2).size = 4 := rfl
      have db := dec30 (n := b) (by omega) (by omega)
      refine Ev_if (by decide) (Ev_if (by decide) (Ev_if rfl (Ev_if (by omega) ?_)))
      refine Ev.bind (s_FormatInt b (by omega) (by omega)) ?_
      refine Ev_if (by simp only [ByteArray.size_append, l1]; omega) ?_
      exact Ev.now _
    · have w3 : (rdOf ByteArray.empty opW 3).size = 5 := rfl
      have db := dec30 (n := b) (by omega) (by omega)
      have dc := dec30 (n := c) (by omega) (by omega)
      refine Ev_if (by decide) (Ev_if (by decide) ?_)
      simp only [if_neg (show ¬ (3 : Int) = 2 by decide), if_true]
      refine Ev_if (by omega) ?_
      refine Ev.bind (s_FormatInt b (by omega) (by omega)) ?_
      refine Ev_if (by simp only [ByteArray.size_append, l1]; omega) (Ev_if (by simp only [ByteArray.size_append, l1]; omega) ?_)
      refine Ev.bind (s_FormatInt c (by omega) (by omega)) ?_
      refine Ev_if (by simp only [ByteArray.size_append, l1]; omega) ?_
      exact Ev.now _
  · simp only [decide_eq_false h, if_neg h]
    exact Ev.congr (fun _ => rfl) (Ev.now _)
theorem i_FormatOp (a b c : Int) : Ev (fun k => impl_FormatOp.f k a b c) (fop a b c) := by
  unfold impl_FormatOp.f
  refine Ev.bind (i_IsOp a b c) ?_
  have l1 : (⟨#[32]⟩ : ByteArray).size = 1 := rfl
  have hW : impl_opNames.f = some opW := rfl
  unfold fop
  by_cases h : isO a b c
  · simp only [decide_eq_true h, if_true, if_pos h, hW, Option.bind_some]
    have h' := h
    unfold isO at h'
    rcases h' with ⟨h1, rfl, rfl⟩ | ⟨rfl, hb, rfl⟩ | ⟨rfl, hb, hc⟩
    · rcases h1 with rfl | rfl | rfl
      · exact Ev.step (f := fun _ => some (rdOf ByteArray.empty opW 1)) (fun _ => rfl) (Ev.now _)
      · exact Ev.step (f := fun _ => some (rdOf ByteArray.empty opW 4)) (fun _ => rfl) (Ev.now _)
      · exact Ev.step (f := fun _ => some (rdOf ByteArray.empty opW 5)) (fun _ => rfl) (Ev.now _)
    · have w2 : (rdOf ByteArray.empty opW 2).size = 4 := rfl
      have db := dec30 (n := b) (by omega) (by omega)
      refine Ev_if (by decide) (Ev_if (by decide) (Ev_if rfl ?_))
      refine Ev.step (f := fun _ => some _) (fun k => ?_) (Ev.now _)
      simp only [impl_FormatOp.j0, if_true, i_FormatInt b (by omega) (by omega), Option.bind_some]
      rw [if_pos (by omega), if_pos (by simp only [ByteArray.size_append, l1]; omega), if_neg (by decide), ByteArray.append_assoc]
    · have w3 : (rdOf ByteArray.empty opW 3).size = 5 := rfl
      have db := dec30 (n := b) (by omega) (by omega)
      have dc := dec30 (n := c) (by omega) (by omega)
      refine Ev_if (by decide) (Ev_if (by decide) ?_)
      simp only [if_neg (show ¬ (3 : Int) = 2 by decide)]
      refine Ev.step (f := fun _ => some _) (fun k => ?_) (Ev.now _)
      simp only [impl_FormatOp.j0, beq_self_eq_true, if_true, i_FormatInt b (by omega) (by omega), i_FormatInt c (by omega) (by omega), Option.bind_some]
      rw [if_pos (by omega), if_pos (by simp only [ByteArray.size_append, l1]; omega), if_pos (by omega), if_pos (by simp only [ByteArray.size_append, l1]; omega)]
      simp only [ByteArray.append_assoc]
  · simp only [decide_eq_false h, if_neg h]
    exact Ev.congr (fun _ => rfl) (Ev.now _)

theorem FnExactFormatOp : ∀ a b c : Int, (Lit.int .i64 a).wf = true → (Lit.int .i64 b).wf = true → (Lit.int .i64 c).wf = true → ∃ k, laws_FnExactFormatOp.f k a b c = some true := by
  intro a b c _ _ _
  unfold laws_FnExactFormatOp.f laws_toOp.f
  simp only [Option.bind_some]
  exact ev2 (s_FormatOp a b c) (i_FormatOp a b c) (by simp)

end Go.Proofs.YtbenihcaleiacaaDoor.Pure
