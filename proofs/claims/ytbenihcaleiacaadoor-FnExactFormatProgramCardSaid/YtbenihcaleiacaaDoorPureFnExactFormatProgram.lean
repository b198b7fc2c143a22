/- The pure side of FnExactFormatProgram: the program's FormatProgram answers what the reference's does and leaves the list as it was, for every list of operations (the law itself answers true past 1048576). No condition. -/
import Derived.Test.YtbenihcaleiacaaDoorGFnExactFormatProgramx4
import Derived.OpenShut
import Derived.Laws.BitsLemmas
set_option linter.unusedVariables false
set_option linter.unusedSimpArgs false
namespace Go.Proofs.YtbenihcaleiacaaDoor.Pure
open Go.RowKit Go.Proofs.YtbenihcaleiacaaDoor.GFnExactFormatProgram Go.Proofs.YtbenihcaleiacaaDoorW.PrintWords Go.Proofs.YtbenihcaleiacaaDoorW.PrintLast

theorem w64 {x : Int} (h : -9223372036854775808 ≤ x) (h' : x ≤ 9223372036854775807) : wrap64 x = x := by unfold wrap64; omega
theorem tdiv_pos {x y : Int} (h : 0 ≤ x) : Int.tdiv x y = x / y := Int.tdiv_eq_ediv_of_nonneg h
theorem tmod_pos {x y : Int} (h : 0 ≤ x) : Int.tmod x y = x % y := Int.tmod_eq_emod_of_nonneg h
theorem eq_strs {g w : Option ByteArray} {r : ByteArray} (h1 : w = some r) (h2 : g = some r) : (w.bind fun t => g.bind fun u => if u.toList = t.toList then some true else some false) = some true := by
  subst h1; subst h2; simp
theorem eq_ints {g w : Option Int} {r : Int} (h1 : w = some r) (h2 : g = some r) : (w.bind fun t => g.bind fun u => if u = t then some true else some false) = some true := by
  subst h1; subst h2; simp
theorem eq_bools {g w : Option Bool} {r : Bool} (h1 : w = some r) (h2 : g = some r) : (w.bind fun t => g.bind fun u => if (u != t) = true then some false else some true) = some true := by
  subst h1; subst h2; simp
theorem ev_strs {g w : Nat → Option ByteArray} {r : ByteArray} (h1 : Ev w r) (h2 : Ev g r) : ∃ k, ((w k).bind fun t => (g k).bind fun u => if u.toList = t.toList then some true else some false) = some true := by
  obtain ⟨K, h1⟩ := h1
  obtain ⟨L, h2⟩ := h2
  exact ⟨max K L, eq_strs (h1 _ (by omega)) (h2 _ (by omega))⟩
theorem ev2 {α β : Type} {g : Nat → Option α} {f : Nat → Option β} {a : α} {b : β} {F : α → β → Option Bool} (hg : Ev g a) (hf : Ev f b) (h : F a b = some true) : ∃ k, ((g k).bind fun t => (f k).bind fun u => F t u) = some true :=
  (Ev.bind hg (Ev.bind hf ⟨0, fun _ _ => h⟩)).rounds
theorem rd_eq (l : List Int) (i : Nat) (h : i < l.length) : rd l (i : Int) = l[i] := by
  unfold rd
  rw [show ((i : Int)).toNat = i by omega, List.getD_eq_getElem?_getD, List.getElem?_eq_getElem h]
  rfl

theorem rdO_eq (l : List S33) (i : Nat) (h : i < l.length) : rd_T33 l (i : Int) = l[i] := by
  unfold rd_T33
  rw [show ((i : Int)).toNat = i by omega, List.getD_eq_getElem?_getD, List.getElem?_eq_getElem h]
  rfl
def toO_ (e : S31) : S33 := ⟨e.f0, e.f1, e.f2⟩
theorem rdOL_eq (l : List S31) (i : Nat) (h : i < l.length) : rd_T31 l (i : Int) = l[i] := by
  unfold rd_T31
  rw [show ((i : Int)).toNat = i by omega, List.getD_eq_getElem?_getD, List.getElem?_eq_getElem h]
  rfl
theorem toOpS_l (l : List S31) (hl : l.length ≤ 1048576) (d : Nat) : ∀ i : Nat, i + d = l.length → Ev (fun k => laws_toOpS.l0 k l ((l.map toO_).take i ++ List.replicate d z33) i) (l.map toO_) := by
  induction d with
  | zero =>
    intro i hi
    refine Ev.step (f := fun _ => some _) (fun k => ?_) (Ev.now _)
    simp only [laws_toOpS.l0]
    rw [if_neg (by omega), List.take_of_length_le (by simp; omega)]
    simp
  | succ d ih =>
    intro i hi
    refine Ev.step (fun k => ?_) (ih (i + 1) (by omega))
    have hlen : ((l.map toO_).take i).length = i := by rw [List.length_take, List.length_map]; omega
    simp only [laws_toOpS.l0, laws_toOp.f, Option.bind_some]
    rw [if_pos (by omega), if_pos (by omega), if_pos (by rw [List.length_append, hlen, List.length_replicate]; omega), w64 (by omega) (by omega), rdOL_eq l i (by omega)]
    congr 1
    rw [show ((i : Int)).toNat = i by omega, List.set_append_right _ _ (by omega), hlen, List.take_succ_eq_append_getElem (by simp; omega), List.append_assoc]
    simp [List.replicate_succ, toO_]
theorem toOpS (l : List S31) (hl : l.length ≤ 1048576) : Ev (fun k => laws_toOpS.f k l) (l.map toO_) := by
  unfold laws_toOpS.f
  simp only [if_pos (show 0 ≤ (l.length : Int) by omega), if_pos (show ((l.length : Int)).toNat ≤ 11728124029610 by omega)]
  exact toOpS_l l hl l.length 0 (by omega)
theorem eqOpS_l (l : List S33) (hl : l.length ≤ 1048576) (d : Nat) : ∀ i : Nat, i + d = l.length → Ev (fun k => laws_eqOpS.l0 k l l i) true := by
  induction d with
  | zero =>
    intro i hi
    refine Ev.step (f := fun _ => some true) (fun k => ?_) (Ev.now _)
    simp only [laws_eqOpS.l0]
    rw [if_neg (by omega)]
  | succ d ih =>
    intro i hi
    refine Ev.step (fun k => ?_) (ih (i + 1) (by omega))
    simp only [laws_eqOpS.l0, laws_eqOp.f, if_true, Option.bind_some]
    rw [if_pos (by omega), if_pos (by omega), w64 (by omega) (by omega), if_pos (by omega)]
    rfl
theorem eqOpS_refl (l : List S33) (hl : l.length ≤ 1048576) : Ev (fun k => laws_eqOpS.f k l l) true := by
  unfold laws_eqOpS.f
  simp only [if_true]
  exact eqOpS_l l hl l.length 0 (by omega)

theorem l1In_ (x a b : Int) : spec_l1In.f x a b = some (decide (a ≤ x ∧ x ≤ b)) := by
  unfold spec_l1In.f
  by_cases h : a ≤ x <;> simp [h]

theorem in_ (x a b : Int) : impl_in.f x a b = some (decide (a ≤ x ∧ x ≤ b)) := by
  unfold impl_in.f
  by_cases h : a ≤ x <;> simp [h]

def isO (a b c : Int) : Prop := ((a = 1 ∨ a = 4 ∨ a = 5) ∧ b = 0 ∧ c = 0) ∨ (a = 2 ∧ (0 ≤ b ∧ b ≤ 9) ∧ c = 0) ∨ (a = 3 ∧ (0 ≤ b ∧ b ≤ 9) ∧ (0 ≤ c ∧ c ≤ 99))
instance (a b c : Int) : Decidable (isO a b c) := by unfold isO; infer_instance
theorem s_IsOp (a b c : Int) : Ev (fun k => spec_IsOp.f k a b c) (decide (isO a b c)) := by
  have e : ∀ k, spec_IsOp.f k a b c = spec_IsOp.j0 k a (decide (a = 1 ∨ a = 4 ∨ a = 5)) a b c := by
    intro k
    unfold spec_IsOp.f
    by_cases h1 : a = 1
    · subst h1; rfl
    · rw [if_neg h1]
      by_cases h2 : a = 4
      · subst h2; rfl
      · rw [if_neg h2]
        congr 1
        show decide (a = 5) = _
        exact decide_eq_decide.2 (by omega)
  simp only [e]
  refine Ev.step (f := fun _ => some (decide (isO a b c))) (fun k => ?_) (Ev.now _)
  simp only [spec_IsOp.j0, l1In_, Option.bind_some, decide_eq_true_eq]
  unfold isO
  repeat' split
  all_goals first
    | exact congrArg some (decide_eq_decide.2 (by omega))
    | exact congrArg some (decide_eq_true (by omega)).symm
    | exact congrArg some (decide_eq_false (by omega)).symm
    | (show some (decide (c = 0)) = _; exact congrArg some (decide_eq_decide.2 (by omega)))
theorem i_IsOp (a b c : Int) : Ev (fun k => impl_IsOp.f k a b c) (decide (isO a b c)) := by
  have e : ∀ k, impl_IsOp.f k a b c = impl_IsOp.j0 k a (decide (a = 1 ∨ a = 4 ∨ a = 5)) a b c := by
    intro k
    unfold impl_IsOp.f
    by_cases h1 : a = 1
    · subst h1; rfl
    · rw [if_neg h1]
      by_cases h2 : a = 4
      · subst h2; rfl
      · rw [if_neg h2]
        congr 1
        show decide (a = 5) = _
        exact decide_eq_decide.2 (by omega)
  simp only [e]
  refine Ev.step (f := fun _ => some (decide (isO a b c))) (fun k => ?_) (Ev.now _)
  simp only [impl_IsOp.j0, in_, Option.bind_some, decide_eq_true_eq]
  unfold isO
  repeat' split
  all_goals first
    | exact congrArg some (decide_eq_decide.2 (by omega))
    | exact congrArg some (decide_eq_true (by omega)).symm
    | exact congrArg some (decide_eq_false (by omega)).symm
    | (show some (decide (c = 0)) = _; exact congrArg some (decide_eq_decide.2 (by omega)))

def bs (l : List UInt8) : ByteArray := ⟨l.toArray⟩
theorem bs_append (a b : List UInt8) : bs (a ++ b) = bs a ++ bs b := by
  apply ByteArray.ext
  rw [ByteArray.data_append]
  simp [bs]
theorem bs_nil : bs [] = ByteArray.empty := rfl
theorem bs_data (s : ByteArray) : bs s.data.toList = s := by
  apply ByteArray.ext
  simp [bs]
theorem bs_toList (l : List UInt8) : (bs l).data.toList = l := by simp [bs]
theorem bs_size (l : List UInt8) : (bs l).size = l.length := by
  show l.toArray.size = l.length
  simp
theorem bs_inj {a b : List UInt8} (h : bs a = bs b) : a = b := by rw [← bs_toList a, ← bs_toList b, h]
def dec (n : Int) : ByteArray := bs (Lib.itoa n)
def dg (m : Nat) : List UInt8 := if m = 0 then [] else Lib.decDigits m
theorem decD_step (m : Nat) : Lib.decDigits m = dg (m / 10) ++ [UInt8.ofNat (48 + m % 10)] := by
  rw [Lib.decDigits]
  unfold dg
  by_cases h : m < 10
  · rw [dif_pos h, if_pos (by omega), show m % 10 = m by omega]
    rfl
  · rw [dif_neg h, if_neg (by omega)]
theorem dg_step (m : Nat) (h : 0 < m) : dg m = dg (m / 10) ++ [UInt8.ofNat (48 + m % 10)] := by
  rw [← decD_step]
  unfold dg
  rw [if_neg (by omega)]
theorem dg_len (f : Nat) : ∀ m : Nat, m < 10 ^ f → (dg m).length ≤ f := by
  induction f with
  | zero =>
    intro m h
    have : m = 0 := by omega
    subst this
    simp [dg]
  | succ f ih =>
    intro m h
    rcases Nat.eq_zero_or_pos m with h0 | h0
    · subst h0
      simp [dg]
    · rw [dg_step m h0, List.length_append]
      have := ih (m / 10) (by rw [Nat.pow_succ] at h; omega)
      simp
      omega
theorem decD_digit (m : Nat) : ∀ c ∈ Lib.decDigits m, 48 ≤ c.toNat ∧ c.toNat ≤ 57 := by
  induction m using Nat.strongRecOn with
  | ind m ih =>
    intro c hc
    rw [decD_step] at hc
    rcases List.mem_append.1 hc with h | h
    · unfold dg at h
      by_cases h0 : m / 10 = 0
      · rw [if_pos h0] at h
        cases h
      · rw [if_neg h0] at h
        exact ih (m / 10) (by omega) c h
    · rw [List.mem_singleton] at h
      subst h
      simp only [UInt8.toNat_ofNat']
      omega
theorem decD_ne (m : Nat) : Lib.decDigits m ≠ [] := by rw [decD_step]; simp
theorem dec_neg (n : Int) (h : n < 0) : dec n = bs (45 :: Lib.decDigits n.natAbs) := by unfold dec Lib.itoa; rw [if_pos h]
theorem dec_pos (n : Int) (h : ¬ n < 0) : dec n = bs (Lib.decDigits n.toNat) := by unfold dec Lib.itoa; rw [if_neg h]
theorem dec_small (n : Int) (h : -9223372036854775808 ≤ n) (h2 : n ≤ 9223372036854775807) : (dec n).size ≤ 30 := by
  have hl : ∀ m : Nat, m ≤ 9223372036854775808 → (Lib.decDigits m).length ≤ 21 := by
    intro m hm
    rw [decD_step, List.length_append]
    have := dg_len 20 (m / 10) (by omega)
    simp
    omega
  by_cases h0 : n < 0
  · rw [dec_neg n h0, bs_size, List.length_cons]
    have := hl n.natAbs (by omega)
    omega
  · rw [dec_pos n h0, bs_size]
    have := hl n.toNat (by omega)
    omega

theorem i_FormatInt (n : Int) (h : -9223372036854775808 ≤ n) (h2 : n ≤ 9223372036854775807) : impl_FormatInt.f n = some (dec n) := by
  unfold impl_FormatInt.f strconv_Itoa.f
  rw [if_pos ⟨h, h2⟩]
  rfl

theorem tmod_n (m : Nat) : Int.tmod (-(m : Int)) 10 = -((m % 10 : Nat) : Int) := by
  rw [Int.neg_tmod, tmod_pos (by omega)]
  omega
theorem tdiv_n (m : Nat) : Int.tdiv (-(m : Int)) 10 = -((m / 10 : Nat) : Int) := by
  rw [Int.neg_tdiv, tdiv_pos (by omega)]
  omega
theorem s_FormatInt_z (neg : Bool) (out : ByteArray) (ho : out.size ≤ 200) : Ev (fun k => spec_FormatInt.l0 k 0 out neg) ((if neg = true then bs [45] else bs []) ++ (bs (dg 0) ++ out)) := by
  have e : bs (dg 0) ++ out = out := by
    show bs [] ++ out = out
    rw [bs_nil, ByteArray.empty_append]
  rw [e]
  refine Ev.step (f := fun _ => some _) (fun k => ?_) (Ev.now _)
  simp only [spec_FormatInt.l0, if_true]
  cases neg with
  | true =>
    rw [if_pos rfl, if_pos rfl, if_pos (by omega)]
    rfl
  | false =>
    rw [if_neg (by decide), if_neg (by decide), bs_nil, ByteArray.empty_append]
theorem s_FormatInt_l (neg : Bool) (f : Nat) : ∀ (m : Nat) (x : Int) (out : ByteArray), (x = (m : Int) ∨ x = -(m : Int)) → m < 10 ^ f → m ≤ 9223372036854775808 → out.size + f ≤ 100 →
    Ev (fun k => spec_FormatInt.l0 k x out neg) ((if neg = true then bs [45] else bs []) ++ (bs (dg m) ++ out)) := by
  induction f with
  | zero =>
    intro m x out hx hm hm2 ho
    have h0 : m = 0 := by omega
    subst h0
    have hx0 : x = 0 := by omega
    subst hx0
    exact s_FormatInt_z neg out (by omega)
  | succ f ih =>
    intro m x out hx hm hm2 ho
    rcases Nat.eq_zero_or_pos m with h0 | h0
    · subst h0
      have hx0 : x = 0 := by omega
      subst hx0
      exact s_FormatInt_z neg out (by omega)
    · rw [dg_step m h0, bs_append, ByteArray.append_assoc]
      have hsz : (bs [UInt8.ofNat (48 + m % 10)] ++ out).size = 1 + out.size := by rw [ByteArray.size_append, bs_size]; rfl
      have hn : strOfNums [((48 + (m % 10 : Nat) : Nat) : Int)] = bs [UInt8.ofNat (48 + m % 10)] := by
        unfold strOfNums bs
        rfl
      have goal : ∀ x', (x' = ((m / 10 : Nat) : Int) ∨ x' = -((m / 10 : Nat) : Int)) → Ev (fun k => spec_FormatInt.l0 k x' (bs [UInt8.ofNat (48 + m % 10)] ++ out) neg) ((if neg = true then bs [45] else bs []) ++ (bs (dg (m / 10)) ++ (bs [UInt8.ofNat (48 + m % 10)] ++ out))) :=
        fun x' hx' => ih (m / 10) x' _ hx' (by rw [Nat.pow_succ] at hm; omega) (by omega) (by rw [hsz]; omega)
      rcases hx with hx | hx
      · subst hx
        refine Ev.step (fun k => ?_) (goal ((m / 10 : Nat) : Int) (.inl rfl))
        simp only [spec_FormatInt.l0, Option.bind_some]
        rw [if_neg (by omega), tmod_pos (show (0 : Int) ≤ (m : Int) by omega), tdiv_pos (show (0 : Int) ≤ (m : Int) by omega), if_neg (by omega), w64 (x := 48 + (m : Int) % 10) (by omega) (by omega), w64 (x := (m : Int) / 10) (by omega) (by omega),
          show (48 + (m : Int) % 10) % 256 = ((48 + (m % 10 : Nat) : Nat) : Int) by omega, hn, if_pos (by rw [bs_size]; simp; omega)]
        rfl
      · subst hx
        refine Ev.step (fun k => ?_) (goal (-((m / 10 : Nat) : Int)) (.inr rfl))
        simp only [spec_FormatInt.l0, Option.bind_some]
        rw [if_neg (by omega), tmod_n, tdiv_n]
        by_cases hz : m % 10 = 0
        · rw [if_neg (by omega), w64 (x := 48 + -((m % 10 : Nat) : Int)) (by omega) (by omega), w64 (x := -((m / 10 : Nat) : Int)) (by omega) (by omega),
            show (48 + -((m % 10 : Nat) : Int)) % 256 = ((48 + (m % 10 : Nat) : Nat) : Int) by omega, hn, if_pos (by rw [bs_size]; simp; omega)]
        · rw [if_pos (by omega), w64 (x := -(-((m % 10 : Nat) : Int))) (by omega) (by omega), w64 (x := 48 + -(-((m % 10 : Nat) : Int))) (by omega) (by omega), w64 (x := -((m / 10 : Nat) : Int)) (by omega) (by omega),
            show (48 + -(-((m % 10 : Nat) : Int))) % 256 = ((48 + (m % 10 : Nat) : Nat) : Int) by omega, hn, if_pos (by rw [bs_size]; simp; omega)]
theorem s_FormatInt (n : Int) (h : -9223372036854775808 ≤ n) (h2 : n ≤ 9223372036854775807) : Ev (fun k => spec_FormatInt.f k n) (dec n) := by
  unfold spec_FormatInt.f
  by_cases h0 : n = 0
  · simp only [if_pos h0]
    subst h0
    have e : dec 0 = (⟨#[48]⟩ : ByteArray) := by
      rw [dec_pos 0 (by omega), show (0 : Int).toNat = 0 by rfl, decD_step]
      rfl
    rw [e]
    exact Ev.now _
  · simp only [if_neg h0]
    have key := s_FormatInt_l (decide (n < 0)) 20 n.natAbs n ⟨#[]⟩ (by omega) (by omega) (by omega) (by simp [ByteArray.size])
    have e : (if decide (n < 0) = true then bs [45] else bs []) ++ (bs (dg n.natAbs) ++ (⟨#[]⟩ : ByteArray)) = dec n := by
      rw [show (⟨#[]⟩ : ByteArray) = bs [] from rfl, ← bs_append, List.append_nil]
      have hd : dg n.natAbs = Lib.decDigits n.natAbs := by unfold dg; rw [if_neg (by omega)]
      by_cases hn : n < 0
      · rw [if_pos (by simpa using hn), dec_neg n hn, ← bs_append, hd]
        rfl
      · rw [if_neg (by simpa using hn), dec_pos n hn, ← bs_append, hd, show n.natAbs = n.toNat by omega]
        rfl
    rw [e] at key
    exact key

theorem lsz (l : List UInt8) : (ByteArray.mk l.toArray).size = l.length := by simp [ByteArray.size]
theorem lsz0 : (⟨#[]⟩ : ByteArray).size = 0 := rfl
theorem eapp (s : ByteArray) : (⟨#[]⟩ : ByteArray) ++ s = s := ByteArray.empty_append
theorem appe (s : ByteArray) : s ++ (⟨#[]⟩ : ByteArray) = s := ByteArray.append_empty
theorem dec30 {n : Int} (h : -9223372036854775808 ≤ n) (h2 : n ≤ 9223372036854775807) : (dec n).size ≤ 30 := dec_small n h h2
theorem Ev_if {α : Type} {c : Prop} [Decidable c] {f g : Nat → Option α} {r : α} (hc : c) (h : Ev f r) : Ev (fun n => if c then f n else g n) r := by
  simp only [if_pos hc]
  exact h
theorem ifle {α : Type} {n : Nat} {x y : α} (h : n ≤ 9223372036854775807) : (if n ≤ 9223372036854775807 then x else y) = x := if_pos h

def opW : List ByteArray := [(⟨#[]⟩ : ByteArray), (⟨#[98, 101, 103, 105, 110]⟩ : ByteArray), (⟨#[114, 101, 97, 100]⟩ : ByteArray), (⟨#[119, 114, 105, 116, 101]⟩ : ByteArray), (⟨#[101, 110, 100]⟩ : ByteArray), (⟨#[99, 111, 108, 108, 101, 99, 116]⟩ : ByteArray)]
def fop (a b c : Int) : ByteArray := if isO a b c then (if a = 2 then (rdOf ByteArray.empty opW a ++ (⟨#[32]⟩ : ByteArray)) ++ dec b else if a = 3 then (((rdOf ByteArray.empty opW a ++ (⟨#[32]⟩ : ByteArray)) ++ dec b) ++ (⟨#[32]⟩ : ByteArray)) ++ dec c else rdOf ByteArray.empty opW a) else (⟨#[]⟩ : ByteArray)
theorem s_FormatOp (a b c : Int) : Ev (fun k => spec_FormatOp.f k a b c) (fop a b c) := by
  unfold spec_FormatOp.f
  refine Ev.bind (s_IsOp a b c) ?_
  have l1 : (⟨#[32]⟩ : ByteArray).size = 1 := rfl
  have hW : spec_l5Words.f = some opW := rfl
  unfold fop
  by_cases h : isO a b c
  · simp only [decide_eq_true h, if_true, if_pos h, hW, Option.bind_some]
    have h' := h
    unfold isO at h'
    rcases h' with ⟨h1, rfl, rfl⟩ | ⟨rfl, hb, rfl⟩ | ⟨rfl, hb, hc⟩
    · rcases h1 with rfl | rfl | rfl <;> exact Ev.congr (fun _ => rfl) (Ev.now _)
    · have w2 : (rdOf ByteArray.empty opW 2).size = 4 := rfl
      have db := dec30 (n := b) (by omega) (by omega)
      refine Ev_if (by decide) (Ev_if (by decide) (Ev_if rfl (Ev_if (by omega) ?_)))
      refine Ev.bind (s_FormatInt b (by omega) (by omega)) ?_
      refine Ev_if (by simp only [ByteArray.size_append, l1]; omega) ?_
      exact Ev.now _
    · have w3 : (rdOf ByteArray.empty opW 3).size = 5 := rfl
      have db := dec30 (n := b) (by omega) (by omega)
      have dc := dec30 (n := c) (by omega) (by omega)
      refine Ev_if (by decide) (Ev_if (by decide) ?_)
      simp only [if_neg (show ¬ (3 : Int) = 2 by decide), if_true]
      refine Ev_if (by omega) ?_
      refine Ev.bind (s_FormatInt b (by omega) (by omega)) ?_
      refine Ev_if (by simp only [ByteArray.size_append, l1]; omega) (Ev_if (by simp only [ByteArray.size_append, l1]; omega) ?_)
      refine Ev.bind (s_FormatInt c (by omega) (by omega)) ?_
      refine Ev_if (by simp only [ByteArray.size_append, l1]; omega) ?_
      exact Ev.now _
  · simp only [decide_eq_false h, if_neg h]
    exact Ev.congr (fun _ => rfl) (Ev.now _)
theorem i_FormatOp (a b c : Int) : Ev (fun k => impl_FormatOp.f k a b c) (fop a b c) := by
  unfold impl_FormatOp.f
  refine Ev.bind (i_IsOp a b c) ?_
  have l1 : (⟨#[32]⟩ : ByteArray).size = 1 := rfl
  have hW : impl_opNames.f = some opW := rfl
  unfold fop
  by_cases h : isO a b c
  · simp only [decide_eq_true h, if_true, if_pos h, hW, Option.bind_some]
    have h' := h
    unfold isO at h'
    rcases h' with ⟨h1, rfl, rfl⟩ | ⟨rfl, hb, rfl⟩ | ⟨rfl, hb, hc⟩
    · rcases h1 with rfl | rfl | rfl
      · exact Ev.step (f := fun _ => some (rdOf ByteArray.empty opW 1)) (fun _ => rfl) (Ev.now _)
      · exact Ev.step (f := fun _ => some (rdOf ByteArray.empty opW 4)) (fun _ => rfl) (Ev.now _)
      · exact Ev.step (f := fun _ => some (rdOf ByteArray.empty opW 5)) (fun _ => rfl) (Ev.now _)
    · have w2 : (rdOf ByteArray.empty opW 2).size = 4 := rfl
      have db := dec30 (n := b) (by omega) (by omega)
      refine Ev_if (by decide) (Ev_if (by decide) (Ev_if rfl ?_))
      refine Ev.step (f := fun _ => some _) (fun k => ?_) (Ev.now _)
      simp only [impl_FormatOp.j0, if_true, i_FormatInt b (by omega) (by omega), Option.bind_some]
      rw [if_pos (by omega), if_pos (by simp only [ByteArray.size_append, l1]; omega), if_neg (by decide), ByteArray.append_assoc]
    · have w3 : (rdOf ByteArray.empty opW 3).size = 5 := rfl
      have db := dec30 (n := b) (by omega) (by omega)
      have dc := dec30 (n := c) (by omega) (by omega)
      refine Ev_if (by decide) (Ev_if (by decide) ?_)
      simp only [if_neg (show ¬ (3 : Int) = 2 by decide)]
      refine Ev.step (f := fun _ => some _) (fun k => ?_) (Ev.now _)
      simp only [impl_FormatOp.j0, beq_self_eq_true, if_true, i_FormatInt b (by omega) (by omega), i_FormatInt c (by omega) (by omega), Option.bind_some]
      rw [if_pos (by omega), if_pos (by simp only [ByteArray.size_append, l1]; omega), if_pos (by omega), if_pos (by simp only [ByteArray.size_append, l1]; omega)]
      simp only [ByteArray.append_assoc]
  · simp only [decide_eq_false h, if_neg h]
    exact Ev.congr (fun _ => rfl) (Ev.now _)

theorem strOfNums_nil : strOfNums [] = ByteArray.empty := rfl
theorem strOfNums_append (xs ys : List Int) : strOfNums (xs ++ ys) = strOfNums xs ++ strOfNums ys := by
  apply ByteArray.ext
  rw [ByteArray.data_append]
  simp [strOfNums]
theorem app_nil (s : ByteArray) : s ++ (⟨#[]⟩ : ByteArray) = s := ByteArray.append_empty

def bl (s : ByteArray) : List Int := s.data.toList.map fun b => (b.toNat : Int)
theorem bl_length (s : ByteArray) : (bl s).length = s.size := by
  unfold bl
  rw [List.length_map, Array.length_toList]
  rfl
theorem bl_append (a b : ByteArray) : bl (a ++ b) = bl a ++ bl b := by simp [bl]
theorem bl_nil : bl ⟨#[]⟩ = [] := rfl
theorem bl_range (s : ByteArray) : ∀ x ∈ bl s, 0 ≤ x ∧ x ≤ 255 := by
  intro x hx
  obtain ⟨b, _, rfl⟩ := List.mem_map.1 hx
  have := b.toNat_lt
  omega
theorem strOfNums_bl (s : ByteArray) : strOfNums (bl s) = s := by
  apply ByteArray.ext
  unfold strOfNums bl
  rw [List.map_map]
  have e : ((fun n : Int => UInt8.ofNat n.toNat) ∘ fun b : UInt8 => (b.toNat : Int)) = id := by
    funext b
    simp
  rw [e, List.map_id]
theorem bl_inj {a b : ByteArray} (h : bl a = bl b) : a = b := by rw [← strOfNums_bl a, ← strOfNums_bl b, h]
theorem bl_strOfNums (xs : List Int) (h : ∀ x ∈ xs, 0 ≤ x ∧ x ≤ 255) : bl (strOfNums xs) = xs := by
  unfold bl strOfNums
  rw [List.map_map]
  conv => rhs; rw [← List.map_id xs]
  apply List.map_congr_left
  intro x hx
  have := h x hx
  simp only [Function.comp, id, UInt8.toNat_ofNat']
  omega
theorem bl_extract0 (s : ByteArray) (k : Nat) : bl (s.extract 0 k) = (bl s).take k := by
  simp [bl, ByteArray.data_extract, Array.toList_extract, List.extract_eq_take_drop]
theorem bl_extract (s : ByteArray) (i j : Nat) : bl (s.extract i j) = ((bl s).drop i).take (j - i) := by
  simp [bl, ByteArray.data_extract, Array.toList_extract, List.extract_eq_take_drop]
theorem bt_bl (s : ByteArray) (i : Int) : bt s i = (bl s).getD i.toNat 0 := by
  unfold bt bl
  by_cases h : i.toNat < s.size
  · rw [dif_pos h, List.getD_eq_getElem?_getD, List.getElem?_map, List.getElem?_eq_getElem (show i.toNat < s.data.toList.length by rw [Array.length_toList]; exact h)]
    rfl
  · rw [dif_neg h, List.getD_eq_getElem?_getD, List.getElem?_eq_none (by rw [List.length_map, Array.length_toList]; exact Nat.le_of_not_lt h)]
    rfl
theorem toList_iff {a b : ByteArray} : a.toList = b.toList ↔ a = b := by
  constructor
  · intro h
    rw [ByteArray.toList_eq, ByteArray.toList_eq] at h
    apply ByteArray.ext
    exact Array.toList_inj.1 h
  · intro h
    rw [h]

def isOx (x : S33) : Prop := isO x.f0 x.f1 x.f2
instance (x : S33) : Decidable (isOx x) := by unfold isOx; infer_instance
def fo (x : S33) : ByteArray := fop x.f0 x.f1 x.f2
theorem rdW (a : Int) : (rdOf ByteArray.empty opW a).size ≤ 7 := by
  unfold rdOf
  have : ∀ n : Nat, (opW.getD n ByteArray.empty).size ≤ 7 := by
    intro n
    match n with
    | 0 => decide
    | 1 => decide
    | 2 => decide
    | 3 => decide
    | 4 => decide
    | 5 => decide
    | n + 6 => exact Nat.zero_le _
  exact this _
theorem fop_size (a b c : Int) : (fop a b c).size ≤ 100 := by
  have l1 : (⟨#[32]⟩ : ByteArray).size = 1 := rfl
  have l0 : (⟨#[]⟩ : ByteArray).size = 0 := rfl
  have w := rdW a
  unfold fop
  by_cases h : isO a b c
  · have h' := h
    unfold isO at h'
    have db := dec30 (n := b) (by omega) (by omega)
    have dc := dec30 (n := c) (by omega) (by omega)
    rw [if_pos h]
    by_cases h2 : a = 2
    · rw [if_pos h2]; simp only [ByteArray.size_append, l1]; omega
    · rw [if_neg h2]
      by_cases h3 : a = 3
      · rw [if_pos h3]; simp only [ByteArray.size_append, l1]; omega
      · rw [if_neg h3]; omega
  · rw [if_neg h, l0]; omega
theorem fop_ne (a b c : Int) (h : isO a b c) : (fop a b c).size ≠ 0 := by
  have l1 : (⟨#[32]⟩ : ByteArray).size = 1 := rfl
  unfold fop
  have h' := h
  unfold isO at h'
  rw [if_pos h]
  rcases h' with ⟨h1, rfl, rfl⟩ | ⟨rfl, hb, rfl⟩ | ⟨rfl, hb, hc⟩
  · rcases h1 with rfl | rfl | rfl <;> decide
  · rw [if_pos rfl]; simp only [ByteArray.size_append, l1]; omega
  · rw [if_neg (by decide), if_pos rfl]; simp only [ByteArray.size_append, l1]; omega
theorem nil_toList : (⟨#[]⟩ : ByteArray).toList = ([] : List UInt8) := by
  first
  | decide
  | (unfold ByteArray.toList; rw [ByteArray.toList.loop]; rfl)
  | simp [ByteArray.toList]
theorem fo_nil (x : S33) : (fo x).toList = ([] : List UInt8) ↔ ¬ isOx x := by
  have e : (fo x).toList = ([] : List UInt8) ↔ (fo x).size = 0 := by
    constructor
    · intro h
      have h2 : (fo x).toList = (⟨#[]⟩ : ByteArray).toList := h.trans nil_toList.symm
      have := toList_iff.1 h2
      rw [this]; rfl
    · intro h
      have : fo x = (⟨#[]⟩ : ByteArray) := by
        apply ByteArray.ext
        exact Array.eq_empty_of_size_eq_zero h
      rw [this]; exact nil_toList
  rw [e]
  constructor
  · intro h hO
    exact fop_ne _ _ _ hO h
  · intro h
    unfold fo fop
    have h' : ¬ isO x.f0 x.f1 x.f2 := h
    rw [if_neg h']
    rfl
def allO : List S33 → Bool
  | [] => true
  | x :: xs => decide (isOx x) && allO xs
def cs2 : ByteArray := (⟨#[44, 32]⟩ : ByteArray)
def goS (long : Bool) : Nat → ByteArray → List S33 → ByteArray
  | _, out, [] => if long = true then (⟨#[]⟩ : ByteArray) else out
  | i, out, x :: xs => if isOx x then goS long (i + 1) (if i = 0 then out ++ fo x else (out ++ cs2) ++ fo x) xs else (⟨#[]⟩ : ByteArray)
theorem goS_long (xs : List S33) : ∀ i out, goS true i out xs = (⟨#[]⟩ : ByteArray) := by
  induction xs with
  | nil => intro i out; rfl
  | cons x xs ih => intro i out; rw [goS, ih]; split <;> rfl
theorem goS_bad (xs : List S33) : allO xs = false → ∀ i out, goS false i out xs = (⟨#[]⟩ : ByteArray) := by
  induction xs with
  | nil => intro h; cases h
  | cons x xs ih =>
    intro h i out
    rw [goS]
    by_cases hx : isOx x
    · rw [if_pos hx]
      exact ih (by simpa [allO, hx] using h) _ _
    · rw [if_neg hx]
theorem goS_good (xs : List S33) : allO xs = true → ∀ i out, goS false (i + 1) out xs = bs (out.data.toList ++ Lib.joinTail [44, 32] (xs.map fun x => (fo x).data.toList)) := by
  induction xs with
  | nil => intro _ i out; rw [goS, if_neg (by decide)]; simp [Lib.joinTail, bs_data]
  | cons x xs ih =>
    intro h i out
    have hx : isOx x ∧ allO xs = true := by simpa [allO] using h
    rw [goS, if_pos hx.1, if_neg (by omega), ih hx.2]
    congr 1
    simp only [Lib.joinTail, List.map_cons, List.flatten_cons, ByteArray.data_append, Array.toList_append, List.append_assoc]
    rfl
theorem s_FormatProgram_l (L : List S33) (hL : L.length ≤ 1048576) (d : Nat) : ∀ (i : Nat) (out : ByteArray), i + d = min L.length 20 → out.size ≤ 200 * i →
    Ev (fun k => spec_FormatProgram.l0 k L out i) (goS (decide (20 < L.length)) i out ((L.take 20).drop i)) := by
  induction d with
  | zero =>
    intro i out hi ho
    rw [List.drop_eq_nil_of_le (by rw [List.length_take]; omega), goS]
    refine Ev.step (f := fun k => spec_FormatProgram.j1 k L out i false) (fun k => ?_) (Ev.step (f := fun _ => some _) (fun k => ?_) (Ev.now _))
    · simp only [spec_FormatProgram.l0]
      by_cases h : (i : Int) < L.length
      · rw [if_pos h, decide_eq_false (by omega)]
      · rw [if_neg h]
    · simp only [spec_FormatProgram.j1, decide_eq_true_eq]
      rw [if_neg (by decide)]
      by_cases h : 20 < L.length
      · rw [if_pos (by omega), if_pos h]
      · rw [if_neg (by omega), if_neg h]
  | succ d ih =>
    intro i out hi ho
    have hlt : i < (L.take 20).length := by rw [List.length_take]; omega
    rw [List.drop_eq_getElem_cons hlt, goS]
    have hx : (L.take 20)[i] = L[i]'(by omega) := by rw [List.getElem_take]
    rw [hx]
    have hf := s_FormatOp (L[i]'(by omega)).f0 (L[i]'(by omega)).f1 (L[i]'(by omega)).f2
    have hs := fop_size (L[i]'(by omega)).f0 (L[i]'(by omega)).f1 (L[i]'(by omega)).f2
    have hn := fo_nil (L[i]'(by omega))
    have l2 : (⟨#[44, 32]⟩ : ByteArray).size = 2 := rfl
    refine Ev.step (f := fun k => spec_FormatProgram.j1 k L out i true) (fun k => ?_) ?_
    · simp only [spec_FormatProgram.l0]
      rw [if_pos (by omega), decide_eq_true (by omega)]
    · refine Ev.step (f := fun k => (spec_FormatOp.f k (L[i]'(by omega)).f0 (L[i]'(by omega)).f1 (L[i]'(by omega)).f2).bind fun t124 => (if t124.toList = ([] : List UInt8) then (some (⟨#[]⟩ : ByteArray)) else (if (i : Int) > 0 then (if out.size + 2 ≤ 9223372036854775807 then (if (out ++ (⟨#[44, 32]⟩ : ByteArray)).size + t124.size ≤ 9223372036854775807 then (spec_FormatProgram.l0 k L ((out ++ (⟨#[44, 32]⟩ : ByteArray)) ++ t124) (wrap64 ((i : Int) + 1))) else (none)) else (none)) else (if out.size + t124.size ≤ 9223372036854775807 then (spec_FormatProgram.l0 k L (out ++ t124) (wrap64 ((i : Int) + 1))) else (none))))) (fun k => ?_) (Ev.bind hf ?_)
      · simp only [spec_FormatProgram.j1, if_true]
        rw [if_pos (by omega), if_pos (by omega), rdO_eq L i (by omega)]
      · rw [show (L[i]'(by omega) : S33) = L[i]'(by omega) from rfl] at hn
        by_cases hO : isOx (L[i]'(by omega))
        · have hne : ¬ (fop (L[i]'(by omega)).f0 (L[i]'(by omega)).f1 (L[i]'(by omega)).f2).toList = ([] : List UInt8) := fun x => hn.1 x hO
          simp only [if_neg hne, if_pos hO, w64 (x := (i : Int) + 1) (by omega) (by omega)]
          by_cases h0 : i = 0
          · subst h0
            simp only [if_neg (show ¬ ((0 : Nat) : Int) > 0 by omega), if_true]
            refine Ev_if (by omega) ?_
            exact ih 1 _ (by omega) (by simp only [ByteArray.size_append]; omega)
          · simp only [if_pos (show (i : Int) > 0 by omega), if_neg h0]
            refine Ev_if (by omega) (Ev_if (by rw [ByteArray.size_append, l2]; omega) ?_)
            exact ih (i + 1) _ (by omega) (by simp only [ByteArray.size_append, l2]; omega)
        · have he : (fop (L[i]'(by omega)).f0 (L[i]'(by omega)).f1 (L[i]'(by omega)).f2).toList = ([] : List UInt8) := hn.2 hO
          simp only [if_pos he, if_neg hO]
          exact Ev.now _
def fprog (L : List S33) : ByteArray := if L = [] then (⟨#[110, 111, 110, 101]⟩ : ByteArray) else if allO L = true ∧ L.length ≤ 20 then bs (Lib.join (L.map fun x => (fo x).data.toList) [44, 32]) else (⟨#[]⟩ : ByteArray)
theorem s_FormatProgram (L : List S33) (hL : L.length ≤ 1048576) : Ev (fun k => spec_FormatProgram.f k L) (fprog L) := by
  unfold spec_FormatProgram.f fprog
  by_cases h0 : L = []
  · subst h0
    exact Ev.congr (fun _ => rfl) (Ev.now _)
  · have hlen : L.length ≠ 0 := fun h => h0 (List.length_eq_zero_iff.1 h)
    simp only [if_neg h0, if_neg (show ¬ (L.length : Int) = 0 by omega)]
    have key := s_FormatProgram_l L hL (min L.length 20) 0 ⟨#[]⟩ (by omega) (by simp [ByteArray.size])
    have e : goS (decide (20 < L.length)) 0 ⟨#[]⟩ ((L.take 20).drop 0) = (if allO L = true ∧ L.length ≤ 20 then bs (Lib.join (L.map fun x => (fo x).data.toList) [44, 32]) else (⟨#[]⟩ : ByteArray)) := by
      rw [List.drop_zero]
      by_cases hl : 20 < L.length
      · rw [decide_eq_true hl, goS_long, if_neg (by omega)]
      · rw [decide_eq_false hl, List.take_of_length_le (by omega)]
        by_cases hg : allO L = true
        · rw [if_pos ⟨hg, by omega⟩]
          cases L with
          | nil => exact absurd rfl h0
          | cons x xs =>
            have hx : isOx x ∧ allO xs = true := by simpa [allO] using hg
            rw [goS, if_pos hx.1, if_pos rfl, goS_good xs hx.2, List.map_cons, Lib.join_cons]
            congr 2
        · rw [goS_bad L (by simpa using hg), if_neg (fun h => hg h.1)]
    rw [e] at key
    exact key
theorem i_isProgram_l (L : List S33) (hL : L.length ≤ 1048576) (d : Nat) : ∀ i : Nat, i + d = L.length → Ev (fun k => impl_isProgram.l0 k L L (L.length : Int) i) (allO (L.drop i) && decide (L.length ≤ 20)) := by
  induction d with
  | zero =>
    intro i hi
    rw [List.drop_eq_nil_of_le (by omega), allO, Bool.true_and]
    refine Ev.step (f := fun _ => some _) (fun k => ?_) (Ev.now _)
    simp only [impl_isProgram.l0]
    rw [if_neg (by omega)]
    congr 1
    exact decide_eq_decide.2 (by omega)
  | succ d ih =>
    intro i hi
    have hlt : i < L.length := by omega
    have hf := i_IsOp (L[i]).f0 (L[i]).f1 (L[i]).f2
    have ihn := ih (i + 1) (by omega)
    have hrd := rdO_eq L i hlt
    rw [List.drop_eq_getElem_cons hlt, allO]
    generalize L[i] = y at hf hrd
    refine Ev.step (f := fun k => (impl_IsOp.f k y.f0 y.f1 y.f2).bind fun t155 => (if t155 = true then (impl_isProgram.l0 k L L (L.length : Int) ((i + 1 : Nat) : Int)) else (some false))) (fun k => ?_) (Ev.bind hf ?_)
    · simp only [impl_isProgram.l0]
      rw [if_pos (by omega), if_pos (by omega), if_pos (by omega), hrd, w64 (x := (i : Int) + 1) (by omega) (by omega)]
      rfl
    · by_cases hO : isOx y
      · have hO' : isO y.f0 y.f1 y.f2 := hO
        simp only [decide_eq_true hO', decide_eq_true hO, if_true, Bool.true_and]
        exact ihn
      · have hO' : ¬ isO y.f0 y.f1 y.f2 := hO
        simp only [decide_eq_false hO', decide_eq_false hO, Bool.false_and]
        exact Ev.congr (fun _ => rfl) (Ev.now _)
theorem i_FormatProgram_l (L : List S33) (hL : L.length ≤ 20) (hg : allO L = true) (d : Nat) : ∀ i : Nat, i + d = L.length → Ev (fun k => impl_FormatProgram.l0 k ((L.take i).map fo) L (L.length : Int) i) (fprog L) := by
  induction d with
  | zero =>
    intro i hi
    rw [List.take_of_length_le (by omega)]
    refine Ev.step (f := fun _ => some _) (fun k => ?_) (Ev.now _)
    simp only [impl_FormatProgram.l0]
    rw [if_neg (by omega)]
    unfold fprog
    by_cases h0 : L = []
    · subst h0; rfl
    · have hlen : L.length ≠ 0 := fun h => h0 (List.length_eq_zero_iff.1 h)
      rw [if_neg (by rw [List.length_map]; omega), if_neg h0, if_pos ⟨hg, hL⟩]
      have hjl : (Lib.join (L.map fun x => (fo x).data.toList) [44, 32]).length ≤ 4096 := by
        have hj : ∀ xs : List S33, (Lib.joinTail [44, 32] (xs.map fun x => (fo x).data.toList)).length ≤ 102 * xs.length := by
          intro xs
          induction xs with
          | nil => simp [Lib.joinTail]
          | cons x xs ihx =>
            have hs := fop_size x.f0 x.f1 x.f2
            have e2 : (fo x).data.toList.length = (fop x.f0 x.f1 x.f2).size := by rw [Array.length_toList]; rfl
            simp only [Lib.joinTail, List.map_cons, List.flatten_cons, List.length_append, List.length_cons, List.length_nil] at ihx ⊢
            omega
        cases L with
        | nil => exact absurd rfl h0
        | cons x xs =>
          have hs := fop_size x.f0 x.f1 x.f2
          have e2 : (fo x).data.toList.length = (fop x.f0 x.f1 x.f2).size := by rw [Array.length_toList]; rfl
          have h3 := hj xs
          rw [List.map_cons, Lib.join_cons, List.length_append]
          simp only [List.length_cons] at hL
          omega
      have e3 : (L.map fo).map (·.data.toList) = L.map fun x => (fo x).data.toList := by rw [List.map_map]; rfl
      have e4 : (⟨#[44, 32]⟩ : ByteArray).data.toList = [44, 32] := rfl
      unfold strings_Join.f
      rw [e3, e4, if_pos ⟨by rw [List.length_map]; omega, by omega⟩]
      rfl
  | succ d ih =>
    intro i hi
    have hf := i_FormatOp (L[i]'(by omega)).f0 (L[i]'(by omega)).f1 (L[i]'(by omega)).f2
    have hlen : ((L.take i).map fo).length = i := by rw [List.length_map, List.length_take]; omega
    refine Ev.step (f := fun k => (impl_FormatOp.f k (L[i]'(by omega)).f0 (L[i]'(by omega)).f1 (L[i]'(by omega)).f2).bind fun t162 => (if ((L.take i).map fo).length < 8796093022208 then (impl_FormatProgram.l0 k (((L.take i).map fo) ++ [t162]) L (L.length : Int) ((i + 1 : Nat) : Int)) else none)) (fun k => ?_) (Ev.bind hf ?_)
    · simp only [impl_FormatProgram.l0]
      rw [if_pos (by omega), if_pos (by omega), if_pos (by omega), rdO_eq L i (by omega), w64 (x := (i : Int) + 1) (by omega) (by omega)]
      rfl
    · refine Ev_if (by omega) ?_
      have := ih (i + 1) (by omega)
      rw [List.take_succ_eq_append_getElem (by omega), List.map_append] at this
      exact this
theorem i_FormatProgram (L : List S33) (hL : L.length ≤ 1048576) : Ev (fun k => impl_FormatProgram.f k L) (fprog L) := by
  unfold impl_FormatProgram.f
  have h1 := i_isProgram_l L hL L.length 0 (by omega)
  rw [List.drop_zero] at h1
  refine Ev.bind h1 ?_
  by_cases hg : allO L = true ∧ L.length ≤ 20
  · simp only [hg.1, decide_eq_true hg.2, Bool.and_self, if_true]
    exact i_FormatProgram_l L hg.2 hg.1 L.length 0 (by omega)
  · have e : (allO L && decide (L.length ≤ 20)) = false := by
      cases ha : allO L with
      | false => rfl
      | true => rw [Bool.true_and]; exact decide_eq_false (fun h => hg ⟨ha, h⟩)
    rw [e]
    unfold fprog
    have h0 : L ≠ [] := by
      intro h
      subst h
      exact hg ⟨rfl, by simp⟩
    rw [if_neg h0, if_neg hg]
    exact Ev.congr (fun _ => rfl) (Ev.now _)

theorem FnExactFormatProgram : ∀ l : List S31, l.length ≤ maxLen → (∀ x ∈ l, (Lit.int .i64 x.f0).wf = true ∧ (Lit.int .i64 x.f1).wf = true ∧ (Lit.int .i64 x.f2).wf = true) → ∃ k, laws_FnExactFormatProgram.f k l = some true := by
  intro l hlm _
  unfold maxLen at hlm
  unfold laws_FnExactFormatProgram.f laws_szOpS.f
  rw [w64 (x := 1048576 - (l.length : Int)) (by omega) (by omega)]
  by_cases h2 : 1048576 - (l.length : Int) < 0
  · exact ⟨0, by rw [if_pos h2]; rfl⟩
  · have hl : l.length ≤ 1048576 := by omega
    simp only [if_neg h2, Option.bind_some]
    have hm : (l.map toO_).length ≤ 1048576 := by simpa using hl
    refine (Ev.bind (toOpS l hl) ?_).rounds
    refine Ev.bind (s_FormatProgram _ hm) ?_
    refine Ev.bind (toOpS l hl) ?_
    refine Ev.bind (i_FormatProgram _ hm) ?_
    simp only [if_true]
    refine Ev.bind (toOpS l hl) ?_
    refine Ev.bind (eqOpS_refl _ hm) ?_
    simp only [if_true]
    exact Ev.now _

end Go.Proofs.YtbenihcaleiacaaDoor.Pure
