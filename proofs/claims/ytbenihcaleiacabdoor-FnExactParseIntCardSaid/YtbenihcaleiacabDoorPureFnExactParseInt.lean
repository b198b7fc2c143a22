/- The pure side of FnExactParseInt: the program's ParseInt answers what the reference's does, for every string (the law itself answers true past 1048576 bytes). No condition. -/
import Derived.Test.YtbenihcaleiacabDoorGFnExactParseIntx1
import Derived.OpenShut
import Derived.Laws.BitsLemmas
set_option linter.unusedVariables false
set_option linter.unusedSimpArgs false
namespace Go.Proofs.YtbenihcaleiacabDoor.Pure
open Go.RowKit Go.Proofs.YtbenihcaleiacabDoor.GFnExactParseInt Go.Proofs.YtbenihcaleiacabDoorW.PrintWords Go.Proofs.YtbenihcaleiacabDoorW.PrintLast

theorem w64 {x : Int} (h : -9223372036854775808 ≤ x) (h' : x ≤ 9223372036854775807) : wrap64 x = x := by unfold wrap64; omega
theorem tdiv_pos {x y : Int} (h : 0 ≤ x) : Int.tdiv x y = x / y := Int.tdiv_eq_ediv_of_nonneg h
theorem tmod_pos {x y : Int} (h : 0 ≤ x) : Int.tmod x y = x % y := Int.tmod_eq_emod_of_nonneg h
theorem eq_strs {g w : Option ByteArray} {r : ByteArray} (h1 : w = some r) (h2 : g = some r) : (w.bind fun t => g.bind fun u => if u.toList = t.toList then some true else some false) = some true := by
  subst h1; subst h2; simp
theorem eq_ints {g w : Option Int} {r : Int} (h1 : w = some r) (h2 : g = some r) : (w.bind fun t => g.bind fun u => if u = t then some true else some false) = some true := by
  subst h1; subst h2; simp
theorem eq_bools {g w : Option Bool} {r : Bool} (h1 : w = some r) (h2 : g = some r) : (w.bind fun t => g.bind fun u => if (u != t) = true then some false else some true) = some true := by
  subst h1; subst h2; simp
theorem ev_strs {g w : Nat → Option ByteArray} {r : ByteArray} (h1 : Ev w r) (h2 : Ev g r) : ∃ k, ((w k).bind fun t => (g k).bind fun u => if u.toList = t.toList then some true else some false) = some true := by
  obtain ⟨K, h1⟩ := h1
  obtain ⟨L, h2⟩ := h2
  exact ⟨max K L, eq_strs (h1 _ (by omega)) (h2 _ (by omega))⟩
theorem ev2 {α β : Type} {g : Nat → Option α} {f : Nat → Option β} {a : α} {b : β} {F : α → β → Option Bool} (hg : Ev g a) (hf : Ev f b) (h : F a b = some true) : ∃ k, ((g k).bind fun t => (f k).bind fun u => F t u) = some true :=
  (Ev.bind hg (Ev.bind hf ⟨0, fun _ _ => h⟩)).rounds
theorem rd_eq (l : List Int) (i : Nat) (h : i < l.length) : rd l (i : Int) = l[i] := by
  unfold rd
  rw [show ((i : Int)).toNat = i by omega, List.getD_eq_getElem?_getD, List.getElem?_eq_getElem h]
  rfl

def bs (l : List UInt8) : ByteArray := ⟨l.toArray⟩
theorem bs_append (a b : List UInt8) : bs (a ++ b) = bs a ++ bs b := by
  apply ByteArray.ext
  rw [ByteArray.data_append]
  simp [bs]
theorem bs_nil : bs [] = ByteArray.empty := rfl
theorem bs_data (s : ByteArray) : bs s.data.toList = s := by
  apply ByteArray.ext
  simp [bs]
theorem bs_toList (l : List UInt8) : (bs l).data.toList = l := by simp [bs]
theorem bs_size (l : List UInt8) : (bs l).size = l.length := by
  show l.toArray.size = l.length
  simp
theorem bs_inj {a b : List UInt8} (h : bs a = bs b) : a = b := by rw [← bs_toList a, ← bs_toList b, h]
def dec (n : Int) : ByteArray := bs (Lib.itoa n)
def dg (m : Nat) : List UInt8 := if m = 0 then [] else Lib.decDigits m
theorem decD_step (m : Nat) : Lib.decDigits m = dg (m / 10) ++ [UInt8.ofNat (48 + m % 10)] := by
  rw [Lib.decDigits]
  unfold dg
  by_cases h : m < 10
  · rw [dif_pos h, if_pos (by omega), show m % 10 = m by omega]
    rfl
  · rw [dif_neg h, if_neg (by omega)]
theorem dg_step (m : Nat) (h : 0 < m) : dg m = dg (m / 10) ++ [UInt8.ofNat (48 + m % 10)] := by
  rw [← decD_step]
  unfold dg
  rw [if_neg (by omega)]
theorem dg_len (f : Nat) : ∀ m : Nat, m < 10 ^ f → (dg m).length ≤ f := by
  induction f with
  | zero =>
    intro m h
    have : m = 0 := by omega
    subst this
    simp [dg]
  | succ f ih =>
    intro m h
    rcases Nat.eq_zero_or_pos m with h0 | h0
    · subst h0
      simp [dg]
    · rw [dg_step m h0, List.length_append]
      have := ih (m / 10) (by rw [Nat.pow_succ] at h; omega)
      simp
      omega
theorem decD_digit (m : Nat) : ∀ c ∈ Lib.decDigits m, 48 ≤ c.toNat ∧ c.toNat ≤ 57 := by
  induction m using Nat.strongRecOn with
  | ind m ih =>
    intro c hc
    rw [decD_step] at hc
    rcases List.mem_append.1 hc with h | h
    · unfold dg at h
      by_cases h0 : m / 10 = 0
      · rw [if_pos h0] at h
        cases h
      · rw [if_neg h0] at h
        exact ih (m / 10) (by omega) c h
    · rw [List.mem_singleton] at h
      subst h
      simp only [UInt8.toNat_ofNat']
      omega
theorem decD_ne (m : Nat) : Lib.decDigits m ≠ [] := by rw [decD_step]; simp
theorem dec_neg (n : Int) (h : n < 0) : dec n = bs (45 :: Lib.decDigits n.natAbs) := by unfold dec Lib.itoa; rw [if_pos h]
theorem dec_pos (n : Int) (h : ¬ n < 0) : dec n = bs (Lib.decDigits n.toNat) := by unfold dec Lib.itoa; rw [if_neg h]
theorem dec_small (n : Int) (h : -9223372036854775808 ≤ n) (h2 : n ≤ 9223372036854775807) : (dec n).size ≤ 30 := by
  have hl : ∀ m : Nat, m ≤ 9223372036854775808 → (Lib.decDigits m).length ≤ 21 := by
    intro m hm
    rw [decD_step, List.length_append]
    have := dg_len 20 (m / 10) (by omega)
    simp
    omega
  by_cases h0 : n < 0
  · rw [dec_neg n h0, bs_size, List.length_cons]
    have := hl n.natAbs (by omega)
    omega
  · rw [dec_pos n h0, bs_size]
    have := hl n.toNat (by omega)
    omega

def pf : List UInt8 → Nat × Nat → Nat × Nat
  | [], p => p
  | c :: l, p => pf l (if 48 ≤ c.toNat ∧ c.toNat ≤ 57 then (p.1 * 10 + (c.toNat - 48), p.2 + 1) else p)
theorem pf_append (a b : List UInt8) : ∀ p, pf (a ++ b) p = pf b (pf a p) := by
  induction a with
  | nil => intro p; rfl
  | cons c a ih => intro p; rw [List.cons_append, pf, pf, ih]
theorem pf_b (l : List UInt8) : ∀ p : Nat × Nat, p.1 < 10 ^ p.2 → (pf l p).1 < 10 ^ (pf l p).2 ∧ (pf l p).2 ≤ p.2 + l.length := by
  induction l with
  | nil => intro p h; exact ⟨h, by simp [pf]⟩
  | cons c l ih =>
    intro p h
    rw [pf]
    by_cases hc : 48 ≤ c.toNat ∧ c.toNat ≤ 57
    · rw [if_pos hc]
      have := ih (p.1 * 10 + (c.toNat - 48), p.2 + 1) (by simp only [Nat.pow_succ]; omega)
      simp only at this
      rw [List.length_cons]
      exact ⟨this.1, by omega⟩
    · rw [if_neg hc]
      have := ih p h
      rw [List.length_cons]
      exact ⟨this.1, by omega⟩
theorem pf_dg (f : Nat) : ∀ m : Nat, m < 10 ^ f → ∃ k, pf (dg m) (0, 0) = (m, k) ∧ k = (dg m).length := by
  induction f with
  | zero =>
    intro m h
    have : m = 0 := by omega
    subst this
    exact ⟨0, rfl, rfl⟩
  | succ f ih =>
    intro m h
    rcases Nat.eq_zero_or_pos m with h0 | h0
    · subst h0
      exact ⟨0, rfl, rfl⟩
    · obtain ⟨k, hk, hl⟩ := ih (m / 10) (by rw [Nat.pow_succ] at h; omega)
      refine ⟨k + 1, ?_, ?_⟩
      · rw [dg_step m h0, pf_append, hk, pf, pf]
        simp only [UInt8.toNat_ofNat']
        rw [if_pos (by omega)]
        congr 1
        omega
      · rw [dg_step m h0, List.length_append, hl]
        rfl
theorem pf_decD (m : Nat) (h : m ≤ 999999999) : ∃ k, pf (Lib.decDigits m) (0, 0) = (m, k) ∧ k = (Lib.decDigits m).length ∧ k ≤ 9 := by
  rcases Nat.eq_zero_or_pos m with h0 | h0
  · subst h0
    refine ⟨1, ?_, ?_, by omega⟩ <;> rw [decD_step] <;> rfl
  · have hd : dg m = Lib.decDigits m := by unfold dg; rw [if_neg (by omega)]
    obtain ⟨k, hk, hl⟩ := pf_dg 9 m (by omega)
    have := dg_len 9 m (by omega)
    rw [hd] at hk hl this
    exact ⟨k, hk, hl, by omega⟩
def isNeg (s : ByteArray) : Prop := 0 < s.size ∧ bt s 0 = 45
instance (s : ByteArray) : Decidable (isNeg s) := by unfold isNeg; infer_instance
def parF (s : ByteArray) (q : Nat × Nat) : Int × Bool :=
  if 9 < q.2 then (0, false) else if 10 < s.size then (0, false) else if dec (if isNeg s then -(q.1 : Int) else (q.1 : Int)) = s then ((if isNeg s then -(q.1 : Int) else (q.1 : Int)), true) else (0, false)
def parI (s : ByteArray) : Int × Bool := parF s (pf (s.data.toList.take 11) (0, 0))
theorem bt_u8 (s : ByteArray) (i : Nat) (h : i < s.data.toList.length) : bt s (i : Int) = ((s.data.toList[i]).toNat : Int) := by
  unfold bt
  rw [dif_pos (show ((i : Int)).toNat < s.size by rw [show ((i : Int)).toNat = i by omega]; rw [Array.length_toList] at h; exact h)]
  congr 1
theorem parI_true {s : ByteArray} {v : Int} (h : parI s = (v, true)) : dec v = s ∧ -999999999 ≤ v ∧ v ≤ 999999999 := by
  unfold parI parF at h
  have hb := pf_b (s.data.toList.take 11) (0, 0) (by simp)
  generalize hq : pf (s.data.toList.take 11) (0, 0) = q at h hb
  by_cases h1 : 9 < q.2
  · rw [if_pos h1] at h; cases h
  · rw [if_neg h1] at h
    by_cases h2 : 10 < s.size
    · rw [if_pos h2] at h; cases h
    · rw [if_neg h2] at h
      have hp : 10 ^ q.2 ≤ 10 ^ 9 := Nat.pow_le_pow_right (by decide) (by omega)
      by_cases h3 : dec (if isNeg s then -(q.1 : Int) else (q.1 : Int)) = s
      · rw [if_pos h3] at h
        injection h with h4 _
        rw [h4] at h3
        refine ⟨h3, ?_⟩
        by_cases h5 : isNeg s
        · rw [if_pos h5] at h4; omega
        · rw [if_neg h5] at h4; omega
      · rw [if_neg h3] at h; cases h
theorem parI_or (s : ByteArray) : parI s = (0, false) ∨ ∃ v, parI s = (v, true) := by
  unfold parI parF
  generalize pf (s.data.toList.take 11) (0, 0) = q
  generalize (if isNeg s then -(q.1 : Int) else (q.1 : Int)) = v
  by_cases h1 : 9 < q.2
  · rw [if_pos h1]; exact .inl rfl
  · rw [if_neg h1]
    by_cases h2 : 10 < s.size
    · rw [if_pos h2]; exact .inl rfl
    · rw [if_neg h2]
      by_cases h3 : dec v = s
      · rw [if_pos h3]; exact .inr ⟨_, rfl⟩
      · rw [if_neg h3]; exact .inl rfl
theorem bt_bs (l : List UInt8) (c : UInt8) : bt (bs (c :: l)) 0 = (c.toNat : Int) := by
  have h := bt_u8 (bs (c :: l)) 0 (by rw [bs_toList]; simp)
  have e : ∀ (t : List UInt8) (ht : t = c :: l) (hh : 0 < t.length), t[0] = c := by
    intro t ht hh
    subst ht
    rfl
  rw [e _ (bs_toList _)] at h
  exact h
theorem dec_head (v : Int) : isNeg (dec v) ↔ v < 0 := by
  by_cases h : v < 0
  · rw [dec_neg v h]
    refine ⟨fun _ => h, fun _ => ⟨by rw [bs_size]; simp, ?_⟩⟩
    rw [bt_bs]
    rfl
  · rw [dec_pos v h]
    refine ⟨fun hn => ?_, fun hn => absurd hn h⟩
    exfalso
    obtain ⟨h0, h1⟩ := hn
    have hd := decD_digit v.toNat
    cases hl : Lib.decDigits v.toNat with
    | nil => exact decD_ne _ hl
    | cons c r =>
      rw [hl] at hd h1
      rw [bt_bs] at h1
      have := hd c (by simp)
      omega
theorem parI_dec (v : Int) (h : -999999999 ≤ v) (h2 : v ≤ 999999999) : parI (dec v) = (v, true) ∧ (dec v).size ≤ 10 := by
  obtain ⟨k, hk, hl, h9⟩ := pf_decD v.natAbs (by omega)
  have hpf : pf ((dec v).data.toList.take 11) (0, 0) = (v.natAbs, k) ∧ (dec v).size ≤ 10 := by
    by_cases hn : v < 0
    · rw [dec_neg v hn, bs_size, bs_toList, List.length_cons, List.take_of_length_le (by rw [List.length_cons]; omega), pf, if_neg (by decide)]
      exact ⟨hk, by omega⟩
    · rw [dec_pos v hn, bs_size, bs_toList, show v.toNat = v.natAbs by omega, List.take_of_length_le (by omega)]
      exact ⟨hk, by omega⟩
  refine ⟨?_, hpf.2⟩
  have hv : (if isNeg (dec v) then -(v.natAbs : Int) else (v.natAbs : Int)) = v := by
    by_cases hn : v < 0
    · rw [if_pos ((dec_head v).2 hn)]; omega
    · rw [if_neg (fun x => hn ((dec_head v).1 x))]; omega
  unfold parI parF
  rw [hpf.1]
  simp only [hv]
  rw [if_neg (by omega), if_neg (by omega), if_pos trivial]

theorem tmod_n (m : Nat) : Int.tmod (-(m : Int)) 10 = -((m % 10 : Nat) : Int) := by
  rw [Int.neg_tmod, tmod_pos (by omega)]
  omega
theorem tdiv_n (m : Nat) : Int.tdiv (-(m : Int)) 10 = -((m / 10 : Nat) : Int) := by
  rw [Int.neg_tdiv, tdiv_pos (by omega)]
  omega
theorem s_FormatInt_z (neg : Bool) (out : ByteArray) (ho : out.size ≤ 200) : Ev (fun k => spec_FormatInt.l0 k 0 out neg) ((if neg = true then bs [45] else bs []) ++ (bs (dg 0) ++ out)) := by
  have e : bs (dg 0) ++ out = out := by
    show bs [] ++ out = out
    rw [bs_nil, ByteArray.empty_append]
  rw [e]
  refine Ev.step (f := fun _ => some _) (fun k => ?_) (Ev.now _)
  simp only [spec_FormatInt.l0, if_true]
  cases neg with
  | true =>
    rw [if_pos rfl, if_pos rfl, if_pos (by omega)]
    rfl
  | false =>
    rw [if_neg (by decide), if_neg (by decide), bs_nil, ByteArray.empty_append]
theorem s_FormatInt_l (neg : Bool) (f : Nat) : ∀ (m : Nat) (x : Int) (out : ByteArray), (x = (m : Int) ∨ x = -(m : Int)) → m < 10 ^ f → m ≤ 9223372036854775808 → out.size + f ≤ 100 →
    Ev (fun k => spec_FormatInt.l0 k x out neg) ((if neg = true then bs [45] else bs []) ++ (bs (dg m) ++ out)) := by
  induction f with
  | zero =>
    intro m x out hx hm hm2 ho
    have h0 : m = 0 := by omega
    subst h0
    have hx0 : x = 0 := by omega
    subst hx0
    exact s_FormatInt_z neg out (by omega)
  | succ f ih =>
    intro m x out hx hm hm2 ho
    rcases Nat.eq_zero_or_pos m with h0 | h0
    · subst h0
      have hx0 : x = 0 := by omega
      subst hx0
      exact s_FormatInt_z neg out (by omega)
    · rw [dg_step m h0, bs_append, ByteArray.append_assoc]
      have hsz : (bs [UInt8.ofNat (48 + m % 10)] ++ out).size = 1 + out.size := by rw [ByteArray.size_append, bs_size]; rfl
      have hn : strOfNums [((48 + (m % 10 : Nat) : Nat) : Int)] = bs [UInt8.ofNat (48 + m % 10)] := by
        unfold strOfNums bs
        rfl
      have goal : ∀ x', (x' = ((m / 10 : Nat) : Int) ∨ x' = -((m / 10 : Nat) : Int)) → Ev (fun k => spec_FormatInt.l0 k x' (bs [UInt8.ofNat (48 + m % 10)] ++ out) neg) ((if neg = true then bs [45] else bs []) ++ (bs (dg (m / 10)) ++ (bs [UInt8.ofNat (48 + m % 10)] ++ out))) :=
        fun x' hx' => ih (m / 10) x' _ hx' (by rw [Nat.pow_succ] at hm; omega) (by omega) (by rw [hsz]; omega)
      rcases hx with hx | hx
      · subst hx
        refine Ev.step (fun k => ?_) (goal ((m / 10 : Nat) : Int) (.inl rfl))
        simp only [spec_FormatInt.l0, Option.bind_some]
        rw [if_neg (by omega), tmod_pos (show (0 : Int) ≤ (m : Int) by omega), tdiv_pos (show (0 : Int) ≤ (m : Int) by omega), if_neg (by omega), w64 (x := 48 + (m : Int) % 10) (by omega) (by omega), w64 (x := (m : Int) / 10) (by omega) (by omega),
          show (48 + (m : Int) % 10) % 256 = ((48 + (m % 10 : Nat) : Nat) : Int) by omega, hn, if_pos (by rw [bs_size]; simp; omega)]
        rfl
      · subst hx
        refine Ev.step (fun k => ?_) (goal (-((m / 10 : Nat) : Int)) (.inr rfl))
        simp only [spec_FormatInt.l0, Option.bind_some]
        rw [if_neg (by omega), tmod_n, tdiv_n]
        by_cases hz : m % 10 = 0
        · rw [if_neg (by omega), w64 (x := 48 + -((m % 10 : Nat) : Int)) (by omega) (by omega), w64 (x := -((m / 10 : Nat) : Int)) (by omega) (by omega),
            show (48 + -((m % 10 : Nat) : Int)) % 256 = ((48 + (m % 10 : Nat) : Nat) : Int) by omega, hn, if_pos (by rw [bs_size]; simp; omega)]
        · rw [if_pos (by omega), w64 (x := -(-((m % 10 : Nat) : Int))) (by omega) (by omega), w64 (x := 48 + -(-((m % 10 : Nat) : Int))) (by omega) (by omega), w64 (x := -((m / 10 : Nat) : Int)) (by omega) (by omega),
            show (48 + -(-((m % 10 : Nat) : Int))) % 256 = ((48 + (m % 10 : Nat) : Nat) : Int) by omega, hn, if_pos (by rw [bs_size]; simp; omega)]
theorem s_FormatInt (n : Int) (h : -9223372036854775808 ≤ n) (h2 : n ≤ 9223372036854775807) : Ev (fun k => spec_FormatInt.f k n) (dec n) := by
  unfold spec_FormatInt.f
  by_cases h0 : n = 0
  · simp only [if_pos h0]
    subst h0
    have e : dec 0 = (⟨#[48]⟩ : ByteArray) := by
      rw [dec_pos 0 (by omega), show (0 : Int).toNat = 0 by rfl, decD_step]
      rfl
    rw [e]
    exact Ev.now _
  · simp only [if_neg h0]
    have key := s_FormatInt_l (decide (n < 0)) 20 n.natAbs n ⟨#[]⟩ (by omega) (by omega) (by omega) (by simp [ByteArray.size])
    have e : (if decide (n < 0) = true then bs [45] else bs []) ++ (bs (dg n.natAbs) ++ (⟨#[]⟩ : ByteArray)) = dec n := by
      rw [show (⟨#[]⟩ : ByteArray) = bs [] from rfl, ← bs_append, List.append_nil]
      have hd : dg n.natAbs = Lib.decDigits n.natAbs := by unfold dg; rw [if_neg (by omega)]
      by_cases hn : n < 0
      · rw [if_pos (by simpa using hn), dec_neg n hn, ← bs_append, hd]
        rfl
      · rw [if_neg (by simpa using hn), dec_pos n hn, ← bs_append, hd, show n.natAbs = n.toNat by omega]
        rfl
    rw [e] at key
    exact key

theorem strOfNums_nil : strOfNums [] = ByteArray.empty := rfl
theorem strOfNums_append (xs ys : List Int) : strOfNums (xs ++ ys) = strOfNums xs ++ strOfNums ys := by
  apply ByteArray.ext
  rw [ByteArray.data_append]
  simp [strOfNums]
theorem app_nil (s : ByteArray) : s ++ (⟨#[]⟩ : ByteArray) = s := ByteArray.append_empty

def bl (s : ByteArray) : List Int := s.data.toList.map fun b => (b.toNat : Int)
theorem bl_length (s : ByteArray) : (bl s).length = s.size := by
  unfold bl
  rw [List.length_map, Array.length_toList]
  rfl
theorem bl_append (a b : ByteArray) : bl (a ++ b) = bl a ++ bl b := by simp [bl]
theorem bl_nil : bl ⟨#[]⟩ = [] := rfl
theorem bl_range (s : ByteArray) : ∀ x ∈ bl s, 0 ≤ x ∧ x ≤ 255 := by
  intro x hx
  obtain ⟨b, _, rfl⟩ := List.mem_map.1 hx
  have := b.toNat_lt
  omega
theorem strOfNums_bl (s : ByteArray) : strOfNums (bl s) = s := by
  apply ByteArray.ext
  unfold strOfNums bl
  rw [List.map_map]
  have e : ((fun n : Int => UInt8.ofNat n.toNat) ∘ fun b : UInt8 => (b.toNat : Int)) = id := by
    funext b
    simp
  rw [e, List.map_id]
theorem bl_inj {a b : ByteArray} (h : bl a = bl b) : a = b := by rw [← strOfNums_bl a, ← strOfNums_bl b, h]
theorem bl_strOfNums (xs : List Int) (h : ∀ x ∈ xs, 0 ≤ x ∧ x ≤ 255) : bl (strOfNums xs) = xs := by
  unfold bl strOfNums
  rw [List.map_map]
  conv => rhs; rw [← List.map_id xs]
  apply List.map_congr_left
  intro x hx
  have := h x hx
  simp only [Function.comp, id, UInt8.toNat_ofNat']
  omega
theorem bl_extract0 (s : ByteArray) (k : Nat) : bl (s.extract 0 k) = (bl s).take k := by
  simp [bl, ByteArray.data_extract, Array.toList_extract, List.extract_eq_take_drop]
theorem bl_extract (s : ByteArray) (i j : Nat) : bl (s.extract i j) = ((bl s).drop i).take (j - i) := by
  simp [bl, ByteArray.data_extract, Array.toList_extract, List.extract_eq_take_drop]
theorem bt_bl (s : ByteArray) (i : Int) : bt s i = (bl s).getD i.toNat 0 := by
  unfold bt bl
  by_cases h : i.toNat < s.size
  · rw [dif_pos h, List.getD_eq_getElem?_getD, List.getElem?_map, List.getElem?_eq_getElem (show i.toNat < s.data.toList.length by rw [Array.length_toList]; exact h)]
    rfl
  · rw [dif_neg h, List.getD_eq_getElem?_getD, List.getElem?_eq_none (by rw [List.length_map, Array.length_toList]; exact Nat.le_of_not_lt h)]
    rfl
theorem toList_iff {a b : ByteArray} : a.toList = b.toList ↔ a = b := by
  constructor
  · intro h
    rw [ByteArray.toList_eq, ByteArray.toList_eq] at h
    apply ByteArray.ext
    exact Array.toList_inj.1 h
  · intro h
    rw [h]

theorem s_ParseInt_j2 (s : ByteArray) (q : Nat × Nat) (hq : q.1 < 10 ^ q.2) (h11 : q.2 ≤ 11) : Ev (fun k => spec_ParseInt.j2 k s (q.1 : Int) (q.2 : Int) (decide (isNeg s))) (parF s q) := by
  have hp : 10 ^ q.2 ≤ 10 ^ 11 := Nat.pow_le_pow_right (by decide) h11
  unfold parF
  by_cases h1 : 9 < q.2
  · rw [if_pos h1]
    refine Ev.step (f := fun _ => some (0, false)) (fun k => ?_) (Ev.now _)
    simp only [spec_ParseInt.j2]
    by_cases hn : isNeg s
    · rw [if_pos (by simpa using hn), if_pos (by omega)]
    · rw [if_neg (by simpa using hn), if_pos (by omega)]
  · rw [if_neg h1]
    by_cases h2 : 10 < s.size
    · rw [if_pos h2]
      refine Ev.step (f := fun _ => some (0, false)) (fun k => ?_) (Ev.now _)
      simp only [spec_ParseInt.j2]
      by_cases hn : isNeg s
      · rw [if_pos (by simpa using hn), if_neg (by omega), if_pos (by omega)]
      · rw [if_neg (by simpa using hn), if_neg (by omega), if_pos (by omega)]
    · rw [if_neg h2]
      have key : ∀ v : Int, -9223372036854775808 ≤ v → v ≤ 9223372036854775807 → Ev (fun k => (spec_FormatInt.f k v).bind fun t => if t.toList = s.toList then some (v, true) else some (0, false)) (if dec v = s then (v, true) else (0, false)) := by
        intro v hv hv2
        refine Ev.bind (s_FormatInt v hv hv2) ⟨0, fun _ _ => ?_⟩
        by_cases h : dec v = s
        · rw [if_pos (toList_iff.2 h), if_pos h]
        · rw [if_neg (fun x => h (toList_iff.1 x)), if_neg h]
      by_cases hn : isNeg s
      · rw [if_pos hn]
        refine Ev.step (fun k => ?_) (key (-(q.1 : Int)) (by omega) (by omega))
        simp only [spec_ParseInt.j2]
        rw [if_pos (by simpa using hn), if_neg (by omega), if_neg (by omega), w64 (x := -(q.1 : Int)) (by omega) (by omega)]
      · rw [if_neg hn]
        refine Ev.step (fun k => ?_) (key (q.1 : Int) (by omega) (by omega))
        simp only [spec_ParseInt.j2]
        rw [if_neg (by simpa using hn), if_neg (by omega), if_neg (by omega)]
theorem s_ParseInt_l (s : ByteArray) (hs : s.size ≤ 4194304) (d : Nat) : ∀ (i : Nat) (q : Nat × Nat), i + d = 11 → q.1 < 10 ^ q.2 → q.2 ≤ i →
    Ev (fun k => spec_ParseInt.l0 k s (q.1 : Int) (q.2 : Int) i) (parF s (pf ((s.data.toList.drop i).take d) q)) := by
  have hsz : s.data.toList.length = s.size := by rw [Array.length_toList]; rfl
  have stop : ∀ (i : Nat) (q : Nat × Nat), i ≤ 11 → (11 ≤ i ∨ s.size ≤ i) → q.1 < 10 ^ q.2 → q.2 ≤ i → Ev (fun k => spec_ParseInt.l0 k s (q.1 : Int) (q.2 : Int) i) (parF s q) := by
    intro i q h11 hi hq hq2
    have hj := s_ParseInt_j2 s q hq (by omega)
    refine Ev.step (f := fun k => spec_ParseInt.j1 k s (q.1 : Int) (q.2 : Int) i false) (fun k => ?_) (Ev.step (f := fun k => spec_ParseInt.j2 k s (q.1 : Int) (q.2 : Int) (decide (isNeg s))) (fun k => ?_) hj)
    · simp only [spec_ParseInt.l0]
      by_cases h1 : (i : Int) < s.size
      · rw [if_pos h1, decide_eq_false (by omega)]
      · rw [if_neg h1]
    · simp only [spec_ParseInt.j1]
      rw [if_neg (by simp)]
      by_cases h0 : (s.size : Int) > 0
      · rw [if_pos h0, if_pos h0]
        congr 1
        by_cases hn : isNeg s
        · rw [decide_eq_true hn, hn.2]; rfl
        · rw [decide_eq_false hn]
          exact beq_eq_false_iff_ne.2 (fun h45 => hn ⟨by omega, h45⟩)
      · rw [if_neg h0]
        congr 1
        exact (decide_eq_false (fun (x : isNeg s) => h0 (by have := x.1; omega))).symm
  induction d with
  | zero =>
    intro i q hi hq hq2
    rw [List.take_zero, pf]
    exact stop i q (by omega) (.inl (by omega)) hq hq2
  | succ d ih =>
    intro i q hi hq hq2
    by_cases h1 : s.size ≤ i
    · rw [List.drop_eq_nil_of_le (by omega), List.take_nil, pf]
      exact stop i q (by omega) (.inr h1) hq hq2
    · have hb := bt_u8 s i (by omega)
      have hp : 10 ^ q.2 ≤ 10 ^ 11 := Nat.pow_le_pow_right (by decide) (by omega)
      rw [List.drop_eq_getElem_cons (show i < s.data.toList.length by omega), List.take_succ_cons, pf]
      have hlt := (s.data.toList[i]'(by omega)).toNat_lt
      generalize (s.data.toList[i]'(by omega)).toNat = c at hb hlt
      refine Ev.step (f := fun k => spec_ParseInt.j1 k s (q.1 : Int) (q.2 : Int) i true) (fun k => ?_) ?_
      · simp only [spec_ParseInt.l0]
        rw [if_pos (by omega), decide_eq_true (by omega)]
      · by_cases hc : 48 ≤ c ∧ c ≤ 57
        · rw [if_pos hc]
          refine Ev.step (fun k => ?_) (ih (i + 1) (q.1 * 10 + (c - 48), q.2 + 1) (by omega) (by simp only [Nat.pow_succ]; omega) (by simp only; omega))
          simp only [spec_ParseInt.j1, if_true]
          rw [if_pos (by omega), if_pos (by omega), hb, if_pos (by omega), if_pos (by omega), w64 (x := (q.1 : Int) * 10) (by omega) (by omega), w64 (x := (q.2 : Int) + 1) (by omega) (by omega), w64 (x := (i : Int) + 1) (by omega) (by omega), show ((c : Int) - 48) % 256 = ((c - 48 : Nat) : Int) by omega, w64 (by omega) (by omega)]
          congr 1
        · rw [if_neg hc]
          refine Ev.step (fun k => ?_) (ih (i + 1) q (by omega) hq (by omega))
          simp only [spec_ParseInt.j1, if_true]
          rw [if_pos (by omega), if_pos (by omega), hb, w64 (x := (i : Int) + 1) (by omega) (by omega)]
          by_cases h48 : (c : Int) ≥ 48
          · rw [if_pos h48, if_neg (by omega)]
            rfl
          · rw [if_neg h48]
            rfl
theorem s_ParseInt (s : ByteArray) (hs : s.size ≤ 4194304) : Ev (fun k => spec_ParseInt.f k s) (parI s) := by
  have := s_ParseInt_l s hs 11 0 (0, 0) (by omega) (by simp) (by simp)
  rw [List.drop_zero] at this
  exact this

theorem i_FormatInt (n : Int) (h : -9223372036854775808 ≤ n) (h2 : n ≤ 9223372036854775807) : impl_FormatInt.f n = some (dec n) := by
  unfold impl_FormatInt.f strconv_Itoa.f
  rw [if_pos ⟨h, h2⟩]
  rfl

theorem pu_append (a b : List UInt8) : ∀ (acc u : Nat), Lib.parseUint10 acc a = .ok u → Lib.parseUint10 acc (a ++ b) = Lib.parseUint10 u b := by
  induction a with
  | nil =>
    intro acc u h
    simp only [Lib.parseUint10] at h
    injection h with h
    rw [List.nil_append, h]
  | cons c a ih =>
    intro acc u h
    rw [List.cons_append]
    simp only [Lib.parseUint10] at h ⊢
    split at h
    · rename_i h1
      rw [if_pos h1]
      split at h
      · cases h
      · rename_i h2
        rw [if_neg h2]
        split at h
        · cases h
        · rename_i h3
          rw [if_neg h3]
          exact ih _ _ h
    · cases h
theorem pu_dg (f : Nat) (hf : f ≤ 10) : ∀ m : Nat, m < 10 ^ f → Lib.parseUint10 0 (dg m) = .ok m := by
  induction f with
  | zero =>
    intro m h
    have : m = 0 := by omega
    subst this
    rfl
  | succ f ih =>
    intro m h
    have hp : 10 ^ (f + 1) ≤ 10 ^ 10 := Nat.pow_le_pow_right (by decide) hf
    rcases Nat.eq_zero_or_pos m with h0 | h0
    · subst h0
      rfl
    · rw [dg_step m h0, pu_append _ _ _ _ (ih (by omega) (m / 10) (by rw [Nat.pow_succ] at h; omega))]
      simp only [Lib.parseUint10, UInt8.toNat_ofNat']
      rw [if_pos (by omega), if_neg (by omega), if_neg (by omega)]
      congr 1
      omega
theorem mag_decD (m : Nat) (h : m ≤ 999999999) : Lib.parseMag (Lib.decDigits m) = .ok m := by
  unfold Lib.parseMag
  rw [if_neg (decD_ne m)]
  rcases Nat.eq_zero_or_pos m with h0 | h0
  · subst h0
    rw [decD_step]
    rfl
  · have hd : dg m = Lib.decDigits m := by unfold dg; rw [if_neg (by omega)]
    rw [← hd]
    exact pu_dg 9 (by omega) m (by omega)
theorem atoi_dec (v : Int) (h : -999999999 ≤ v) (h2 : v ≤ 999999999) : Lib.atoiAll (Lib.itoa v) = .ok v := by
  unfold Lib.itoa
  by_cases hn : v < 0
  · rw [if_pos hn]
    unfold Lib.atoiAll
    simp only
    rw [if_pos (.inr (by decide)), mag_decD _ (by omega)]
    simp only
    rw [if_neg (fun x => x.1 (by decide)), if_neg (by omega), if_pos (by decide)]
    congr 1
    omega
  · rw [if_neg hn]
    obtain ⟨c, r, hcr⟩ : ∃ c r, Lib.decDigits v.toNat = c :: r := by
      cases hd : Lib.decDigits v.toNat with
      | nil => exact absurd hd (decD_ne _)
      | cons c r => exact ⟨c, r, rfl⟩
    have hc := decD_digit v.toNat c (by rw [hcr]; simp)
    have hm := mag_decD v.toNat (by omega)
    rw [hcr] at hm ⊢
    unfold Lib.atoiAll
    simp only
    rw [if_neg (by omega), hm]
    simp only
    rw [if_neg (by omega), if_neg (by omega), if_neg (by omega)]
    congr 1
    omega
theorem atoi_b {l : List UInt8} {v : Int} (h : Lib.atoiAll l = .ok v) : -9223372036854775808 ≤ v ∧ v ≤ 9223372036854775807 := by
  unfold Lib.atoiAll at h
  cases l with
  | nil => cases h
  | cons c r =>
    simp only at h
    split at h
    · cases h
    · cases h
    · rename_i u hu
      split at h
      · cases h
      · split at h
        · cases h
        · injection h with h
          split at h <;> omega
theorem i_ParseInt (s : ByteArray) (hs : s.size ≤ 4194304) : impl_ParseInt.f s = some (parI s) := by
  have back : ∀ v, parI s = (v, true) → Lib.atoiAll s.data.toList = .ok v := by
    intro v hv
    obtain ⟨hd, h1, h2⟩ := parI_true hv
    rw [← hd]
    unfold dec
    rw [bs_toList]
    exact atoi_dec v h1 h2
  have none_ : (∀ v, parI s ≠ (v, true)) → parI s = (0, false) := by
    intro h
    rcases parI_or s with h0 | ⟨v, hv⟩
    · exact h0
    · exact absurd hv (h v)
  unfold impl_ParseInt.f
  rw [if_pos (by omega)]
  cases hA : Lib.atoiAll s.data.toList with
  | ok v =>
    have hb := atoi_b hA
    simp only
    unfold impl_ParseInt.of
    rw [i_FormatInt v hb.1 hb.2]
    simp only [Option.bind_some]
    by_cases hd : dec v = s
    · rw [if_pos (toList_iff.2 hd)]
      by_cases h1 : v > 999999999
      · rw [if_pos h1, none_ (fun v' hv' => by
          have := back v' hv'
          rw [hA] at this
          injection this with this
          have := (parI_true hv').2
          omega)]
      · rw [if_neg h1]
        by_cases h2 : v < -999999999
        · rw [if_pos h2, none_ (fun v' hv' => by
            have := back v' hv'
            rw [hA] at this
            injection this with this
            have := (parI_true hv').2
            omega)]
        · rw [if_neg h2, ← hd, (parI_dec v (by omega) (by omega)).1]
    · rw [if_neg (fun x => hd (toList_iff.1 x)), none_ (fun v' hv' => by
        have := back v' hv'
        rw [hA] at this
        injection this with this
        rw [← this] at hv'
        exact hd (parI_true hv').1)]
  | _ =>
    simp only
    rw [none_ (fun v' hv' => by
      have := back v' hv'
      rw [hA] at this
      cases this)]

theorem FnExactParseInt : laws_FnExactParseInt.Pure := by
  intro s _
  by_cases h : (s.size : Int) > 1048576
  · exact ⟨0, by unfold laws_FnExactParseInt.f; rw [if_pos h]⟩
  · unfold laws_FnExactParseInt.f
    simp only [if_neg h, i_ParseInt s (by omega)]
    refine (Ev.bind (s_ParseInt s (by omega)) ?_).rounds
    simp only [Option.bind_some, if_true, bne_self_eq_false, Bool.false_eq_true, if_false]
    exact Ev.now _

end Go.Proofs.YtbenihcaleiacabDoor.Pure
