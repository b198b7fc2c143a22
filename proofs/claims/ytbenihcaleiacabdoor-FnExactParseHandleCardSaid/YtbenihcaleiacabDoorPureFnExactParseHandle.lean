/- The pure side of FnExactParseHandle: the program's ParseHandle answers what the reference's does, for every string (the law itself answers true past 1048576 bytes). No condition. -/
import Derived.Test.YtbenihcaleiacabDoorGFnExactParseHandlex3
import Derived.OpenShut
import Derived.Laws.BitsLemmas
set_option linter.unusedVariables false
set_option linter.unusedSimpArgs false
namespace Go.Proofs.YtbenihcaleiacabDoor.Pure
open Go.RowKit Go.Proofs.YtbenihcaleiacabDoor.GFnExactParseHandle Go.Proofs.YtbenihcaleiacabDoorW.PrintWords Go.Proofs.YtbenihcaleiacabDoorW.PrintLast

theorem w64 {x : Int} (h : -9223372036854775808 ≤ x) (h' : x ≤ 9223372036854775807) : wrap64 x = x := by unfold wrap64; omega
theorem tdiv_pos {x y : Int} (h : 0 ≤ x) : Int.tdiv x y = x / y := Int.tdiv_eq_ediv_of_nonneg h
theorem tmod_pos {x y : Int} (h : 0 ≤ x) : Int.tmod x y = x % y := Int.tmod_eq_emod_of_nonneg h
theorem eq_strs {g w : Option ByteArray} {r : ByteArray} (h1 : w = some r) (h2 : g = some r) : (w.bind fun t => g.bind fun u => if u.toList = t.toList then some true else some false) = some true := by
  subst h1; subst h2; simp
theorem eq_ints {g w : Option Int} {r : Int} (h1 : w = some r) (h2 : g = some r) : (w.bind fun t => g.bind fun u => if u = t then some true else some false) = some true := by
  subst h1; subst h2; simp
theorem eq_bools {g w : Option Bool} {r : Bool} (h1 : w = some r) (h2 : g = some r) : (w.bind fun t => g.bind fun u => if (u != t) = true then some false else some true) = some true := by
  subst h1; subst h2; simp
theorem ev_strs {g w : Nat → Option ByteArray} {r : ByteArray} (h1 : Ev w r) (h2 : Ev g r) : ∃ k, ((w k).bind fun t => (g k).bind fun u => if u.toList = t.toList then some true else some false) = some true := by
  obtain ⟨K, h1⟩ := h1
  obtain ⟨L, h2⟩ := h2
  exact ⟨max K L, eq_strs (h1 _ (by omega)) (h2 _ (by omega))⟩
theorem ev2 {α β : Type} {g : Nat → Option α} {f : Nat → Option β} {a : α} {b : β} {F : α → β → Option Bool} (hg : Ev g a) (hf : Ev f b) (h : F a b = some true) : ∃ k, ((g k).bind fun t => (f k).bind fun u => F t u) = some true :=
  (Ev.bind hg (Ev.bind hf ⟨0, fun _ _ => h⟩)).rounds
theorem rd_eq (l : List Int) (i : Nat) (h : i < l.length) : rd l (i : Int) = l[i] := by
  unfold rd
  rw [show ((i : Int)).toNat = i by omega, List.getD_eq_getElem?_getD, List.getElem?_eq_getElem h]
  rfl

def bs (l : List UInt8) : ByteArray := ⟨l.toArray⟩
theorem bs_append (a b : List UInt8) : bs (a ++ b) = bs a ++ bs b := by
  apply ByteArray.ext
  rw [ByteArray.data_append]
  simp [bs]
theorem bs_nil : bs [] = ByteArray.empty := rfl
theorem bs_data (s : ByteArray) : bs s.data.toList = s := by
  apply ByteArray.ext
  simp [bs]
theorem bs_toList (l : List UInt8) : (bs l).data.toList = l := by simp [bs]
theorem bs_size (l : List UInt8) : (bs l).size = l.length := by
  show l.toArray.size = l.length
  simp
theorem bs_inj {a b : List UInt8} (h : bs a = bs b) : a = b := by rw [← bs_toList a, ← bs_toList b, h]
def dec (n : Int) : ByteArray := bs (Lib.itoa n)
def dg (m : Nat) : List UInt8 := if m = 0 then [] else Lib.decDigits m
theorem decD_step (m : Nat) : Lib.decDigits m = dg (m / 10) ++ [UInt8.ofNat (48 + m % 10)] := by
  rw [Lib.decDigits]
  unfold dg
  by_cases h : m < 10
  · rw [dif_pos h, if_pos (by omega), show m % 10 = m by omega]
    rfl
  · rw [dif_neg h, if_neg (by omega)]
theorem dg_step (m : Nat) (h : 0 < m) : dg m = dg (m / 10) ++ [UInt8.ofNat (48 + m % 10)] := by
  rw [← decD_step]
  unfold dg
  rw [if_neg (by omega)]
theorem dg_len (f : Nat) : ∀ m : Nat, m < 10 ^ f → (dg m).length ≤ f := by
  induction f with
  | zero =>
    intro m h
    have : m = 0 := by omega
    subst this
    simp [dg]
  | succ f ih =>
    intro m h
    rcases Nat.eq_zero_or_pos m with h0 | h0
    · subst h0
      simp [dg]
    · rw [dg_step m h0, List.length_append]
      have := ih (m / 10) (by rw [Nat.pow_succ] at h; omega)
      simp
      omega
theorem decD_digit (m : Nat) : ∀ c ∈ Lib.decDigits m, 48 ≤ c.toNat ∧ c.toNat ≤ 57 := by
  induction m using Nat.strongRecOn with
  | ind m ih =>
    intro c hc
    rw [decD_step] at hc
    rcases List.mem_append.1 hc with h | h
    · unfold dg at h
      by_cases h0 : m / 10 = 0
      · rw [if_pos h0] at h
        cases h
      · rw [if_neg h0] at h
        exact ih (m / 10) (by omega) c h
    · rw [List.mem_singleton] at h
      subst h
      simp only [UInt8.toNat_ofNat']
      omega
theorem decD_ne (m : Nat) : Lib.decDigits m ≠ [] := by rw [decD_step]; simp
theorem dec_neg (n : Int) (h : n < 0) : dec n = bs (45 :: Lib.decDigits n.natAbs) := by unfold dec Lib.itoa; rw [if_pos h]
theorem dec_pos (n : Int) (h : ¬ n < 0) : dec n = bs (Lib.decDigits n.toNat) := by unfold dec Lib.itoa; rw [if_neg h]
theorem dec_small (n : Int) (h : -9223372036854775808 ≤ n) (h2 : n ≤ 9223372036854775807) : (dec n).size ≤ 30 := by
  have hl : ∀ m : Nat, m ≤ 9223372036854775808 → (Lib.decDigits m).length ≤ 21 := by
    intro m hm
    rw [decD_step, List.length_append]
    have := dg_len 20 (m / 10) (by omega)
    simp
    omega
  by_cases h0 : n < 0
  · rw [dec_neg n h0, bs_size, List.length_cons]
    have := hl n.natAbs (by omega)
    omega
  · rw [dec_pos n h0, bs_size]
    have := hl n.toNat (by omega)
    omega

def pf : List UInt8 → Nat × Nat → Nat × Nat
  | [], p => p
  | c :: l, p => pf l (if 48 ≤ c.toNat ∧ c.toNat ≤ 57 then (p.1 * 10 + (c.toNat - 48), p.2 + 1) else p)
theorem pf_append (a b : List UInt8) : ∀ p, pf (a ++ b) p = pf b (pf a p) := by
  induction a with
  | nil => intro p; rfl
  | cons c a ih => intro p; rw [List.cons_append, pf, pf, ih]
theorem pf_b (l : List UInt8) : ∀ p : Nat × Nat, p.1 < 10 ^ p.2 → (pf l p).1 < 10 ^ (pf l p).2 ∧ (pf l p).2 ≤ p.2 + l.length := by
  induction l with
  | nil => intro p h; exact ⟨h, by simp [pf]⟩
  | cons c l ih =>
    intro p h
    rw [pf]
    by_cases hc : 48 ≤ c.toNat ∧ c.toNat ≤ 57
    · rw [if_pos hc]
      have := ih (p.1 * 10 + (c.toNat - 48), p.2 + 1) (by simp only [Nat.pow_succ]; omega)
      simp only at this
      rw [List.length_cons]
      exact ⟨this.1, by omega⟩
    · rw [if_neg hc]
      have := ih p h
      rw [List.length_cons]
      exact ⟨this.1, by omega⟩
theorem pf_dg (f : Nat) : ∀ m : Nat, m < 10 ^ f → ∃ k, pf (dg m) (0, 0) = (m, k) ∧ k = (dg m).length := by
  induction f with
  | zero =>
    intro m h
    have : m = 0 := by omega
    subst this
    exact ⟨0, rfl, rfl⟩
  | succ f ih =>
    intro m h
    rcases Nat.eq_zero_or_pos m with h0 | h0
    · subst h0
      exact ⟨0, rfl, rfl⟩
    · obtain ⟨k, hk, hl⟩ := ih (m / 10) (by rw [Nat.pow_succ] at h; omega)
      refine ⟨k + 1, ?_, ?_⟩
      · rw [dg_step m h0, pf_append, hk, pf, pf]
        simp only [UInt8.toNat_ofNat']
        rw [if_pos (by omega)]
        congr 1
        omega
      · rw [dg_step m h0, List.length_append, hl]
        rfl
theorem pf_decD (m : Nat) (h : m ≤ 999999999) : ∃ k, pf (Lib.decDigits m) (0, 0) = (m, k) ∧ k = (Lib.decDigits m).length ∧ k ≤ 9 := by
  rcases Nat.eq_zero_or_pos m with h0 | h0
  · subst h0
    refine ⟨1, ?_, ?_, by omega⟩ <;> rw [decD_step] <;> rfl
  · have hd : dg m = Lib.decDigits m := by unfold dg; rw [if_neg (by omega)]
    obtain ⟨k, hk, hl⟩ := pf_dg 9 m (by omega)
    have := dg_len 9 m (by omega)
    rw [hd] at hk hl this
    exact ⟨k, hk, hl, by omega⟩
def isNeg (s : ByteArray) : Prop := 0 < s.size ∧ bt s 0 = 45
instance (s : ByteArray) : Decidable (isNeg s) := by unfold isNeg; infer_instance
def parF (s : ByteArray) (q : Nat × Nat) : Int × Bool :=
  if 9 < q.2 then (0, false) else if 10 < s.size then (0, false) else if dec (if isNeg s then -(q.1 : Int) else (q.1 : Int)) = s then ((if isNeg s then -(q.1 : Int) else (q.1 : Int)), true) else (0, false)
def parI (s : ByteArray) : Int × Bool := parF s (pf (s.data.toList.take 11) (0, 0))
theorem bt_u8 (s : ByteArray) (i : Nat) (h : i < s.data.toList.length) : bt s (i : Int) = ((s.data.toList[i]).toNat : Int) := by
  unfold bt
  rw [dif_pos (show ((i : Int)).toNat < s.size by rw [show ((i : Int)).toNat = i by omega]; rw [Array.length_toList] at h; exact h)]
  congr 1
theorem parI_true {s : ByteArray} {v : Int} (h : parI s = (v, true)) : dec v = s ∧ -999999999 ≤ v ∧ v ≤ 999999999 := by
  unfold parI parF at h
  have hb := pf_b (s.data.toList.take 11) (0, 0) (by simp)
  generalize hq : pf (s.data.toList.take 11) (0, 0) = q at h hb
  by_cases h1 : 9 < q.2
  · rw [if_pos h1] at h; cases h
  · rw [if_neg h1] at h
    by_cases h2 : 10 < s.size
    · rw [if_pos h2] at h; cases h
    · rw [if_neg h2] at h
      have hp : 10 ^ q.2 ≤ 10 ^ 9 := Nat.pow_le_pow_right (by decide) (by omega)
      by_cases h3 : dec (if isNeg s then -(q.1 : Int) else (q.1 : Int)) = s
      · rw [if_pos h3] at h
        injection h with h4 _
        rw [h4] at h3
        refine ⟨h3, ?_⟩
        by_cases h5 : isNeg s
        · rw [if_pos h5] at h4; omega
        · rw [if_neg h5] at h4; omega
      · rw [if_neg h3] at h; cases h
theorem parI_or (s : ByteArray) : parI s = (0, false) ∨ ∃ v, parI s = (v, true) := by
  unfold parI parF
  generalize pf (s.data.toList.take 11) (0, 0) = q
  generalize (if isNeg s then -(q.1 : Int) else (q.1 : Int)) = v
  by_cases h1 : 9 < q.2
  · rw [if_pos h1]; exact .inl rfl
  · rw [if_neg h1]
    by_cases h2 : 10 < s.size
    · rw [if_pos h2]; exact .inl rfl
    · rw [if_neg h2]
      by_cases h3 : dec v = s
      · rw [if_pos h3]; exact .inr ⟨_, rfl⟩
      · rw [if_neg h3]; exact .inl rfl
theorem bt_bs (l : List UInt8) (c : UInt8) : bt (bs (c :: l)) 0 = (c.toNat : Int) := by
  have h := bt_u8 (bs (c :: l)) 0 (by rw [bs_toList]; simp)
  have e : ∀ (t : List UInt8) (ht : t = c :: l) (hh : 0 < t.length), t[0] = c := by
    intro t ht hh
    subst ht
    rfl
  rw [e _ (bs_toList _)] at h
  exact h
theorem dec_head (v : Int) : isNeg (dec v) ↔ v < 0 := by
  by_cases h : v < 0
  · rw [dec_neg v h]
    refine ⟨fun _ => h, fun _ => ⟨by rw [bs_size]; simp, ?_⟩⟩
    rw [bt_bs]
    rfl
  · rw [dec_pos v h]
    refine ⟨fun hn => ?_, fun hn => absurd hn h⟩
    exfalso
    obtain ⟨h0, h1⟩ := hn
    have hd := decD_digit v.toNat
    cases hl : Lib.decDigits v.toNat with
    | nil => exact decD_ne _ hl
    | cons c r =>
      rw [hl] at hd h1
      rw [bt_bs] at h1
      have := hd c (by simp)
      omega
theorem parI_dec (v : Int) (h : -999999999 ≤ v) (h2 : v ≤ 999999999) : parI (dec v) = (v, true) ∧ (dec v).size ≤ 10 := by
  obtain ⟨k, hk, hl, h9⟩ := pf_decD v.natAbs (by omega)
  have hpf : pf ((dec v).data.toList.take 11) (0, 0) = (v.natAbs, k) ∧ (dec v).size ≤ 10 := by
    by_cases hn : v < 0
    · rw [dec_neg v hn, bs_size, bs_toList, List.length_cons, List.take_of_length_le (by rw [List.length_cons]; omega), pf, if_neg (by decide)]
      exact ⟨hk, by omega⟩
    · rw [dec_pos v hn, bs_size, bs_toList, show v.toNat = v.natAbs by omega, List.take_of_length_le (by omega)]
      exact ⟨hk, by omega⟩
  refine ⟨?_, hpf.2⟩
  have hv : (if isNeg (dec v) then -(v.natAbs : Int) else (v.natAbs : Int)) = v := by
    by_cases hn : v < 0
    · rw [if_pos ((dec_head v).2 hn)]; omega
    · rw [if_neg (fun x => hn ((dec_head v).1 x))]; omega
  unfold parI parF
  rw [hpf.1]
  simp only [hv]
  rw [if_neg (by omega), if_neg (by omega), if_pos trivial]

theorem i_FormatInt (n : Int) (h : -9223372036854775808 ≤ n) (h2 : n ≤ 9223372036854775807) : impl_FormatInt.f n = some (dec n) := by
  unfold impl_FormatInt.f strconv_Itoa.f
  rw [if_pos ⟨h, h2⟩]
  rfl

theorem strOfNums_nil : strOfNums [] = ByteArray.empty := rfl
theorem strOfNums_append (xs ys : List Int) : strOfNums (xs ++ ys) = strOfNums xs ++ strOfNums ys := by
  apply ByteArray.ext
  rw [ByteArray.data_append]
  simp [strOfNums]
theorem app_nil (s : ByteArray) : s ++ (⟨#[]⟩ : ByteArray) = s := ByteArray.append_empty

def bl (s : ByteArray) : List Int := s.data.toList.map fun b => (b.toNat : Int)
theorem bl_length (s : ByteArray) : (bl s).length = s.size := by
  unfold bl
  rw [List.length_map, Array.length_toList]
  rfl
theorem bl_append (a b : ByteArray) : bl (a ++ b) = bl a ++ bl b := by simp [bl]
theorem bl_nil : bl ⟨#[]⟩ = [] := rfl
theorem bl_range (s : ByteArray) : ∀ x ∈ bl s, 0 ≤ x ∧ x ≤ 255 := by
  intro x hx
  obtain ⟨b, _, rfl⟩ := List.mem_map.1 hx
  have := b.toNat_lt
  omega
theorem strOfNums_bl (s : ByteArray) : strOfNums (bl s) = s := by
  apply ByteArray.ext
  unfold strOfNums bl
  rw [List.map_map]
  have e : ((fun n : Int => UInt8.ofNat n.toNat) ∘ fun b : UInt8 => (b.toNat : Int)) = id := by
    funext b
    simp
  rw [e, List.map_id]
theorem bl_inj {a b : ByteArray} (h : bl a = bl b) : a = b := by rw [← strOfNums_bl a, ← strOfNums_bl b, h]
theorem bl_strOfNums (xs : List Int) (h : ∀ x ∈ xs, 0 ≤ x ∧ x ≤ 255) : bl (strOfNums xs) = xs := by
  unfold bl strOfNums
  rw [List.map_map]
  conv => rhs; rw [← List.map_id xs]
  apply List.map_congr_left
  intro x hx
  have := h x hx
  simp only [Function.comp, id, UInt8.toNat_ofNat']
  omega
theorem bl_extract0 (s : ByteArray) (k : Nat) : bl (s.extract 0 k) = (bl s).take k := by
  simp [bl, ByteArray.data_extract, Array.toList_extract, List.extract_eq_take_drop]
theorem bl_extract (s : ByteArray) (i j : Nat) : bl (s.extract i j) = ((bl s).drop i).take (j - i) := by
  simp [bl, ByteArray.data_extract, Array.toList_extract, List.extract_eq_take_drop]
theorem bt_bl (s : ByteArray) (i : Int) : bt s i = (bl s).getD i.toNat 0 := by
  unfold bt bl
  by_cases h : i.toNat < s.size
  · rw [dif_pos h, List.getD_eq_getElem?_getD, List.getElem?_map, List.getElem?_eq_getElem (show i.toNat < s.data.toList.length by rw [Array.length_toList]; exact h)]
    rfl
  · rw [dif_neg h, List.getD_eq_getElem?_getD, List.getElem?_eq_none (by rw [List.length_map, Array.length_toList]; exact Nat.le_of_not_lt h)]
    rfl
theorem toList_iff {a b : ByteArray} : a.toList = b.toList ↔ a = b := by
  constructor
  · intro h
    rw [ByteArray.toList_eq, ByteArray.toList_eq] at h
    apply ByteArray.ext
    exact Array.toList_inj.1 h
  · intro h
    rw [h]

theorem pu_append (a b : List UInt8) : ∀ (acc u : Nat), Lib.parseUint10 acc a = .ok u → Lib.parseUint10 acc (a ++ b) = Lib.parseUint10 u b := by
  induction a with
  | nil =>
    intro acc u h
    simp only [Lib.parseUint10] at h
    injection h with h
    rw [List.nil_append, h]
  | cons c a ih =>
    intro acc u h
    rw [List.cons_append]
    simp only [Lib.parseUint10] at h ⊢
    split at h
    · rename_i h1
      rw [if_pos h1]
      split at h
      · cases h
      · rename_i h2
        rw [if_neg h2]
        split at h
        · cases h
        · rename_i h3
          rw [if_neg h3]
          exact ih _ _ h
    · cases h
theorem pu_dg (f : Nat) (hf : f ≤ 10) : ∀ m : Nat, m < 10 ^ f → Lib.parseUint10 0 (dg m) = .ok m := by
  induction f with
  | zero =>
    intro m h
    have : m = 0 := by omega
    subst this
    rfl
  | succ f ih =>
    intro m h
    have hp : 10 ^ (f + 1) ≤ 10 ^ 10 := Nat.pow_le_pow_right (by decide) hf
    rcases Nat.eq_zero_or_pos m with h0 | h0
    · subst h0
      rfl
    · rw [dg_step m h0, pu_append _ _ _ _ (ih (by omega) (m / 10) (by rw [Nat.pow_succ] at h; omega))]
      simp only [Lib.parseUint10, UInt8.toNat_ofNat']
      rw [if_pos (by omega), if_neg (by omega), if_neg (by omega)]
      congr 1
      omega
theorem mag_decD (m : Nat) (h : m ≤ 999999999) : Lib.parseMag (Lib.decDigits m) = .ok m := by
  unfold Lib.parseMag
  rw [if_neg (decD_ne m)]
  rcases Nat.eq_zero_or_pos m with h0 | h0
  · subst h0
    rw [decD_step]
    rfl
  · have hd : dg m = Lib.decDigits m := by unfold dg; rw [if_neg (by omega)]
    rw [← hd]
    exact pu_dg 9 (by omega) m (by omega)
theorem atoi_dec (v : Int) (h : -999999999 ≤ v) (h2 : v ≤ 999999999) : Lib.atoiAll (Lib.itoa v) = .ok v := by
  unfold Lib.itoa
  by_cases hn : v < 0
  · rw [if_pos hn]
    unfold Lib.atoiAll
    simp only
    rw [if_pos (.inr (by decide)), mag_decD _ (by omega)]
    simp only
    rw [if_neg (fun x => x.1 (by decide)), if_neg (by omega), if_pos (by decide)]
    congr 1
    omega
  · rw [if_neg hn]
    obtain ⟨c, r, hcr⟩ : ∃ c r, Lib.decDigits v.toNat = c :: r := by
      cases hd : Lib.decDigits v.toNat with
      | nil => exact absurd hd (decD_ne _)
      | cons c r => exact ⟨c, r, rfl⟩
    have hc := decD_digit v.toNat c (by rw [hcr]; simp)
    have hm := mag_decD v.toNat (by omega)
    rw [hcr] at hm ⊢
    unfold Lib.atoiAll
    simp only
    rw [if_neg (by omega), hm]
    simp only
    rw [if_neg (by omega), if_neg (by omega), if_neg (by omega)]
    congr 1
    omega
theorem atoi_b {l : List UInt8} {v : Int} (h : Lib.atoiAll l = .ok v) : -9223372036854775808 ≤ v ∧ v ≤ 9223372036854775807 := by
  unfold Lib.atoiAll at h
  cases l with
  | nil => cases h
  | cons c r =>
    simp only at h
    split at h
    · cases h
    · cases h
    · rename_i u hu
      split at h
      · cases h
      · split at h
        · cases h
        · injection h with h
          split at h <;> omega
theorem i_ParseInt (s : ByteArray) (hs : s.size ≤ 4194304) : impl_ParseInt.f s = some (parI s) := by
  have back : ∀ v, parI s = (v, true) → Lib.atoiAll s.data.toList = .ok v := by
    intro v hv
    obtain ⟨hd, h1, h2⟩ := parI_true hv
    rw [← hd]
    unfold dec
    rw [bs_toList]
    exact atoi_dec v h1 h2
  have none_ : (∀ v, parI s ≠ (v, true)) → parI s = (0, false) := by
    intro h
    rcases parI_or s with h0 | ⟨v, hv⟩
    · exact h0
    · exact absurd hv (h v)
  unfold impl_ParseInt.f
  rw [if_pos (by omega)]
  cases hA : Lib.atoiAll s.data.toList with
  | ok v =>
    have hb := atoi_b hA
    simp only
    unfold impl_ParseInt.of
    rw [i_FormatInt v hb.1 hb.2]
    simp only [Option.bind_some]
    by_cases hd : dec v = s
    · rw [if_pos (toList_iff.2 hd)]
      by_cases h1 : v > 999999999
      · rw [if_pos h1, none_ (fun v' hv' => by
          have := back v' hv'
          rw [hA] at this
          injection this with this
          have := (parI_true hv').2
          omega)]
      · rw [if_neg h1]
        by_cases h2 : v < -999999999
        · rw [if_pos h2, none_ (fun v' hv' => by
            have := back v' hv'
            rw [hA] at this
            injection this with this
            have := (parI_true hv').2
            omega)]
        · rw [if_neg h2, ← hd, (parI_dec v (by omega) (by omega)).1]
    · rw [if_neg (fun x => hd (toList_iff.1 x)), none_ (fun v' hv' => by
        have := back v' hv'
        rw [hA] at this
        injection this with this
        rw [← this] at hv'
        exact hd (parI_true hv').1)]
  | _ =>
    simp only
    rw [none_ (fun v' hv' => by
      have := back v' hv'
      rw [hA] at this
      cases this)]

theorem tmod_n (m : Nat) : Int.tmod (-(m : Int)) 10 = -((m % 10 : Nat) : Int) := by
  rw [Int.neg_tmod, tmod_pos (by omega)]
  omega
theorem tdiv_n (m : Nat) : Int.tdiv (-(m : Int)) 10 = -((m / 10 : Nat) : Int) := by
  rw [Int.neg_tdiv, tdiv_pos (by omega)]
  omega
theorem s_FormatInt_z (neg : Bool) (out : ByteArray) (ho : out.size ≤ 200) : Ev (fun k => spec_FormatInt.l0 k 0 out neg) ((if neg = true then bs [45] else bs []) ++ (bs (dg 0) ++ out)) := by
  have e : bs (dg 0) ++ out = out := by
    show bs [] ++ out = out
    rw [bs_nil, ByteArray.empty_append]
  rw [e]
  refine Ev.step (f := fun _ => some _) (fun k => ?_) (Ev.now _)
  simp only [spec_FormatInt.l0, if_true]
  cases neg with
  | true =>
    rw [if_pos rfl, if_pos rfl, if_pos (by omega)]
    rfl
  | false =>
    rw [if_neg (by decide), if_neg (by decide), bs_nil, ByteArray.empty_append]
theorem s_FormatInt_l (neg : Bool) (f : Nat) : ∀ (m : Nat) (x : Int) (out : ByteArray), (x = (m : Int) ∨ x = -(m : Int)) → m < 10 ^ f → m ≤ 9223372036854775808 → out.size + f ≤ 100 →
    Ev (fun k => spec_FormatInt.l0 k x out neg) ((if neg = true then bs [45] else bs []) ++ (bs (dg m) ++ out)) := by
  induction f with
  | zero =>
    intro m x out hx hm hm2 ho
    have h0 : m = 0 := by omega
    subst h0
    have hx0 : x = 0 := by omega
    subst hx0
    exact s_FormatInt_z neg out (by omega)
  | succ f ih =>
    intro m x out hx hm hm2 ho
    rcases Nat.eq_zero_or_pos m with h0 | h0
    · subst h0
      have hx0 : x = 0 := by omega
      subst hx0
      exact s_FormatInt_z neg out (by omega)
    · rw [dg_step m h0, bs_append, ByteArray.append_assoc]
      have hsz : (bs [UInt8.ofNat (48 + m % 10)] ++ out).size = 1 + out.size := by rw [ByteArray.size_append, bs_size]; rfl
      have hn : strOfNums [((48 + (m % 10 : Nat) : Nat) : Int)] = bs [UInt8.ofNat (48 + m % 10)] := by
        unfold strOfNums bs
        rfl
      have goal : ∀ x', (x' = ((m / 10 : Nat) : Int) ∨ x' = -((m / 10 : Nat) : Int)) → Ev (fun k => spec_FormatInt.l0 k x' (bs [UInt8.ofNat (48 + m % 10)] ++ out) neg) ((if neg = true then bs [45] else bs []) ++ (bs (dg (m / 10)) ++ (bs [UInt8.ofNat (48 + m % 10)] ++ out))) :=
        fun x' hx' => ih (m / 10) x' _ hx' (by rw [Nat.pow_succ] at hm; omega) (by omega) (by rw [hsz]; omega)
      rcases hx with hx | hx
      · subst hx
        refine Ev.step (fun k => ?_) (goal ((m / 10 : Nat) : Int) (.inl rfl))
        simp only [spec_FormatInt.l0, Option.bind_some]
        rw [if_neg (by omega), tmod_pos (show (0 : Int) ≤ (m : Int) by omega), tdiv_pos (show (0 : Int) ≤ (m : Int) by omega), if_neg (by omega), w64 (x := 48 + (m : Int) % 10) (by omega) (by omega), w64 (x := (m : Int) / 10) (by omega) (by omega),
          show (48 + (m : Int) % 10) % 256 = ((48 + (m % 10 : Nat) : Nat) : Int) by omega, hn, if_pos (by rw [bs_size]; simp; omega)]
        rfl
      · subst hx
        refine Ev.step (fun k => ?_) (goal (-((m / 10 : Nat) : Int)) (.inr rfl))
        simp only [spec_FormatInt.l0, Option.bind_some]
        rw [if_neg (by omega), tmod_n, tdiv_n]
        by_cases hz : m % 10 = 0
        · rw [if_neg (by omega), w64 (x := 48 + -((m % 10 : Nat) : Int)) (by omega) (by omega), w64 (x := -((m / 10 : Nat) : Int)) (by omega) (by omega),
            show (48 + -((m % 10 : Nat) : Int)) % 256 = ((48 + (m % 10 : Nat) : Nat) : Int) by omega, hn, if_pos (by rw [bs_size]; simp; omega)]
        · rw [if_pos (by omega), w64 (x := -(-((m % 10 : Nat) : Int))) (by omega) (by omega), w64 (x := 48 + -(-((m % 10 : Nat) : Int))) (by omega) (by omega), w64 (x := -((m / 10 : Nat) : Int)) (by omega) (by omega),
            show (48 + -(-((m % 10 : Nat) : Int))) % 256 = ((48 + (m % 10 : Nat) : Nat) : Int) by omega, hn, if_pos (by rw [bs_size]; simp; omega)]
theorem s_FormatInt (n : Int) (h : -9223372036854775808 ≤ n) (h2 : n ≤ 9223372036854775807) : Ev (fun k => spec_FormatInt.f k n) (dec n) := by
  unfold spec_FormatInt.f
  by_cases h0 : n = 0
  · simp only [if_pos h0]
    subst h0
    have e : dec 0 = (⟨#[48]⟩ : ByteArray) := by
      rw [dec_pos 0 (by omega), show (0 : Int).toNat = 0 by rfl, decD_step]
      rfl
    rw [e]
    exact Ev.now _
  · simp only [if_neg h0]
    have key := s_FormatInt_l (decide (n < 0)) 20 n.natAbs n ⟨#[]⟩ (by omega) (by omega) (by omega) (by simp [ByteArray.size])
    have e : (if decide (n < 0) = true then bs [45] else bs []) ++ (bs (dg n.natAbs) ++ (⟨#[]⟩ : ByteArray)) = dec n := by
      rw [show (⟨#[]⟩ : ByteArray) = bs [] from rfl, ← bs_append, List.append_nil]
      have hd : dg n.natAbs = Lib.decDigits n.natAbs := by unfold dg; rw [if_neg (by omega)]
      by_cases hn : n < 0
      · rw [if_pos (by simpa using hn), dec_neg n hn, ← bs_append, hd]
        rfl
      · rw [if_neg (by simpa using hn), dec_pos n hn, ← bs_append, hd, show n.natAbs = n.toNat by omega]
        rfl
    rw [e] at key
    exact key

theorem lsz (l : List UInt8) : (ByteArray.mk l.toArray).size = l.length := by simp [ByteArray.size]
theorem lsz0 : (⟨#[]⟩ : ByteArray).size = 0 := rfl
theorem eapp (s : ByteArray) : (⟨#[]⟩ : ByteArray) ++ s = s := ByteArray.empty_append
theorem appe (s : ByteArray) : s ++ (⟨#[]⟩ : ByteArray) = s := ByteArray.append_empty
theorem dec30 {n : Int} (h : -9223372036854775808 ≤ n) (h2 : n ≤ 9223372036854775807) : (dec n).size ≤ 30 := dec_small n h h2
theorem Ev_if {α : Type} {c : Prop} [Decidable c] {f g : Nat → Option α} {r : α} (hc : c) (h : Ev f r) : Ev (fun n => if c then f n else g n) r := by
  simp only [if_pos hc]
  exact h
theorem ifle {α : Type} {n : Nat} {x y : α} (h : n ≤ 9223372036854775807) : (if n ≤ 9223372036854775807 then x else y) = x := if_pos h

def isH (h : Int) : Prop := 2 ≤ h ∧ h / 2 % 64 ≠ 0 ∧ h / 2 / 64 ≤ 9999
instance (h : Int) : Decidable (isH h) := by unfold isH; infer_instance
theorem s_IsHandle (h : Int) (h1 : h ≤ 9223372036854775807) : spec_IsHandle.f h = some (decide (isH h)) := by
  unfold spec_IsHandle.f isH
  by_cases h2 : h > 1
  · rw [if_pos h2, tdiv_pos (by omega), w64 (by omega) (by omega), tmod_pos (by omega), tdiv_pos (by omega), w64 (by omega) (by omega)]
    by_cases h3 : h / 2 % 64 > 0
    · rw [if_pos h3]
      congr 1
      exact decide_eq_decide.2 (by omega)
    · rw [if_neg h3]
      exact congrArg some (decide_eq_false (by omega)).symm
  · rw [if_neg h2]
    exact congrArg some (decide_eq_false (by omega)).symm

theorem i_parts (h : Int) (h1 : h ≤ 9223372036854775807) : impl_parts.f h = some (if isH h then (h / 2 % 64 - 1, h / 2 / 64, true) else (-1, -1, false)) := by
  unfold impl_parts.f
  by_cases h2 : h < 2
  · rw [if_pos h2, if_neg (by unfold isH; omega)]
  · rw [if_neg h2, tdiv_pos (by omega), w64 (x := h / 2) (by omega) (by omega), w64 (x := h / 2 - 1) (by omega) (by omega), tmod_pos (by omega), tdiv_pos (by omega), w64 (by omega) (by omega)]
    by_cases h3 : isH h
    · rw [if_pos h3]
      unfold isH at h3
      rw [if_neg (by omega), if_neg (by omega)]
      have e1 : (h / 2 - 1) % 64 = h / 2 % 64 - 1 := by omega
      have e2 : (h / 2 - 1) / 64 = h / 2 / 64 := by omega
      rw [e1, e2]
    · rw [if_neg h3]
      unfold isH at h3
      repeat' split
      all_goals first | rfl | omega

def idxOf (h : Int) : Int := if isH h then h / 2 % 64 - 1 else -1
theorem s_IndexOf (h : Int) (h1 : h ≤ 9223372036854775807) : spec_IndexOf.f h = some (idxOf h) := by
  unfold spec_IndexOf.f idxOf
  rw [s_IsHandle h h1]
  simp only [Option.bind_some, decide_eq_true_eq]
  by_cases h3 : isH h
  · have h4 := h3
    unfold isH at h4
    rw [if_pos h3, if_pos h3, tdiv_pos (x := h) (by omega), w64 (x := h / 2) (by omega) (by omega), tmod_pos (x := h / 2) (by omega), w64 (by omega) (by omega)]
  · rw [if_neg h3, if_neg h3]
theorem i_IndexOf (h : Int) (h1 : h ≤ 9223372036854775807) : impl_IndexOf.f h = some (idxOf h) := by
  unfold impl_IndexOf.f idxOf
  rw [i_parts h h1]
  by_cases h2 : isH h <;> simp [h2]

def genOf (h : Int) : Int := if isH h then h / 2 / 64 else -1
theorem s_GenerationOf (h : Int) (h1 : h ≤ 9223372036854775807) : spec_GenerationOf.f h = some (genOf h) := by
  unfold spec_GenerationOf.f genOf
  rw [s_IsHandle h h1]
  simp only [Option.bind_some, decide_eq_true_eq]
  by_cases h3 : isH h
  · have h4 := h3
    unfold isH at h4
    rw [if_pos h3, if_pos h3, tdiv_pos (x := h) (by omega), w64 (x := h / 2) (by omega) (by omega), tdiv_pos (by omega), w64 (by omega) (by omega)]
  · rw [if_neg h3, if_neg h3]
theorem i_GenerationOf (h : Int) (h1 : h ≤ 9223372036854775807) : impl_GenerationOf.f h = some (genOf h) := by
  unfold impl_GenerationOf.f genOf
  rw [i_parts h h1]
  by_cases h2 : isH h <;> simp [h2]

theorem i_IsHandle (h : Int) (h1 : h ≤ 9223372036854775807) : impl_IsHandle.f h = some (decide (isH h)) := by
  unfold impl_IsHandle.f
  rw [i_parts h h1]
  by_cases h2 : isH h <;> simp [h2]

def isM (h : Int) : Prop := h = 1 ∨ isH h ∧ h % 2 = 1
instance (h : Int) : Decidable (isM h) := by unfold isM; infer_instance
theorem s_IsMarked (h : Int) (h1 : h ≤ 9223372036854775807) : spec_IsMarked.f h = some (decide (isM h)) := by
  unfold spec_IsMarked.f isM
  by_cases h2 : h = 1
  · simp [h2]
  · rw [if_neg h2, s_IsHandle h h1]
    simp only [Option.bind_some, decide_eq_true_eq]
    by_cases h3 : isH h
    · rw [if_pos h3, tmod_pos (by unfold isH at h3; omega)]
      by_cases h4 : h % 2 = 1 <;> simp [h2, h3, h4]
    · rw [if_neg h3]
      simp [h2, h3]
theorem i_IsMarked (h : Int) (h1 : h ≤ 9223372036854775807) : impl_IsMarked.f h = some (decide (isM h)) := by
  unfold impl_IsMarked.f isM
  by_cases h2 : h = 1
  · simp [h2]
  · rw [if_neg h2, i_IsHandle h h1]
    simp only [Option.bind_some, decide_eq_true_eq]
    by_cases h3 : isH h
    · rw [if_pos h3, tmod_pos (by unfold isH at h3; omega)]
      by_cases h4 : h % 2 = 1 <;> simp [h2, h3, h4]
    · rw [if_neg h3]
      simp [h2, h3]

def unm (h : Int) : Int := if isM h then h - 1 else h
theorem s_Unmarked (h : Int) (h1 : h ≤ 9223372036854775807) : spec_Unmarked.f h = some (unm h) := by
  unfold spec_Unmarked.f unm
  rw [s_IsMarked h h1]
  simp only [Option.bind_some, decide_eq_true_eq]
  by_cases h2 : isM h
  · have h3 := h2
    unfold isM isH at h3
    rw [if_pos h2, if_pos h2, w64 (by omega) (by omega)]
  · rw [if_neg h2, if_neg h2]

def fhS (h : Int) : ByteArray := if isM h then bs [42] else bs []
def fh (h : Int) : ByteArray := if unm h = 0 then bs [110, 111, 110, 101] ++ fhS h else if isH h then ((dec (idxOf h) ++ bs [46]) ++ dec (genOf h)) ++ fhS h else bs []
theorem fhS_size (h : Int) : (fhS h).size ≤ 1 := by
  unfold fhS
  by_cases m : isM h
  · rw [if_pos m]; exact Nat.le_refl _
  · rw [if_neg m]; exact Nat.zero_le _
theorem idx_b (h : Int) : -1 ≤ idxOf h ∧ idxOf h ≤ 62 := by
  by_cases d : isH h
  · rw [idxOf, if_pos d]; unfold isH at d; omega
  · rw [idxOf, if_neg d]; omega
theorem gen_b (h : Int) : -1 ≤ genOf h ∧ genOf h ≤ 9999 := by
  by_cases d : isH h
  · rw [genOf, if_pos d]; unfold isH at d; omega
  · rw [genOf, if_neg d]; omega
theorem fh_size (h : Int) : (fh h).size ≤ 100 := by
  have h1 := fhS_size h
  have i1 := idx_b h
  have g1 := gen_b h
  have d1 := dec30 (n := idxOf h) (by omega) (by omega)
  have d2 := dec30 (n := genOf h) (by omega) (by omega)
  have e1 : (bs [110, 111, 110, 101]).size = 4 := rfl
  have e2 : (bs [46]).size = 1 := rfl
  have e3 : (bs []).size = 0 := rfl
  unfold fh
  split
  · rw [ByteArray.size_append]; omega
  · split
    · rw [ByteArray.size_append, ByteArray.size_append, ByteArray.size_append]; omega
    · omega
theorem unm_idx (h : Int) : idxOf (unm h) = idxOf h ∧ genOf (unm h) = genOf h ∨ h = 1 := by
  by_cases c : isM h
  · have e : unm h = h - 1 := if_pos c
    have c' := c
    unfold isM at c'
    rcases c' with c1 | ⟨c1, c2⟩
    · exact .inr c1
    · left
      have d2 : isH (h - 1) := by unfold isH at c1 ⊢; omega
      have e2 : (h - 1) / 2 = h / 2 := by omega
      unfold idxOf genOf
      rw [e, if_pos d2, if_pos c1, if_pos d2, if_pos c1, e2]
      exact ⟨rfl, rfl⟩
  · have e : unm h = h := if_neg c
    rw [e]
    exact .inl ⟨rfl, rfl⟩
theorem unm_b (h : Int) (h0 : -9223372036854775808 ≤ h) (h1 : h ≤ 9223372036854775807) : unm h ≤ 9223372036854775807 := by
  by_cases c : isM h
  · rw [unm, if_pos c]; omega
  · rw [unm, if_neg c]; omega
theorem unm_H {h : Int} (d : isH h) : unm h ≠ 0 := by
  unfold isH at d
  by_cases c : isM h
  · rw [unm, if_pos c]; omega
  · rw [unm, if_neg c]; omega
theorem unm_0 {h : Int} (d : ¬ isH h) (z : h ≠ 0) (o : h ≠ 1) : unm h ≠ 0 := by
  by_cases c : isM h
  · unfold isM at c
    rcases c with c | c
    · exact absurd c o
    · exact absurd c.1 d
  · rw [unm, if_neg c]; exact z
theorem s_FormatHandle_j (h : Int) (x3 : ByteArray) (hx : x3.size ≤ 1) (h0 : -9223372036854775808 ≤ h) (h1 : h ≤ 9223372036854775807) :
    Ev (fun k => spec_FormatHandle.j0 k h x3) (if unm h = 0 then bs [110, 111, 110, 101] ++ x3 else if isH h then ((dec (idxOf h) ++ bs [46]) ++ dec (genOf h)) ++ x3 else bs []) := by
  have hu := unm_b h h0 h1
  by_cases c : unm h = 0
  · rw [if_pos c]
    refine Ev.step (f := fun _ => some _) (fun k => ?_) (Ev.now _)
    simp only [spec_FormatHandle.j0, s_Unmarked h h1, Option.bind_some, if_pos c]
    rw [if_pos (by omega)]
    rfl
  · rw [if_neg c]
    by_cases d : isH h
    · rw [if_pos d]
      have hi : idxOf (unm h) = idxOf h ∧ genOf (unm h) = genOf h := by
        rcases unm_idx h with e | e
        · exact e
        · subst e
          exact absurd d (by unfold isH; omega)
      have i1 := idx_b h
      have g1 := gen_b h
      have d1 := dec30 (n := idxOf h) (by omega) (by omega)
      have d2 := dec30 (n := genOf h) (by omega) (by omega)
      refine Ev.step (f := fun k => (spec_FormatInt.f k (idxOf h)).bind fun t115 => if t115.size + 1 ≤ 9223372036854775807 then (spec_FormatInt.f k (genOf h)).bind fun t117 => if (t115 ++ bs [46]).size + t117.size ≤ 9223372036854775807 then if ((t115 ++ bs [46]) ++ t117).size + x3.size ≤ 9223372036854775807 then some (((t115 ++ bs [46]) ++ t117) ++ x3) else none else none else none) (fun k => ?_) (Ev.bind (s_FormatInt (idxOf h) (by omega) (by omega)) ?_)
      · simp only [spec_FormatHandle.j0, s_Unmarked h h1, Option.bind_some, if_neg c, s_IsHandle h h1, decide_eq_true d, if_true, s_IndexOf (unm h) hu, s_GenerationOf (unm h) hu, hi.1, hi.2]
        rfl
      · simp (disch := omega) only [ifle]
        refine Ev.bind (s_FormatInt (genOf h) (by omega) (by omega)) ?_
        simp (disch := omega) only [ifle, ByteArray.size_append, bs_size, List.length_cons, List.length_nil]
        exact Ev.now _
    · rw [if_neg d]
      refine Ev.step (f := fun _ => some _) (fun k => ?_) (Ev.now _)
      simp only [spec_FormatHandle.j0, s_Unmarked h h1, Option.bind_some, if_neg c, s_IsHandle h h1, decide_eq_false d]
      rw [if_neg (by decide)]
      rfl
theorem s_FormatHandle (h : Int) (h0 : -9223372036854775808 ≤ h) (h1 : h ≤ 9223372036854775807) : Ev (fun k => spec_FormatHandle.f k h) (fh h) := by
  unfold spec_FormatHandle.f fh fhS
  simp only [s_IsMarked h h1, Option.bind_some, decide_eq_true_eq]
  by_cases m : isM h
  · simp only [if_pos m]
    exact s_FormatHandle_j h _ (by decide) h0 h1
  · simp only [if_neg m]
    exact s_FormatHandle_j h _ (by decide) h0 h1

theorem i_FormatHandle (h : Int) (h0 : -9223372036854775808 ≤ h) (h1 : h ≤ 9223372036854775807) : Ev (fun k => impl_FormatHandle.f k h) (fh h) := by
  unfold impl_FormatHandle.f
  simp only [i_IsHandle h h1, Option.bind_some, decide_eq_true_eq]
  have i1 := idx_b h
  have g1 := gen_b h
  have d1 := dec30 (n := idxOf h) (by omega) (by omega)
  have d2 := dec30 (n := genOf h) (by omega) (by omega)
  by_cases d : isH h
  · have hu := unm_H d
    simp only [if_pos d, i_IndexOf h h1, i_GenerationOf h h1, i_IsMarked h h1, Option.bind_some, i_FormatInt (idxOf h) (by omega) (by omega), i_FormatInt (genOf h) (by omega) (by omega), decide_eq_true_eq]
    simp only [ByteArray.size_append, lsz, List.length_cons, List.length_nil]
    rw [if_pos (by omega), if_pos (by omega)]
    unfold fh fhS
    rw [if_neg hu, if_pos d]
    by_cases m : isM h
    · rw [if_pos m, if_pos m, if_pos (by omega)]
      exact Ev.now _
    · rw [if_neg m, if_neg m]
      rw [bs_nil, ByteArray.append_empty]
      exact Ev.now _
  · simp only [if_neg d]
    by_cases z : h = 0
    · subst z
      simp only [if_true]
      refine Ev.step (f := fun _ => some _) (fun k => ?_) (Ev.now _)
      simp only [impl_FormatHandle.j0, i_IsMarked 0 h1, Option.bind_some]
      rw [if_neg (by decide), if_neg (by decide)]
      rfl
    · simp only [if_neg z]
      by_cases o : h = 1
      · subst o
        refine Ev.step (f := fun _ => some _) (fun k => ?_) (Ev.now _)
        simp only [impl_FormatHandle.j0, i_IsMarked 1 h1, Option.bind_some]
        rw [if_neg (by decide), if_pos (by decide), if_pos (by decide)]
        rfl
      · refine Ev.step (f := fun _ => some _) (fun k => ?_) (Ev.now _)
        simp only [impl_FormatHandle.j0]
        rw [if_pos (by simpa using o)]
        unfold fh
        rw [if_neg (unm_0 d z o), if_neg d]
        rfl

theorem l1In_ (x a b : Int) : spec_l1In.f x a b = some (decide (a ≤ x ∧ x ≤ b)) := by
  unfold spec_l1In.f
  by_cases h : a ≤ x <;> simp [h]

def mkH (a b : Int) : Int := if 0 ≤ a ∧ a ≤ 62 ∧ 0 ≤ b ∧ b ≤ 9999 then (b * 64 + a + 1) * 2 else 0
theorem s_MakeHandle (a b : Int) : spec_MakeHandle.f a b = some (mkH a b) := by
  unfold spec_MakeHandle.f mkH
  simp only [l1In_, Option.bind_some, decide_eq_true_eq]
  by_cases h1 : 0 ≤ a ∧ a ≤ 62
  · by_cases h2 : 0 ≤ b ∧ b ≤ 9999
    · rw [if_pos h1, if_pos h2, if_pos ⟨h1.1, h1.2, h2.1, h2.2⟩]
      congr 1
      unfold wrap64
      omega
    · rw [if_pos h1, if_neg h2, if_neg (by omega)]
  · rw [if_neg h1, if_neg (by omega)]
theorem i_MakeHandle (a b : Int) : impl_MakeHandle.f a b = some (mkH a b) := by
  unfold impl_MakeHandle.f mkH
  by_cases h1 : 0 ≤ a ∧ a ≤ 62 ∧ 0 ≤ b ∧ b ≤ 9999
  · rw [if_neg (by omega), if_neg (by omega), if_neg (by omega), if_neg (by omega), if_pos h1]
    congr 1
    unfold wrap64
    omega
  · rw [if_neg h1]
    repeat' split
    all_goals first | rfl | omega

def mrk (h : Int) : Int := if h = 0 ∨ isH h ∧ h % 2 = 0 then h + 1 else h
theorem i_Marked (h : Int) (h1 : h ≤ 9223372036854775807) : impl_Marked.f h = some (mrk h) := by
  unfold impl_Marked.f mrk
  by_cases h2 : h = 0
  · rw [if_pos h2, if_pos (.inl h2), w64 (by omega) (by omega)]
  · rw [if_neg h2, i_IsHandle h h1]
    simp only [Option.bind_some, decide_eq_true_eq]
    by_cases h3 : isH h
    · have h4 := h3
      unfold isH at h4
      rw [if_pos h3, tmod_pos (x := h) (by omega)]
      by_cases h5 : h % 2 = 0
      · rw [if_pos h5, if_pos (.inr ⟨h3, h5⟩), w64 (by omega) (by omega)]
      · rw [if_neg h5, if_neg (fun x => x.elim h2 (fun y => h5 y.2))]
    · rw [if_neg h3, if_neg (fun x => x.elim h2 (fun y => h3 y.1))]

theorem s_ParseInt_j2 (s : ByteArray) (q : Nat × Nat) (hq : q.1 < 10 ^ q.2) (h11 : q.2 ≤ 11) : Ev (fun k => spec_ParseInt.j2 k s (q.1 : Int) (q.2 : Int) (decide (isNeg s))) (parF s q) := by
  have hp : 10 ^ q.2 ≤ 10 ^ 11 := Nat.pow_le_pow_right (by decide) h11
  unfold parF
  by_cases h1 : 9 < q.2
  · rw [if_pos h1]
    refine Ev.step (f := fun _ => some (0, false)) (fun k => ?_) (Ev.now _)
    simp only [spec_ParseInt.j2]
    by_cases hn : isNeg s
    · rw [if_pos (by simpa using hn), if_pos (by omega)]
    · rw [if_neg (by simpa using hn), if_pos (by omega)]
  · rw [if_neg h1]
    by_cases h2 : 10 < s.size
    · rw [if_pos h2]
      refine Ev.step (f := fun _ => some (0, false)) (fun k => ?_) (Ev.now _)
      simp only [spec_ParseInt.j2]
      by_cases hn : isNeg s
      · rw [if_pos (by simpa using hn), if_neg (by omega), if_pos (by omega)]
      · rw [if_neg (by simpa using hn), if_neg (by omega), if_pos (by omega)]
    · rw [if_neg h2]
      have key : ∀ v : Int, -9223372036854775808 ≤ v → v ≤ 9223372036854775807 → Ev (fun k => (spec_FormatInt.f k v).bind fun t => if t.toList = s.toList then some (v, true) else some (0, false)) (if dec v = s then (v, true) else (0, false)) := by
        intro v hv hv2
        refine Ev.bind (s_FormatInt v hv hv2) ⟨0, fun _ _ => ?_⟩
        by_cases h : dec v = s
        · rw [if_pos (toList_iff.2 h), if_pos h]
        · rw [if_neg (fun x => h (toList_iff.1 x)), if_neg h]
      by_cases hn : isNeg s
      · rw [if_pos hn]
        refine Ev.step (fun k => ?_) (key (-(q.1 : Int)) (by omega) (by omega))
        simp only [spec_ParseInt.j2]
        rw [if_pos (by simpa using hn), if_neg (by omega), if_neg (by omega), w64 (x := -(q.1 : Int)) (by omega) (by omega)]
      · rw [if_neg hn]
        refine Ev.step (fun k => ?_) (key (q.1 : Int) (by omega) (by omega))
        simp only [spec_ParseInt.j2]
        rw [if_neg (by simpa using hn), if_neg (by omega), if_neg (by omega)]
theorem s_ParseInt_l (s : ByteArray) (hs : s.size ≤ 4194304) (d : Nat) : ∀ (i : Nat) (q : Nat × Nat), i + d = 11 → q.1 < 10 ^ q.2 → q.2 ≤ i →
    Ev (fun k => spec_ParseInt.l0 k s (q.1 : Int) (q.2 : Int) i) (parF s (pf ((s.data.toList.drop i).take d) q)) := by
  have hsz : s.data.toList.length = s.size := by rw [Array.length_toList]; rfl
  have stop : ∀ (i : Nat) (q : Nat × Nat), i ≤ 11 → (11 ≤ i ∨ s.size ≤ i) → q.1 < 10 ^ q.2 → q.2 ≤ i → Ev (fun k => spec_ParseInt.l0 k s (q.1 : Int) (q.2 : Int) i) (parF s q) := by
    intro i q h11 hi hq hq2
    have hj := s_ParseInt_j2 s q hq (by omega)
    refine Ev.step (f := fun k => spec_ParseInt.j1 k s (q.1 : Int) (q.2 : Int) i false) (fun k => ?_) (Ev.step (f := fun k => spec_ParseInt.j2 k s (q.1 : Int) (q.2 : Int) (decide (isNeg s))) (fun k => ?_) hj)
    · simp only [spec_ParseInt.l0]
      by_cases h1 : (i : Int) < s.size
      · rw [if_pos h1, decide_eq_false (by omega)]
      · rw [if_neg h1]
    · simp only [spec_ParseInt.j1]
      rw [if_neg (by simp)]
      by_cases h0 : (s.size : Int) > 0
      · rw [if_pos h0, if_pos h0]
        congr 1
        by_cases hn : isNeg s
        · rw [decide_eq_true hn, hn.2]; rfl
        · rw [decide_eq_false hn]
          exact beq_eq_false_iff_ne.2 (fun h45 => hn ⟨by omega, h45⟩)
      · rw [if_neg h0]
        congr 1
        exact (decide_eq_false (fun (x : isNeg s) => h0 (by have := x.1; omega))).symm
  induction d with
  | zero =>
    intro i q hi hq hq2
    rw [List.take_zero, pf]
    exact stop i q (by omega) (.inl (by omega)) hq hq2
  | succ d ih =>
    intro i q hi hq hq2
    by_cases h1 : s.size ≤ i
    · rw [List.drop_eq_nil_of_le (by omega), List.take_nil, pf]
      exact stop i q (by omega) (.inr h1) hq hq2
    · have hb := bt_u8 s i (by omega)
      have hp : 10 ^ q.2 ≤ 10 ^ 11 := Nat.pow_le_pow_right (by decide) (by omega)
      rw [List.drop_eq_getElem_cons (show i < s.data.toList.length by omega), List.take_succ_cons, pf]
      have hlt := (s.data.toList[i]'(by omega)).toNat_lt
      generalize (s.data.toList[i]'(by omega)).toNat = c at hb hlt
      refine Ev.step (f := fun k => spec_ParseInt.j1 k s (q.1 : Int) (q.2 : Int) i true) (fun k => ?_) ?_
      · simp only [spec_ParseInt.l0]
        rw [if_pos (by omega), decide_eq_true (by omega)]
      · by_cases hc : 48 ≤ c ∧ c ≤ 57
        · rw [if_pos hc]
          refine Ev.step (fun k => ?_) (ih (i + 1) (q.1 * 10 + (c - 48), q.2 + 1) (by omega) (by simp only [Nat.pow_succ]; omega) (by simp only; omega))
          simp only [spec_ParseInt.j1, if_true]
          rw [if_pos (by omega), if_pos (by omega), hb, if_pos (by omega), if_pos (by omega), w64 (x := (q.1 : Int) * 10) (by omega) (by omega), w64 (x := (q.2 : Int) + 1) (by omega) (by omega), w64 (x := (i : Int) + 1) (by omega) (by omega), show ((c : Int) - 48) % 256 = ((c - 48 : Nat) : Int) by omega, w64 (by omega) (by omega)]
          congr 1
        · rw [if_neg hc]
          refine Ev.step (fun k => ?_) (ih (i + 1) q (by omega) hq (by omega))
          simp only [spec_ParseInt.j1, if_true]
          rw [if_pos (by omega), if_pos (by omega), hb, w64 (x := (i : Int) + 1) (by omega) (by omega)]
          by_cases h48 : (c : Int) ≥ 48
          · rw [if_pos h48, if_neg (by omega)]
            rfl
          · rw [if_neg h48]
            rfl
theorem s_ParseInt (s : ByteArray) (hs : s.size ≤ 4194304) : Ev (fun k => spec_ParseInt.f k s) (parI s) := by
  have := s_ParseInt_l s hs 11 0 (0, 0) (by omega) (by simp) (by simp)
  rw [List.drop_zero] at this
  exact this

def cutL (c : Int) : List ByteArray → ByteArray → List UInt8 → List ByteArray
  | out, part, [] => out ++ [part]
  | out, part, b :: r => if (b.toNat : Int) = c then cutL c (out ++ [part]) (bs []) r else cutL c out (part ++ bs [b]) r
theorem ext1 (s : ByteArray) (i : Nat) (h : i < s.data.toList.length) : s.extract i (i + 1) = bs [s.data.toList[i]] := by
  apply bl_inj
  rw [bl_extract]
  unfold bl
  rw [← List.map_drop, ← List.map_take, bs_toList, show i + 1 - i = 1 by omega, List.drop_eq_getElem_cons h, List.take_succ_cons, List.take_zero]
theorem s_l2Cut_l (s : ByteArray) (hs : s.size ≤ 4194304) (c : Int) (d : Nat) : ∀ (i : Nat) (out : List ByteArray) (part : ByteArray), i + d = s.size → out.length ≤ i → part.size ≤ i →
    Ev (fun k => spec_l2Cut.l0 k s c out part i) (cutL c out part (s.data.toList.drop i)) := by
  have hsz : s.data.toList.length = s.size := by rw [Array.length_toList]; rfl
  induction d with
  | zero =>
    intro i out part hi h1 h2
    rw [List.drop_eq_nil_of_le (by omega), cutL]
    refine Ev.step (f := fun _ => some _) (fun k => ?_) (Ev.now _)
    simp only [spec_l2Cut.l0]
    rw [if_neg (by omega), if_pos (by omega)]
  | succ d ih =>
    intro i out part hi h1 h2
    have hlt : i < s.data.toList.length := by omega
    have hb := bt_u8 s i hlt
    have hx := ext1 s i hlt
    rw [List.drop_eq_getElem_cons hlt, cutL]
    generalize s.data.toList[i] = b at hb hx
    by_cases hc : (b.toNat : Int) = c
    · rw [if_pos hc]
      refine Ev.step (fun k => ?_) (ih (i + 1) (out ++ [part]) (bs []) (by omega) (by simp; omega) (by rw [bs_size]; simp))
      simp only [spec_l2Cut.l0]
      rw [if_pos (by omega), if_pos (by omega), hb, if_pos hc, if_pos (by omega), w64 (x := (i : Int) + 1) (by omega) (by omega)]
      rfl
    · rw [if_neg hc]
      refine Ev.step (fun k => ?_) (ih (i + 1) out (part ++ bs [b]) (by omega) (by omega) (by rw [ByteArray.size_append, bs_size]; simp; omega))
      simp only [spec_l2Cut.l0]
      rw [if_pos (by omega), if_pos (by omega), hb, if_neg hc, w64 (x := (i : Int) + 1) (by omega) (by omega), if_pos (by omega), if_pos (by omega), show ((i : Int)).toNat = i by omega, show ((i : Int) + 1).toNat = i + 1 by omega, hx, if_pos (by rw [bs_size]; simp; omega)]
      rfl
theorem s_l2Cut (s : ByteArray) (hs : s.size ≤ 4194304) (c : Int) : Ev (fun k => spec_l2Cut.f k s c) (cutL c [] (bs []) s.data.toList) := by
  have := s_l2Cut_l s hs c s.size 0 [] (bs []) (by omega) (by simp) (by rw [bs_size]; simp)
  rw [List.drop_zero] at this
  exact this
theorem cutL_size (c : Int) (l : List UInt8) : ∀ (out : List ByteArray) (part : ByteArray), ∀ p ∈ cutL c out part l, p ∈ out ∨ p.size ≤ part.size + l.length := by
  induction l with
  | nil =>
    intro out part p hp
    rw [cutL] at hp
    rcases List.mem_append.1 hp with h | h
    · exact .inl h
    · rw [List.mem_singleton] at h
      subst h
      exact .inr (by simp)
  | cons b r ih =>
    intro out part p hp
    rw [cutL] at hp
    rw [List.length_cons]
    by_cases hc : (b.toNat : Int) = c
    · rw [if_pos hc] at hp
      rcases ih _ _ p hp with h | h
      · rcases List.mem_append.1 h with h | h
        · exact .inl h
        · rw [List.mem_singleton] at h
          subst h
          exact .inr (by omega)
      · rw [bs_size] at h
        exact .inr (by simp at h; omega)
    · rw [if_neg hc] at hp
      rcases ih _ _ p hp with h | h
      · exact .inl h
      · rw [ByteArray.size_append, bs_size] at h
        exact .inr (by simp at h; omega)
theorem cutL_small (s : ByteArray) (hs : s.size ≤ 4194304) (c : Int) : ∀ p ∈ cutL c [] (bs []) s.data.toList, p.size ≤ 4194304 := by
  intro p hp
  have hsz : s.data.toList.length = s.size := by rw [Array.length_toList]; rfl
  rcases cutL_size c _ _ _ p hp with h | h
  · cases h
  · rw [bs_size] at h
    simp at h
    have : s.data.size = s.size := rfl
    omega
theorem cutL_nd (c : Int) (D r : List UInt8) : (∀ b ∈ D, (b.toNat : Int) ≠ c) → ∀ out part, cutL c out part (D ++ r) = cutL c out (part ++ bs D) r := by
  induction D with
  | nil =>
    intro _ out part
    rw [List.nil_append, bs_nil, ByteArray.append_empty]
  | cons b D ih =>
    intro h out part
    rw [List.cons_append, cutL, if_neg (h b (by simp)), ih (fun x hx => h x (by simp [hx])), ByteArray.append_assoc, ← bs_append]
    rfl
theorem cutL_two (D E : List UInt8) (hD : ∀ b ∈ D, (b.toNat : Int) ≠ 46) (hE : ∀ b ∈ E, (b.toNat : Int) ≠ 46) : cutL 46 [] (bs []) (D ++ 46 :: E) = [bs D, bs E] := by
  rw [cutL_nd 46 D _ hD, cutL, if_pos (by decide)]
  have := cutL_nd 46 E [] hE ([] ++ [bs [] ++ bs D]) (bs [])
  rw [List.append_nil] at this
  rw [this, cutL, bs_nil, ByteArray.empty_append, ByteArray.empty_append]
  rfl

def phB (k : Nat) (x0 x4 : ByteArray) (x5 : Int) (t131 : List ByteArray) : Option (Int × Bool) := (if (t131.length : Int) = 2 then (if 0 < (t131.length : Int) then ((spec_ParseInt.f k (rdOf ByteArray.empty t131 0)).bind fun bt135 => (if 1 < (t131.length : Int) then ((spec_ParseInt.f k (rdOf ByteArray.empty t131 1)).bind fun bt138 => ((spec_MakeHandle.f bt135.1 bt138.1).bind fun t140 => ((spec_FormatHandle.f k (wrap64 (t140 + x5))).bind fun t141 => (if t141.toList = x0.toList then (some (wrap64 (t140 + x5), true)) else (some (0, false)))))) else (none))) else (none)) else ((spec_FormatHandle.f k (wrap64 x5)).bind fun t142 => (if t142.toList = x0.toList then (some (wrap64 x5, true)) else (some (0, false)))))
def cd (x : Int) (L : List ByteArray) : Int := match L with
  | [a, b] => mkH (parI a).1 (parI b).1 + x
  | _ => x
theorem mkH_b (a b : Int) : 0 ≤ mkH a b ∧ mkH a b ≤ 2000000 := by
  unfold mkH
  by_cases h : 0 ≤ a ∧ a ≤ 62 ∧ 0 ≤ b ∧ b ≤ 9999
  · rw [if_pos h]; omega
  · rw [if_neg h]; omega
def ans (s : ByteArray) (c : Int) : Int × Bool := if fh c = s then (c, true) else (0, false)
theorem s_fin (s : ByteArray) (c : Int) (h0 : 0 ≤ c) (h1 : c ≤ 3000000) : Ev (fun k => (spec_FormatHandle.f k c).bind fun t => if t.toList = s.toList then some (c, true) else some (0, false)) (ans s c) := by
  refine Ev.bind (s_FormatHandle c (by omega) (by omega)) ⟨0, fun _ _ => ?_⟩
  unfold ans
  by_cases h : fh c = s
  · rw [if_pos (toList_iff.2 h), if_pos h]
  · rw [if_neg (fun x => h (toList_iff.1 x)), if_neg h]
theorem s_ParseHandle_j1 (s t : ByteArray) (ht : t.size ≤ 4194304) (x : Int) (hx0 : 0 ≤ x) (hx1 : x ≤ 1) : Ev (fun k => spec_ParseHandle.j1 k s t x) (ans s (cd x (cutL 46 [] (bs []) t.data.toList))) := by
  have hcut := s_l2Cut t ht 46
  have hL := cutL_small t ht 46
  generalize cutL 46 [] (bs []) t.data.toList = L at hcut hL
  refine Ev.step (f := fun k => (spec_l2Cut.f k t 46).bind (phB k s t x)) (fun k => rfl) (Ev.bind hcut ?_)
  unfold phB
  match L, hL with
  | [], _ =>
    simp only [List.length_nil, if_neg (show ¬ ((0 : Nat) : Int) = 2 by decide), w64 (x := x) (by omega) (by omega)]
    exact s_fin s x (by omega) (by omega)
  | [a], _ =>
    simp only [List.length_cons, List.length_nil, if_neg (show ¬ ((0 + 1 : Nat) : Int) = 2 by decide), w64 (x := x) (by omega) (by omega)]
    exact s_fin s x (by omega) (by omega)
  | a :: b :: c :: r, _ =>
    simp only [if_neg (show ¬ (((a :: b :: c :: r).length : Nat) : Int) = 2 by simp only [List.length_cons]; omega), w64 (x := x) (by omega) (by omega)]
    exact s_fin s x (by omega) (by omega)
  | [a, b], hL =>
    have e0 : rdOf ByteArray.empty [a, b] 0 = a := rfl
    have e1 : rdOf ByteArray.empty [a, b] 1 = b := rfl
    have hb := mkH_b (parI a).1 (parI b).1
    simp only [e0, e1]
    refine Ev_if (by simp) (Ev_if (by simp) ?_)
    refine Ev.bind (s_ParseInt a (hL a (by simp))) ?_
    refine Ev_if (by simp) ?_
    refine Ev.bind (s_ParseInt b (hL b (by simp))) ?_
    simp only [s_MakeHandle, Option.bind_some, w64 (x := mkH (parI a).1 (parI b).1 + x) (by omega) (by omega)]
    exact s_fin s _ (by omega) (by omega)
def endsStar (s : ByteArray) : Prop := 0 < s.size ∧ bt s ((s.size : Int) - 1) = 42
instance (s : ByteArray) : Decidable (endsStar s) := by unfold endsStar; infer_instance
def scand (s : ByteArray) : Int := if endsStar s then cd 1 (cutL 46 [] (bs []) (s.extract 0 (s.size - 1)).data.toList) else cd 0 (cutL 46 [] (bs []) s.data.toList)
theorem s_ParseHandle (s : ByteArray) (hs : s.size ≤ 4194304) : Ev (fun k => spec_ParseHandle.f k s) (ans s (scand s)) := by
  have key : Ev (fun k => spec_ParseHandle.j0 k s s 0 (decide (endsStar s))) (ans s (scand s)) := by
    unfold scand
    by_cases h : endsStar s
    · rw [if_pos h, decide_eq_true h]
      have h0 := h.1
      have hz : (s.extract 0 (s.size - 1)).size ≤ 4194304 := by rw [ByteArray.size_extract]; omega
      refine Ev.step (fun k => ?_) (s_ParseHandle_j1 s (s.extract 0 (s.size - 1)) hz 1 (by omega) (by omega))
      simp only [spec_ParseHandle.j0, if_true]
      rw [w64 (x := (s.size : Int) - 1) (by omega) (by omega), if_pos (by omega), if_pos (by omega), show ((s.size : Int) - 1).toNat = s.size - 1 by omega]
    · rw [if_neg h, decide_eq_false h]
      refine Ev.step (fun k => ?_) (s_ParseHandle_j1 s s hs 0 (by omega) (by omega))
      simp only [spec_ParseHandle.j0]
      rw [if_neg (by decide)]
  refine Ev.congr (fun k => ?_) key
  unfold spec_ParseHandle.f
  by_cases h0 : (s.size : Int) > 0
  · rw [if_pos h0, w64 (x := (s.size : Int) - 1) (by omega) (by omega), if_pos (by omega), if_pos (by omega)]
    congr 1
    by_cases h : endsStar s
    · rw [decide_eq_true h, h.2]; rfl
    · rw [decide_eq_false h]
      exact beq_eq_false_iff_ne.2 (fun x => h ⟨by omega, x⟩)
  · rw [if_neg h0, decide_eq_false (fun (h : endsStar s) => h0 (by have := h.1; omega))]

def ist (s : ByteArray) (h : Int) : Int := if Lib.hasSuffix s.data.toList [42] = true then mrk h else h
def ibase (s : ByteArray) : List UInt8 := Lib.trimSuffix s.data.toList [42]
def icand (s : ByteArray) : Option Int := if ibase s = [110, 111, 110, 101] then some (ist s 0) else
  if (parI (bs (Lib.cut (ibase s) [46]).1)).2 = true ∧ (parI (bs (Lib.cut (ibase s) [46]).2.1)).2 = true then some (ist s (mkH (parI (bs (Lib.cut (ibase s) [46]).1)).1 (parI (bs (Lib.cut (ibase s) [46]).2.1)).1)) else none
def ians (s : ByteArray) : Int × Bool := match icand s with
  | some c => ans s c
  | none => (0, false)
theorem i_fin (s : ByteArray) (c : Int) (h0 : 0 ≤ c) (h1 : c ≤ 3000000) : Ev (fun k => (impl_FormatHandle.f k c).bind fun t => if t.toList = s.toList then some (c, true) else some (0, false)) (ans s c) := by
  refine Ev.bind (i_FormatHandle c (by omega) (by omega)) ⟨0, fun _ _ => ?_⟩
  unfold ans
  by_cases h : fh c = s
  · rw [if_pos (toList_iff.2 h), if_pos h]
  · rw [if_neg (fun x => h (toList_iff.1 x)), if_neg h]
theorem mrk_b (h : Int) (h0 : 0 ≤ h) : 0 ≤ mrk h ∧ mrk h ≤ h + 1 := by
  by_cases c : h = 0 ∨ isH h ∧ h % 2 = 0
  · rw [mrk, if_pos c]; omega
  · rw [mrk, if_neg c]; omega
theorem i_ParseHandle_j (s : ByteArray) (h : Int) (h0 : 0 ≤ h) (h1 : h ≤ 2000000) : Ev (fun k => impl_ParseHandle.j0 k s (Lib.hasSuffix s.data.toList [42]) h) (ans s (ist s h)) := by
  have hm := mrk_b h h0
  unfold ist
  by_cases c : Lib.hasSuffix s.data.toList [42] = true
  · rw [if_pos c, c]
    refine Ev.step (fun k => ?_) (i_fin s (mrk h) (by omega) (by omega))
    simp only [impl_ParseHandle.j0, if_true, i_Marked h (by omega), Option.bind_some]
  · have c' : Lib.hasSuffix s.data.toList [42] = false := by simpa using c
    rw [if_neg c, c']
    refine Ev.step (fun k => ?_) (i_fin s h (by omega) (by omega))
    simp only [impl_ParseHandle.j0]
    rw [if_neg (by decide)]
theorem i_ParseHandle (s : ByteArray) (hs : s.size ≤ 1048576) : Ev (fun k => impl_ParseHandle.f k s) (ians s) := by
  have hsz : s.data.toList.length = s.size := by rw [Array.length_toList]; rfl
  have hb : (ibase s).length ≤ 1048576 := by
    unfold ibase Lib.trimSuffix
    split
    · rw [List.length_take]; omega
    · omega
  have hc1 : (Lib.cut (ibase s) [46]).1.length ≤ 1048576 := by
    unfold Lib.cut
    split
    · simp only [List.length_take]; omega
    · exact hb
  have hc2 : (Lib.cut (ibase s) [46]).2.1.length ≤ 1048576 := by
    unfold Lib.cut
    split
    · simp only [List.length_drop]; omega
    · exact Nat.zero_le _
  have e1 : strings_CutSuffix.f s (⟨#[42]⟩ : ByteArray) = some (bs (ibase s), Lib.hasSuffix s.data.toList [42]) := by
    unfold strings_CutSuffix.f
    rw [if_pos (by omega)]
    rfl
  have e2 : strings_Cut.f (bs (ibase s)) (⟨#[46]⟩ : ByteArray) = some (bs (Lib.cut (ibase s) [46]).1, bs (Lib.cut (ibase s) [46]).2.1, (Lib.cut (ibase s) [46]).2.2) := by
    unfold strings_Cut.f
    rw [if_pos (by rw [bs_size]; omega), bs_toList]
    rfl
  have p1 := i_ParseInt (bs (Lib.cut (ibase s) [46]).1) (by rw [bs_size]; omega)
  have p2 := i_ParseInt (bs (Lib.cut (ibase s) [46]).2.1) (by rw [bs_size]; omega)
  unfold impl_ParseHandle.f ians icand
  simp only [e1, Option.bind_some]
  by_cases hn : ibase s = [110, 111, 110, 101]
  · have hn' : (bs (ibase s)).toList = ([110, 111, 110, 101] : List UInt8) := by rw [ByteArray.toList_eq, bs_toList, hn]
    simp only [if_pos hn', if_pos hn]
    exact i_ParseHandle_j s 0 (by omega) (by omega)
  · have hn' : ¬ (bs (ibase s)).toList = ([110, 111, 110, 101] : List UInt8) := by rw [ByteArray.toList_eq, bs_toList]; exact hn
    simp only [if_neg hn', if_neg hn, e2, Option.bind_some, p1, p2, i_MakeHandle]
    have hb2 := mkH_b (parI (bs (Lib.cut (ibase s) [46]).1)).1 (parI (bs (Lib.cut (ibase s) [46]).2.1)).1
    by_cases g1 : (parI (bs (Lib.cut (ibase s) [46]).1)).2 = true
    · by_cases g2 : (parI (bs (Lib.cut (ibase s) [46]).2.1)).2 = true
      · simp only [if_pos g1, if_pos g2, if_pos (And.intro g1 g2)]
        exact i_ParseHandle_j s _ hb2.1 hb2.2
      · simp only [if_pos g1, if_neg g2, if_neg (fun h : (parI (bs (Lib.cut (ibase s) [46]).1)).2 = true ∧ (parI (bs (Lib.cut (ibase s) [46]).2.1)).2 = true => g2 h.2)]
        exact Ev.now _
    · simp only [if_neg g1, if_neg (fun h : (parI (bs (Lib.cut (ibase s) [46]).1)).2 = true ∧ (parI (bs (Lib.cut (ibase s) [46]).2.1)).2 = true => g1 h.1)]
      exact Ev.now _

def vld (h : Int) : Prop := h = 0 ∨ h = 1 ∨ isH h
theorem fh_vld (c : Int) (h : fh c ≠ bs []) : vld c := by
  by_cases h0 : c = 0
  · exact .inl h0
  · by_cases h1 : c = 1
    · exact .inr (.inl h1)
    · by_cases h2 : isH c
      · exact .inr (.inr h2)
      · exfalso
        apply h
        unfold fh
        rw [if_neg (unm_0 h2 h0 h1), if_neg h2]
theorem bt_last (Y : List UInt8) (u : UInt8) : bt (bs (Y ++ [u])) (((bs (Y ++ [u])).size : Int) - 1) = (u.toNat : Int) := by
  have h := bt_u8 (bs (Y ++ [u])) Y.length (by rw [bs_toList]; simp)
  have e : ∀ (t : List UInt8) (ht : t = Y ++ [u]) (hh : Y.length < t.length), t[Y.length] = u := by
    intro t ht hh
    subst ht
    simp
  rw [e _ (bs_toList _)] at h
  rw [← h, bs_size, List.length_append]
  congr 1
  simp
theorem ext_last (Y : List UInt8) (u : UInt8) : (bs (Y ++ [u])).extract 0 ((bs (Y ++ [u])).size - 1) = bs Y := by
  apply bl_inj
  rw [bl_extract0, bs_size]
  unfold bl
  rw [← List.map_take, bs_toList, bs_toList, List.length_append]
  simp
theorem suf_last (Y : List UInt8) (u : UInt8) : Lib.hasSuffix (Y ++ [u]) [42] = decide (u = 42) := by
  rw [← Lib.hasSuffix_of_drop]
  have e : (Y ++ [u]).drop ((Y ++ [u]).length - ([42] : List UInt8).length) = [u] := by simp
  rw [e]
  by_cases h : u = 42
  · subst h
    simp
  · rw [decide_eq_false h]
    simp [h]
theorem trim_last (Y : List UInt8) : Lib.trimSuffix (Y ++ [42]) [42] = Y := by
  unfold Lib.trimSuffix
  rw [suf_last, if_pos (by decide)]
  simp
theorem trim_not (Y : List UInt8) (u : UInt8) (h : u ≠ 42) : Lib.trimSuffix (Y ++ [u]) [42] = Y ++ [u] := by
  unfold Lib.trimSuffix
  rw [suf_last, if_neg (by simpa using h)]
theorem index_dot (D E : List UInt8) (hD : ∀ b ∈ D, (b.toNat : Int) ≠ 46) : Lib.index (D ++ 46 :: E) [46] = (D.length : Int) := by
  induction D with
  | nil => rw [List.nil_append, Lib.index, if_pos (by simp)]; rfl
  | cons b D ih =>
    have hb : b ≠ 46 := fun h => hD b (by simp) (by rw [h]; rfl)
    rw [List.cons_append, Lib.index, if_neg (by simp; exact fun h => hb h.symm), ih (fun x hx => hD x (by simp [hx])), if_neg (by simp <;> omega)]
    simp
theorem cut_dot (D E : List UInt8) (hD : ∀ b ∈ D, (b.toNat : Int) ≠ 46) : Lib.cut (D ++ 46 :: E) [46] = (D, E, true) := by
  unfold Lib.cut
  rw [index_dot D E hD, if_pos (by omega)]
  simp
theorem digits_nd (m : Nat) : ∀ b ∈ Lib.decDigits m, (b.toNat : Int) ≠ 46 := by
  intro b hb
  have := decD_digit m b hb
  omega
theorem mkH_back (h : Int) (d : isH h) : mkH (idxOf h) (genOf h) = h - h % 2 := by
  rw [idxOf, if_pos d, genOf, if_pos d]
  unfold isH at d
  unfold mkH
  rw [if_pos (by omega)]
  omega
theorem fh_H (h : Int) (d : isH h) : fh h = bs ((Lib.decDigits (idxOf h).toNat ++ 46 :: Lib.decDigits (genOf h).toNat) ++ (if isM h then [42] else [])) := by
  have hi : ¬ idxOf h < 0 := by rw [idxOf, if_pos d]; unfold isH at d; omega
  have hg : ¬ genOf h < 0 := by rw [genOf, if_pos d]; unfold isH at d; omega
  unfold fh fhS
  rw [if_neg (unm_H d), if_pos d, dec_pos _ hi, dec_pos _ hg, ← bs_append, ← bs_append]
  by_cases m : isM h
  · rw [if_pos m, if_pos m, ← bs_append]
    congr 1
    simp
  · rw [if_neg m, if_neg m, ← bs_append]
    congr 1
    simp
theorem par_i (h : Int) (d : isH h) : parI (bs (Lib.decDigits (idxOf h).toNat)) = (idxOf h, true) ∧ parI (bs (Lib.decDigits (genOf h).toNat)) = (genOf h, true) := by
  have hi := idx_b h
  have hg := gen_b h
  have hi0 : ¬ idxOf h < 0 := by rw [idxOf, if_pos d]; unfold isH at d; omega
  have hg0 : ¬ genOf h < 0 := by rw [genOf, if_pos d]; unfold isH at d; omega
  rw [← dec_pos _ hi0, ← dec_pos _ hg0]
  exact ⟨(parI_dec _ (by omega) (by omega)).1, (parI_dec _ (by omega) (by omega)).1⟩
theorem isM_odd (h : Int) (d : isH h) : isM h ↔ h % 2 = 1 := by
  unfold isM
  constructor
  · intro x
    rcases x with x | x
    · subst x; rfl
    · exact x.2
  · intro x
    exact .inr ⟨d, x⟩
theorem sc_back (h : Int) (v : vld h) : scand (fh h) = h := by
  rcases v with rfl | rfl | d
  · have e : fh 0 = bs [110, 111, 110, 101] := by decide +kernel
    rw [e]
    decide +kernel
  · have e : fh 1 = bs ([110, 111, 110, 101] ++ [42]) := by decide +kernel
    rw [e]
    decide +kernel
  · have hp := par_i h d
    have hm := mkH_back h d
    have hc := cutL_two (Lib.decDigits (idxOf h).toNat) (Lib.decDigits (genOf h).toNat) (digits_nd _) (digits_nd _)
    rw [fh_H h d]
    by_cases m : isM h
    · rw [if_pos m]
      have h2 := (isM_odd h d).1 m
      have hst : endsStar (bs ((Lib.decDigits (idxOf h).toNat ++ 46 :: Lib.decDigits (genOf h).toNat) ++ [42])) := ⟨by rw [bs_size]; simp <;> omega, by rw [bt_last]; rfl⟩
      unfold scand
      rw [if_pos hst, ext_last, bs_toList, hc]
      unfold cd
      simp only
      rw [hp.1, hp.2]
      simp only
      rw [hm]
      omega
    · rw [if_neg m, List.append_nil]
      have h2 : h % 2 = 0 := by
        have h3 : ¬ h % 2 = 1 := fun x => m ((isM_odd h d).2 x)
        omega
      have hst : ¬ endsStar (bs (Lib.decDigits (idxOf h).toNat ++ 46 :: Lib.decDigits (genOf h).toNat)) := by
        intro x
        have x2 := x.2
        rw [decD_step (genOf h).toNat, ← List.cons_append, ← List.append_assoc, bt_last] at x2
        simp only [UInt8.toNat_ofNat'] at x2
        omega
      unfold scand
      rw [if_neg hst, bs_toList, hc]
      unfold cd
      simp only
      rw [hp.1, hp.2]
      simp only
      rw [hm]
      omega
theorem ic_back (h : Int) (v : vld h) : icand (fh h) = some h := by
  rcases v with rfl | rfl | d
  · have e : fh 0 = bs [110, 111, 110, 101] := by decide +kernel
    rw [e]
    decide +kernel
  · have e : fh 1 = bs ([110, 111, 110, 101] ++ [42]) := by decide +kernel
    rw [e]
    decide +kernel
  · have hp := par_i h d
    have hm := mkH_back h d
    have hc := cut_dot (Lib.decDigits (idxOf h).toNat) (Lib.decDigits (genOf h).toNat) (digits_nd _)
    have hne : ¬ (Lib.decDigits (idxOf h).toNat ++ 46 :: Lib.decDigits (genOf h).toNat) = [110, 111, 110, 101] := by
      intro x
      have : (46 : UInt8) ∈ ([110, 111, 110, 101] : List UInt8) := by rw [← x]; simp
      revert this
      decide
    rw [fh_H h d]
    by_cases m : isM h
    · rw [if_pos m]
      have h2 := (isM_odd h d).1 m
      have hb : ibase (bs ((Lib.decDigits (idxOf h).toNat ++ 46 :: Lib.decDigits (genOf h).toNat) ++ [42])) = Lib.decDigits (idxOf h).toNat ++ 46 :: Lib.decDigits (genOf h).toNat := by
        unfold ibase
        rw [bs_toList, trim_last]
      unfold icand
      rw [hb, if_neg hne, hc]
      simp only
      rw [hp.1, hp.2]
      simp only [and_self, if_true]
      congr 1
      unfold ist
      rw [bs_toList, suf_last, if_pos (by decide), hm, mrk, if_pos (.inr ⟨by unfold isH at d ⊢; omega, by omega⟩)]
      omega
    · rw [if_neg m, List.append_nil]
      have h2 : h % 2 = 0 := by
        have h3 : ¬ h % 2 = 1 := fun x => m ((isM_odd h d).2 x)
        omega
      have hu : ∀ u : UInt8, u = UInt8.ofNat (48 + (genOf h).toNat % 10) → u ≠ 42 := by
        intro u hu h42
        have : u.toNat = 42 := by rw [h42]; rfl
        rw [hu] at this
        simp only [UInt8.toNat_ofNat'] at this
        omega
      have hb : ibase (bs (Lib.decDigits (idxOf h).toNat ++ 46 :: Lib.decDigits (genOf h).toNat)) = Lib.decDigits (idxOf h).toNat ++ 46 :: Lib.decDigits (genOf h).toNat := by
        unfold ibase
        rw [bs_toList, decD_step (genOf h).toNat, ← List.cons_append, ← List.append_assoc, trim_not _ _ (hu _ rfl)]
      have hs : Lib.hasSuffix (Lib.decDigits (idxOf h).toNat ++ 46 :: Lib.decDigits (genOf h).toNat) [42] = false := by
        rw [decD_step (genOf h).toNat, ← List.cons_append, ← List.append_assoc, suf_last]
        exact decide_eq_false (hu _ rfl)
      unfold icand
      rw [hb, if_neg hne, hc]
      simp only
      rw [hp.1, hp.2]
      simp only [and_self, if_true]
      congr 1
      unfold ist
      rw [bs_toList, hs, if_neg (by decide), hm]
      omega
theorem same (s : ByteArray) : ians s = ans s (scand s) := by
  unfold ians
  by_cases h0 : s = bs []
  · subst h0
    have hn : ∀ c, ¬ fh c = bs [] ∨ fh c = bs [] := fun c => (Classical.em _).symm
    have hi : icand (bs []) = none := by decide +kernel
    have hs : scand (bs []) = 0 := by decide +kernel
    rw [hi, hs]
    decide +kernel
  · by_cases h1 : fh (scand s) = s
    · have hi := ic_back (scand s) (fh_vld _ (by rw [h1]; exact h0))
      rw [h1] at hi
      rw [hi]
    · have e : ans s (scand s) = (0, false) := if_neg h1
      rw [e]
      cases hi : icand s with
      | none => rfl
      | some c =>
        simp only
        unfold ans
        by_cases h2 : fh c = s
        · exfalso
          have := sc_back c (fh_vld c (by rw [h2]; exact h0))
          rw [h2] at this
          rw [this] at h1
          exact h1 h2
        · rw [if_neg h2]
theorem FnExactParseHandle : laws_FnExactParseHandle.Pure := by
  intro s _
  by_cases h : (s.size : Int) > 1048576
  · exact ⟨0, by unfold laws_FnExactParseHandle.f; rw [if_pos h]⟩
  · unfold laws_FnExactParseHandle.f
    simp only [if_neg h]
    refine (Ev.bind (s_ParseHandle s (by omega)) ?_).rounds
    have hi := i_ParseHandle s (by omega)
    rw [same s] at hi
    refine Ev.bind hi ?_
    simp only [if_true, bne_self_eq_false, Bool.false_eq_true, if_false]
    exact Ev.now _

end Go.Proofs.YtbenihcaleiacabDoor.Pure
