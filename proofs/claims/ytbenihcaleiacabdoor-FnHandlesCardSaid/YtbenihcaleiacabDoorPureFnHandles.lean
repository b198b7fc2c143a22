/- The pure side of FnHandles: MakeHandle, IndexOf, GenerationOf, Marked and Unmarked undo one another, and ParseHandle reads what FormatHandle writes, for every drawn list (the law itself answers true past its bound). No condition. -/
import Derived.Test.YtbenihcaleiacabDoorGFnHandlesx4
import Derived.OpenShut
import Derived.Laws.BitsLemmas
set_option linter.unusedVariables false
set_option linter.unusedSimpArgs false
namespace Go.Proofs.YtbenihcaleiacabDoor.Pure
open Go.RowKit Go.Proofs.YtbenihcaleiacabDoor.GFnHandles Go.Proofs.YtbenihcaleiacabDoorW.PrintWords Go.Proofs.YtbenihcaleiacabDoorW.PrintLast

theorem w64 {x : Int} (h : -9223372036854775808 ≤ x) (h' : x ≤ 9223372036854775807) : wrap64 x = x := by unfold wrap64; omega
theorem tdiv_pos {x y : Int} (h : 0 ≤ x) : Int.tdiv x y = x / y := Int.tdiv_eq_ediv_of_nonneg h
theorem tmod_pos {x y : Int} (h : 0 ≤ x) : Int.tmod x y = x % y := Int.tmod_eq_emod_of_nonneg h
theorem eq_strs {g w : Option ByteArray} {r : ByteArray} (h1 : w = some r) (h2 : g = some r) : (w.bind fun t => g.bind fun u => if u.toList = t.toList then some true else some false) = some true := by
  subst h1; subst h2; simp
theorem eq_ints {g w : Option Int} {r : Int} (h1 : w = some r) (h2 : g = some r) : (w.bind fun t => g.bind fun u => if u = t then some true else some false) = some true := by
  subst h1; subst h2; simp
theorem eq_bools {g w : Option Bool} {r : Bool} (h1 : w = some r) (h2 : g = some r) : (w.bind fun t => g.bind fun u => if (u != t) = true then some false else some true) = some true := by
  subst h1; subst h2; simp
theorem ev_strs {g w : Nat → Option ByteArray} {r : ByteArray} (h1 : Ev w r) (h2 : Ev g r) : ∃ k, ((w k).bind fun t => (g k).bind fun u => if u.toList = t.toList then some true else some false) = some true := by
  obtain ⟨K, h1⟩ := h1
  obtain ⟨L, h2⟩ := h2
  exact ⟨max K L, eq_strs (h1 _ (by omega)) (h2 _ (by omega))⟩
theorem ev2 {α β : Type} {g : Nat → Option α} {f : Nat → Option β} {a : α} {b : β} {F : α → β → Option Bool} (hg : Ev g a) (hf : Ev f b) (h : F a b = some true) : ∃ k, ((g k).bind fun t => (f k).bind fun u => F t u) = some true :=
  (Ev.bind hg (Ev.bind hf ⟨0, fun _ _ => h⟩)).rounds
theorem rd_eq (l : List Int) (i : Nat) (h : i < l.length) : rd l (i : Int) = l[i] := by
  unfold rd
  rw [show ((i : Int)).toNat = i by omega, List.getD_eq_getElem?_getD, List.getElem?_eq_getElem h]
  rfl

def bs (l : List UInt8) : ByteArray := ⟨l.toArray⟩
theorem bs_append (a b : List UInt8) : bs (a ++ b) = bs a ++ bs b := by
  apply ByteArray.ext
  rw [ByteArray.data_append]
  simp [bs]
theorem bs_nil : bs [] = ByteArray.empty := rfl
theorem bs_data (s : ByteArray) : bs s.data.toList = s := by
  apply ByteArray.ext
  simp [bs]
theorem bs_toList (l : List UInt8) : (bs l).data.toList = l := by simp [bs]
theorem bs_size (l : List UInt8) : (bs l).size = l.length := by
  show l.toArray.size = l.length
  simp
theorem bs_inj {a b : List UInt8} (h : bs a = bs b) : a = b := by rw [← bs_toList a, ← bs_toList b, h]
def dec (n : Int) : ByteArray := bs (Lib.itoa n)
def dg (m : Nat) : List UInt8 := if m = 0 then [] else Lib.decDigits m
theorem decD_step (m : Nat) : Lib.decDigits m = dg (m / 10) ++ [UInt8.ofNat (48 + m % 10)] := by
  rw [Lib.decDigits]
  unfold dg
  by_cases h : m < 10
  · rw [dif_pos h, if_pos (by omega), show m % 10 = m by omega]
    rfl
  · rw [dif_neg h, if_neg (by omega)]
theorem dg_step (m : Nat) (h : 0 < m) : dg m = dg (m / 10) ++ [UInt8.ofNat (48 + m % 10)] := by
  rw [← decD_step]
  unfold dg
  rw [if_neg (by omega)]
theorem dg_len (f : Nat) : ∀ m : Nat, m < 10 ^ f → (dg m).length ≤ f := by
  induction f with
  | zero =>
    intro m h
    have : m = 0 := by omega
    subst this
    simp [dg]
  | succ f ih =>
    intro m h
    rcases Nat.eq_zero_or_pos m with h0 | h0
    · subst h0
      simp [dg]
    · rw [dg_step m h0, List.length_append]
      have := ih (m / 10) (by rw [Nat.pow_succ] at h; omega)
      simp
      omega
theorem decD_digit (m : Nat) : ∀ c ∈ Lib.decDigits m, 48 ≤ c.toNat ∧ c.toNat ≤ 57 := by
  induction m using Nat.strongRecOn with
  | ind m ih =>
    intro c hc
    rw [decD_step] at hc
    rcases List.mem_append.1 hc with h | h
    · unfold dg at h
      by_cases h0 : m / 10 = 0
      · rw [if_pos h0] at h
        cases h
      · rw [if_neg h0] at h
        exact ih (m / 10) (by omega) c h
    · rw [List.mem_singleton] at h
      subst h
      simp only [UInt8.toNat_ofNat']
      omega
theorem decD_ne (m : Nat) : Lib.decDigits m ≠ [] := by rw [decD_step]; simp
theorem dec_neg (n : Int) (h : n < 0) : dec n = bs (45 :: Lib.decDigits n.natAbs) := by unfold dec Lib.itoa; rw [if_pos h]
theorem dec_pos (n : Int) (h : ¬ n < 0) : dec n = bs (Lib.decDigits n.toNat) := by unfold dec Lib.itoa; rw [if_neg h]
theorem dec_small (n : Int) (h : -9223372036854775808 ≤ n) (h2 : n ≤ 9223372036854775807) : (dec n).size ≤ 30 := by
  have hl : ∀ m : Nat, m ≤ 9223372036854775808 → (Lib.decDigits m).length ≤ 21 := by
    intro m hm
    rw [decD_step, List.length_append]
    have := dg_len 20 (m / 10) (by omega)
    simp
    omega
  by_cases h0 : n < 0
  · rw [dec_neg n h0, bs_size, List.length_cons]
    have := hl n.natAbs (by omega)
    omega
  · rw [dec_pos n h0, bs_size]
    have := hl n.toNat (by omega)
    omega

def pf : List UInt8 → Nat × Nat → Nat × Nat
  | [], p => p
  | c :: l, p => pf l (if 48 ≤ c.toNat ∧ c.toNat ≤ 57 then (p.1 * 10 + (c.toNat - 48), p.2 + 1) else p)
theorem pf_append (a b : List UInt8) : ∀ p, pf (a ++ b) p = pf b (pf a p) := by
  induction a with
  | nil => intro p; rfl
  | cons c a ih => intro p; rw [List.cons_append, pf, pf, ih]
theorem pf_b (l : List UInt8) : ∀ p : Nat × Nat, p.1 < 10 ^ p.2 → (pf l p).1 < 10 ^ (pf l p).2 ∧ (pf l p).2 ≤ p.2 + l.length := by
  induction l with
  | nil => intro p h; exact ⟨h, by simp [pf]⟩
  | cons c l ih =>
    intro p h
    rw [pf]
    by_cases hc : 48 ≤ c.toNat ∧ c.toNat ≤ 57
    · rw [if_pos hc]
      have := ih (p.1 * 10 + (c.toNat - 48), p.2 + 1) (by simp only [Nat.pow_succ]; omega)
      simp only at this
      rw [List.length_cons]
      exact ⟨this.1, by omega⟩
    · rw [if_neg hc]
      have := ih p h
      rw [List.length_cons]
      exact ⟨this.1, by omega⟩
theorem pf_dg (f : Nat) : ∀ m : Nat, m < 10 ^ f → ∃ k, pf (dg m) (0, 0) = (m, k) ∧ k = (dg m).length := by
  induction f with
  | zero =>
    intro m h
    have : m = 0 := by omega
    subst this
    exact ⟨0, rfl, rfl⟩
  | succ f ih =>
    intro m h
    rcases Nat.eq_zero_or_pos m with h0 | h0
    · subst h0
      exact ⟨0, rfl, rfl⟩
    · obtain ⟨k, hk, hl⟩ := ih (m / 10) (by rw [Nat.pow_succ] at h; omega)
      refine ⟨k + 1, ?_, ?_⟩
      · rw [dg_step m h0, pf_append, hk, pf, pf]
        simp only [UInt8.toNat_ofNat']
        rw [if_pos (by omega)]
        congr 1
        omega
      · rw [dg_step m h0, List.length_append, hl]
        rfl
theorem pf_decD (m : Nat) (h : m ≤ 999999999) : ∃ k, pf (Lib.decDigits m) (0, 0) = (m, k) ∧ k = (Lib.decDigits m).length ∧ k ≤ 9 := by
  rcases Nat.eq_zero_or_pos m with h0 | h0
  · subst h0
    refine ⟨1, ?_, ?_, by omega⟩ <;> rw [decD_step] <;> rfl
  · have hd : dg m = Lib.decDigits m := by unfold dg; rw [if_neg (by omega)]
    obtain ⟨k, hk, hl⟩ := pf_dg 9 m (by omega)
    have := dg_len 9 m (by omega)
    rw [hd] at hk hl this
    exact ⟨k, hk, hl, by omega⟩
def isNeg (s : ByteArray) : Prop := 0 < s.size ∧ bt s 0 = 45
instance (s : ByteArray) : Decidable (isNeg s) := by unfold isNeg; infer_instance
def parF (s : ByteArray) (q : Nat × Nat) : Int × Bool :=
  if 9 < q.2 then (0, false) else if 10 < s.size then (0, false) else if dec (if isNeg s then -(q.1 : Int) else (q.1 : Int)) = s then ((if isNeg s then -(q.1 : Int) else (q.1 : Int)), true) else (0, false)
def parI (s : ByteArray) : Int × Bool := parF s (pf (s.data.toList.take 11) (0, 0))
theorem bt_u8 (s : ByteArray) (i : Nat) (h : i < s.data.toList.length) : bt s (i : Int) = ((s.data.toList[i]).toNat : Int) := by
  unfold bt
  rw [dif_pos (show ((i : Int)).toNat < s.size by rw [show ((i : Int)).toNat = i by omega]; rw [Array.length_toList] at h; exact h)]
  congr 1
theorem parI_true {s : ByteArray} {v : Int} (h : parI s = (v, true)) : dec v = s ∧ -999999999 ≤ v ∧ v ≤ 999999999 := by
  unfold parI parF at h
  have hb := pf_b (s.data.toList.take 11) (0, 0) (by simp)
  generalize hq : pf (s.data.toList.take 11) (0, 0) = q at h hb
  by_cases h1 : 9 < q.2
  · rw [if_pos h1] at h; cases h
  · rw [if_neg h1] at h
    by_cases h2 : 10 < s.size
    · rw [if_pos h2] at h; cases h
    · rw [if_neg h2] at h
      have hp : 10 ^ q.2 ≤ 10 ^ 9 := Nat.pow_le_pow_right (by decide) (by omega)
      by_cases h3 : dec (if isNeg s then -(q.1 : Int) else (q.1 : Int)) = s
      · rw [if_pos h3] at h
        injection h with h4 _
        rw [h4] at h3
        refine ⟨h3, ?_⟩
        by_cases h5 : isNeg s
        · rw [if_pos h5] at h4; omega
        · rw [if_neg h5] at h4; omega
      · rw [if_neg h3] at h; cases h
theorem parI_or (s : ByteArray) : parI s = (0, false) ∨ ∃ v, parI s = (v, true) := by
  unfold parI parF
  generalize pf (s.data.toList.take 11) (0, 0) = q
  generalize (if isNeg s then -(q.1 : Int) else (q.1 : Int)) = v
  by_cases h1 : 9 < q.2
  · rw [if_pos h1]; exact .inl rfl
  · rw [if_neg h1]
    by_cases h2 : 10 < s.size
    · rw [if_pos h2]; exact .inl rfl
    · rw [if_neg h2]
      by_cases h3 : dec v = s
      · rw [if_pos h3]; exact .inr ⟨_, rfl⟩
      · rw [if_neg h3]; exact .inl rfl
theorem bt_bs (l : List UInt8) (c : UInt8) : bt (bs (c :: l)) 0 = (c.toNat : Int) := by
  have h := bt_u8 (bs (c :: l)) 0 (by rw [bs_toList]; simp)
  have e : ∀ (t : List UInt8) (ht : t = c :: l) (hh : 0 < t.length), t[0] = c := by
    intro t ht hh
    subst ht
    rfl
  rw [e _ (bs_toList _)] at h
  exact h
theorem dec_head (v : Int) : isNeg (dec v) ↔ v < 0 := by
  by_cases h : v < 0
  · rw [dec_neg v h]
    refine ⟨fun _ => h, fun _ => ⟨by rw [bs_size]; simp, ?_⟩⟩
    rw [bt_bs]
    rfl
  · rw [dec_pos v h]
    refine ⟨fun hn => ?_, fun hn => absurd hn h⟩
    exfalso
    obtain ⟨h0, h1⟩ := hn
    have hd := decD_digit v.toNat
    cases hl : Lib.decDigits v.toNat with
    | nil => exact decD_ne _ hl
    | cons c r =>
      rw [hl] at hd h1
      rw [bt_bs] at h1
      have := hd c (by simp)
      omega
theorem parI_dec (v : Int) (h : -999999999 ≤ v) (h2 : v ≤ 999999999) : parI (dec v) = (v, true) ∧ (dec v).size ≤ 10 := by
  obtain ⟨k, hk, hl, h9⟩ := pf_decD v.natAbs (by omega)
  have hpf : pf ((dec v).data.toList.take 11) (0, 0) = (v.natAbs, k) ∧ (dec v).size ≤ 10 := by
    by_cases hn : v < 0
    · rw [dec_neg v hn, bs_size, bs_toList, List.length_cons, List.take_of_length_le (by rw [List.length_cons]; omega), pf, if_neg (by decide)]
      exact ⟨hk, by omega⟩
    · rw [dec_pos v hn, bs_size, bs_toList, show v.toNat = v.natAbs by omega, List.take_of_length_le (by omega)]
      exact ⟨hk, by omega⟩
  refine ⟨?_, hpf.2⟩
  have hv : (if isNeg (dec v) then -(v.natAbs : Int) else (v.natAbs : Int)) = v := by
    by_cases hn : v < 0
    · rw [if_pos ((dec_head v).2 hn)]; omega
    · rw [if_neg (fun x => hn ((dec_head v).1 x))]; omega
  unfold parI parF
  rw [hpf.1]
  simp only [hv]
  rw [if_neg (by omega), if_neg (by omega), if_pos trivial]

theorem i_FormatInt (n : Int) (h : -9223372036854775808 ≤ n) (h2 : n ≤ 9223372036854775807) : impl_FormatInt.f n = some (dec n) := by
  unfold impl_FormatInt.f strconv_Itoa.f
  rw [if_pos ⟨h, h2⟩]
  rfl

theorem strOfNums_nil : strOfNums [] = ByteArray.empty := rfl
theorem strOfNums_append (xs ys : List Int) : strOfNums (xs ++ ys) = strOfNums xs ++ strOfNums ys := by
  apply ByteArray.ext
  rw [ByteArray.data_append]
  simp [strOfNums]
theorem app_nil (s : ByteArray) : s ++ (⟨#[]⟩ : ByteArray) = s := ByteArray.append_empty

def bl (s : ByteArray) : List Int := s.data.toList.map fun b => (b.toNat : Int)
theorem bl_length (s : ByteArray) : (bl s).length = s.size := by
  unfold bl
  rw [List.length_map, Array.length_toList]
  rfl
theorem bl_append (a b : ByteArray) : bl (a ++ b) = bl a ++ bl b := by simp [bl]
theorem bl_nil : bl ⟨#[]⟩ = [] := rfl
theorem bl_range (s : ByteArray) : ∀ x ∈ bl s, 0 ≤ x ∧ x ≤ 255 := by
  intro x hx
  obtain ⟨b, _, rfl⟩ := List.mem_map.1 hx
  have := b.toNat_lt
  omega
theorem strOfNums_bl (s : ByteArray) : strOfNums (bl s) = s := by
  apply ByteArray.ext
  unfold strOfNums bl
  rw [List.map_map]
  have e : ((fun n : Int => UInt8.ofNat n.toNat) ∘ fun b : UInt8 => (b.toNat : Int)) = id := by
    funext b
    simp
  rw [e, List.map_id]
theorem bl_inj {a b : ByteArray} (h : bl a = bl b) : a = b := by rw [← strOfNums_bl a, ← strOfNums_bl b, h]
theorem bl_strOfNums (xs : List Int) (h : ∀ x ∈ xs, 0 ≤ x ∧ x ≤ 255) : bl (strOfNums xs) = xs := by
  unfold bl strOfNums
  rw [List.map_map]
  conv => rhs; rw [← List.map_id xs]
  apply List.map_congr_left
  intro x hx
  have := h x hx
  simp only [Function.comp, id, UInt8.toNat_ofNat']
  omega
theorem bl_extract0 (s : ByteArray) (k : Nat) : bl (s.extract 0 k) = (bl s).take k := by
  simp [bl, ByteArray.data_extract, Array.toList_extract, List.extract_eq_take_drop]
theorem bl_extract (s : ByteArray) (i j : Nat) : bl (s.extract i j) = ((bl s).drop i).take (j - i) := by
  simp [bl, ByteArray.data_extract, Array.toList_extract, List.extract_eq_take_drop]
theorem bt_bl (s : ByteArray) (i : Int) : bt s i = (bl s).getD i.toNat 0 := by
  unfold bt bl
  by_cases h : i.toNat < s.size
  · rw [dif_pos h, List.getD_eq_getElem?_getD, List.getElem?_map, List.getElem?_eq_getElem (show i.toNat < s.data.toList.length by rw [Array.length_toList]; exact h)]
    rfl
  · rw [dif_neg h, List.getD_eq_getElem?_getD, List.getElem?_eq_none (by rw [List.length_map, Array.length_toList]; exact Nat.le_of_not_lt h)]
    rfl
theorem toList_iff {a b : ByteArray} : a.toList = b.toList ↔ a = b := by
  constructor
  · intro h
    rw [ByteArray.toList_eq, ByteArray.toList_eq] at h
    apply ByteArray.ext
    exact Array.toList_inj.1 h
  · intro h
    rw [h]

theorem pu_append (a b : List UInt8) : ∀ (acc u : Nat), Lib.parseUint10 acc a = .ok u → Lib.parseUint10 acc (a ++ b) = Lib.parseUint10 u b := by
  induction a with
  | nil =>
    intro acc u h
    simp only [Lib.parseUint10] at h
    injection h with h
    rw [List.nil_append, h]
  | cons c a ih =>
    intro acc u h
    rw [List.cons_append]
    simp only [Lib.parseUint10] at h ⊢
    split at h
    · rename_i h1
      rw [if_pos h1]
      split at h
      · cases h
      · rename_i h2
        rw [if_neg h2]
        split at h
        · cases h
        · rename_i h3
          rw [if_neg h3]
          exact ih _ _ h
    · cases h
theorem pu_dg (f : Nat) (hf : f ≤ 10) : ∀ m : Nat, m < 10 ^ f → Lib.parseUint10 0 (dg m) = .ok m := by
  induction f with
  | zero =>
    intro m h
    have : m = 0 := by omega
    subst this
    rfl
  | succ f ih =>
    intro m h
    have hp : 10 ^ (f + 1) ≤ 10 ^ 10 := Nat.pow_le_pow_right (by decide) hf
    rcases Nat.eq_zero_or_pos m with h0 | h0
    · subst h0
      rfl
    · rw [dg_step m h0, pu_append _ _ _ _ (ih (by omega) (m / 10) (by rw [Nat.pow_succ] at h; omega))]
      simp only [Lib.parseUint10, UInt8.toNat_ofNat']
      rw [if_pos (by omega), if_neg (by omega), if_neg (by omega)]
      congr 1
      omega
theorem mag_decD (m : Nat) (h : m ≤ 999999999) : Lib.parseMag (Lib.decDigits m) = .ok m := by
  unfold Lib.parseMag
  rw [if_neg (decD_ne m)]
  rcases Nat.eq_zero_or_pos m with h0 | h0
  · subst h0
    rw [decD_step]
    rfl
  · have hd : dg m = Lib.decDigits m := by unfold dg; rw [if_neg (by omega)]
    rw [← hd]
    exact pu_dg 9 (by omega) m (by omega)
theorem atoi_dec (v : Int) (h : -999999999 ≤ v) (h2 : v ≤ 999999999) : Lib.atoiAll (Lib.itoa v) = .ok v := by
  unfold Lib.itoa
  by_cases hn : v < 0
  · rw [if_pos hn]
    unfold Lib.atoiAll
    simp only
    rw [if_pos (.inr (by decide)), mag_decD _ (by omega)]
    simp only
    rw [if_neg (fun x => x.1 (by decide)), if_neg (by omega), if_pos (by decide)]
    congr 1
    omega
  · rw [if_neg hn]
    obtain ⟨c, r, hcr⟩ : ∃ c r, Lib.decDigits v.toNat = c :: r := by
      cases hd : Lib.decDigits v.toNat with
      | nil => exact absurd hd (decD_ne _)
      | cons c r => exact ⟨c, r, rfl⟩
    have hc := decD_digit v.toNat c (by rw [hcr]; simp)
    have hm := mag_decD v.toNat (by omega)
    rw [hcr] at hm ⊢
    unfold Lib.atoiAll
    simp only
    rw [if_neg (by omega), hm]
    simp only
    rw [if_neg (by omega), if_neg (by omega), if_neg (by omega)]
    congr 1
    omega
theorem atoi_b {l : List UInt8} {v : Int} (h : Lib.atoiAll l = .ok v) : -9223372036854775808 ≤ v ∧ v ≤ 9223372036854775807 := by
  unfold Lib.atoiAll at h
  cases l with
  | nil => cases h
  | cons c r =>
    simp only at h
    split at h
    · cases h
    · cases h
    · rename_i u hu
      split at h
      · cases h
      · split at h
        · cases h
        · injection h with h
          split at h <;> omega
theorem i_ParseInt (s : ByteArray) (hs : s.size ≤ 4194304) : impl_ParseInt.f s = some (parI s) := by
  have back : ∀ v, parI s = (v, true) → Lib.atoiAll s.data.toList = .ok v := by
    intro v hv
    obtain ⟨hd, h1, h2⟩ := parI_true hv
    rw [← hd]
    unfold dec
    rw [bs_toList]
    exact atoi_dec v h1 h2
  have none_ : (∀ v, parI s ≠ (v, true)) → parI s = (0, false) := by
    intro h
    rcases parI_or s with h0 | ⟨v, hv⟩
    · exact h0
    · exact absurd hv (h v)
  unfold impl_ParseInt.f
  rw [if_pos (by omega)]
  cases hA : Lib.atoiAll s.data.toList with
  | ok v =>
    have hb := atoi_b hA
    simp only
    unfold impl_ParseInt.of
    rw [i_FormatInt v hb.1 hb.2]
    simp only [Option.bind_some]
    by_cases hd : dec v = s
    · rw [if_pos (toList_iff.2 hd)]
      by_cases h1 : v > 999999999
      · rw [if_pos h1, none_ (fun v' hv' => by
          have := back v' hv'
          rw [hA] at this
          injection this with this
          have := (parI_true hv').2
          omega)]
      · rw [if_neg h1]
        by_cases h2 : v < -999999999
        · rw [if_pos h2, none_ (fun v' hv' => by
            have := back v' hv'
            rw [hA] at this
            injection this with this
            have := (parI_true hv').2
            omega)]
        · rw [if_neg h2, ← hd, (parI_dec v (by omega) (by omega)).1]
    · rw [if_neg (fun x => hd (toList_iff.1 x)), none_ (fun v' hv' => by
        have := back v' hv'
        rw [hA] at this
        injection this with this
        rw [← this] at hv'
        exact hd (parI_true hv').1)]
  | _ =>
    simp only
    rw [none_ (fun v' hv' => by
      have := back v' hv'
      rw [hA] at this
      cases this)]

theorem tmod_n (m : Nat) : Int.tmod (-(m : Int)) 10 = -((m % 10 : Nat) : Int) := by
  rw [Int.neg_tmod, tmod_pos (by omega)]
  omega
theorem tdiv_n (m : Nat) : Int.tdiv (-(m : Int)) 10 = -((m / 10 : Nat) : Int) := by
  rw [Int.neg_tdiv, tdiv_pos (by omega)]
  omega
theorem s_FormatInt_z (neg : Bool) (out : ByteArray) (ho : out.size ≤ 200) : Ev (fun k => spec_FormatInt.l0 k 0 out neg) ((if neg = true then bs [45] else bs []) ++ (bs (dg 0) ++ out)) := by
  have e : bs (dg 0) ++ out = out := by
    show bs [] ++ out = out
    rw [bs_nil, ByteArray.empty_append]
  rw [e]
  refine Ev.step (f := fun _ => some _) (fun k => ?_) (Ev.now _)
  simp only [spec_FormatInt.l0, if_true]
  cases neg with
  | true =>
    rw [if_pos rfl, if_pos rfl, if_pos (by omega)]
    rfl
  | false =>
    rw [if_neg (by decide), if_neg (by decide), bs_nil, ByteArray.empty_append]
theorem s_FormatInt_l (neg : Bool) (f : Nat) : ∀ (m : Nat) (x : Int) (out : ByteArray), (x = (m : Int) ∨ x = -(m : Int)) → m < 10 ^ f → m ≤ 9223372036854775808 → out.size + f ≤ 100 →
    Ev (fun k => spec_FormatInt.l0 k x out neg) ((if neg = true then bs [45] else bs []) ++ (bs (dg m) ++ out)) := by
  induction f with
  | zero =>
    intro m x out hx hm hm2 ho
    have h0 : m = 0 := by omega
    subst h0
    have hx0 : x = 0 := by omega
    subst hx0
    exact s_FormatInt_z neg out (by omega)
  | succ f ih =>
    intro m x out hx hm hm2 ho
    rcases Nat.eq_zero_or_pos m with h0 | h0
    · subst h0
      have hx0 : x = 0 := by omega
      subst hx0
      exact s_FormatInt_z neg out (by omega)
    · rw [dg_step m h0, bs_append, ByteArray.append_assoc]
      have hsz : (bs [UInt8.ofNat (48 + m % 10)] ++ out).size = 1 + out.size := by rw [ByteArray.size_append, bs_size]; rfl
      have hn : strOfNums [((48 + (m % 10 : Nat) : Nat) : Int)] = bs [UInt8.ofNat (48 + m % 10)] := by
        unfold strOfNums bs
        rfl
      have goal : ∀ x', (x' = ((m / 10 : Nat) : Int) ∨ x' = -((m / 10 : Nat) : Int)) → Ev (fun k => spec_FormatInt.l0 k x' (bs [UInt8.ofNat (48 + m % 10)] ++ out) neg) ((if neg = true then bs [45] else bs []) ++ (bs (dg (m / 10)) ++ (bs [UInt8.ofNat (48 + m % 10)] ++ out))) :=
        fun x' hx' => ih (m / 10) x' _ hx' (by rw [Nat.pow_succ] at hm; omega) (by omega) (by rw [hsz]; omega)
      rcases hx with hx | hx
      · subst hx
        refine Ev.step (fun k => ?_) (goal ((m / 10 : Nat) : Int) (.inl rfl))
        simp only [spec_FormatInt.l0, Option.bind_some]
        rw [if_neg (by omega), tmod_pos (show (0 : Int) ≤ (m : Int) by omega), tdiv_pos (show (0 : Int) ≤ (m : Int) by omega), if_neg (by omega), w64 (x := 48 + (m : Int) % 10) (by omega) (by omega), w64 (x := (m : Int) / 10) (by omega) (by omega),
          show (48 + (m : Int) % 10) % 256 = ((48 + (m % 10 : Nat) : Nat) : Int) by omega, hn, if_pos (by rw [bs_size]; simp; omega)]
        rfl
      · subst hx
        refine Ev.step (fun k => ?_) (goal (-((m / 10 : Nat) : Int)) (.inr rfl))
        simp only [spec_FormatInt.l0, Option.bind_some]
        rw [if_neg (by omega), tmod_n, tdiv_n]
        by_cases hz : m % 10 = 0
        · rw [if_neg (by omega), w64 (x := 48 + -((m % 10 : Nat) : Int)) (by omega) (by omega), w64 (x := -((m / 10 : Nat) : Int)) (by omega) (by omega),
            show (48 + -((m % 10 : Nat) : Int)) % 256 = ((48 + (m % 10 : Nat) : Nat) : Int) by omega, hn, if_pos (by rw [bs_size]; simp; omega)]
        · rw [if_pos (by omega), w64 (x := -(-((m % 10 : Nat) : Int))) (by omega) (by omega), w64 (x := 48 + -(-((m % 10 : Nat) : Int))) (by omega) (by omega), w64 (x := -((m / 10 : Nat) : Int)) (by omega) (by omega),
            show (48 + -(-((m % 10 : Nat) : Int))) % 256 = ((48 + (m % 10 : Nat) : Nat) : Int) by omega, hn, if_pos (by rw [bs_size]; simp; omega)]
theorem s_FormatInt (n : Int) (h : -9223372036854775808 ≤ n) (h2 : n ≤ 9223372036854775807) : Ev (fun k => spec_FormatInt.f k n) (dec n) := by
  unfold spec_FormatInt.f
  by_cases h0 : n = 0
  · simp only [if_pos h0]
    subst h0
    have e : dec 0 = (⟨#[48]⟩ : ByteArray) := by
      rw [dec_pos 0 (by omega), show (0 : Int).toNat = 0 by rfl, decD_step]
      rfl
    rw [e]
    exact Ev.now _
  · simp only [if_neg h0]
    have key := s_FormatInt_l (decide (n < 0)) 20 n.natAbs n ⟨#[]⟩ (by omega) (by omega) (by omega) (by simp [ByteArray.size])
    have e : (if decide (n < 0) = true then bs [45] else bs []) ++ (bs (dg n.natAbs) ++ (⟨#[]⟩ : ByteArray)) = dec n := by
      rw [show (⟨#[]⟩ : ByteArray) = bs [] from rfl, ← bs_append, List.append_nil]
      have hd : dg n.natAbs = Lib.decDigits n.natAbs := by unfold dg; rw [if_neg (by omega)]
      by_cases hn : n < 0
      · rw [if_pos (by simpa using hn), dec_neg n hn, ← bs_append, hd]
        rfl
      · rw [if_neg (by simpa using hn), dec_pos n hn, ← bs_append, hd, show n.natAbs = n.toNat by omega]
        rfl
    rw [e] at key
    exact key

theorem lsz (l : List UInt8) : (ByteArray.mk l.toArray).size = l.length := by simp [ByteArray.size]
theorem lsz0 : (⟨#[]⟩ : ByteArray).size = 0 := rfl
theorem eapp (s : ByteArray) : (⟨#[]⟩ : ByteArray) ++ s = s := ByteArray.empty_append
theorem appe (s : ByteArray) : s ++ (⟨#[]⟩ : ByteArray) = s := ByteArray.append_empty
theorem dec30 {n : Int} (h : -9223372036854775808 ≤ n) (h2 : n ≤ 9223372036854775807) : (dec n).size ≤ 30 := dec_small n h h2
theorem Ev_if {α : Type} {c : Prop} [Decidable c] {f g : Nat → Option α} {r : α} (hc : c) (h : Ev f r) : Ev (fun n => if c then f n else g n) r := by
  simp only [if_pos hc]
  exact h
theorem ifle {α : Type} {n : Nat} {x y : α} (h : n ≤ 9223372036854775807) : (if n ≤ 9223372036854775807 then x else y) = x := if_pos h

def isH (h : Int) : Prop := 2 ≤ h ∧ h / 2 % 64 ≠ 0 ∧ h / 2 / 64 ≤ 9999
instance (h : Int) : Decidable (isH h) := by unfold isH; infer_instance
theorem s_IsHandle (h : Int) (h1 : h ≤ 9223372036854775807) : spec_IsHandle.f h = some (decide (isH h)) := by
  unfold spec_IsHandle.f isH
  by_cases h2 : h > 1
  · rw [if_pos h2, tdiv_pos (by omega), w64 (by omega) (by omega), tmod_pos (by omega), tdiv_pos (by omega), w64 (by omega) (by omega)]
    by_cases h3 : h / 2 % 64 > 0
    · rw [if_pos h3]
      congr 1
      exact decide_eq_decide.2 (by omega)
    · rw [if_neg h3]
      exact congrArg some (decide_eq_false (by omega)).symm
  · rw [if_neg h2]
    exact congrArg some (decide_eq_false (by omega)).symm

theorem i_parts (h : Int) (h1 : h ≤ 9223372036854775807) : impl_parts.f h = some (if isH h then (h / 2 % 64 - 1, h / 2 / 64, true) else (-1, -1, false)) := by
  unfold impl_parts.f
  by_cases h2 : h < 2
  · rw [if_pos h2, if_neg (by unfold isH; omega)]
  · rw [if_neg h2, tdiv_pos (by omega), w64 (x := h / 2) (by omega) (by omega), w64 (x := h / 2 - 1) (by omega) (by omega), tmod_pos (by omega), tdiv_pos (by omega), w64 (by omega) (by omega)]
    by_cases h3 : isH h
    · rw [if_pos h3]
      unfold isH at h3
      rw [if_neg (by omega), if_neg (by omega)]
      have e1 : (h / 2 - 1) % 64 = h / 2 % 64 - 1 := by omega
      have e2 : (h / 2 - 1) / 64 = h / 2 / 64 := by omega
      rw [e1, e2]
    · rw [if_neg h3]
      unfold isH at h3
      repeat' split
      all_goals first | rfl | omega

def idxOf (h : Int) : Int := if isH h then h / 2 % 64 - 1 else -1
theorem s_IndexOf (h : Int) (h1 : h ≤ 9223372036854775807) : spec_IndexOf.f h = some (idxOf h) := by
  unfold spec_IndexOf.f idxOf
  rw [s_IsHandle h h1]
  simp only [Option.bind_some, decide_eq_true_eq]
  by_cases h3 : isH h
  · have h4 := h3
    unfold isH at h4
    rw [if_pos h3, if_pos h3, tdiv_pos (x := h) (by omega), w64 (x := h / 2) (by omega) (by omega), tmod_pos (x := h / 2) (by omega), w64 (by omega) (by omega)]
  · rw [if_neg h3, if_neg h3]
theorem i_IndexOf (h : Int) (h1 : h ≤ 9223372036854775807) : impl_IndexOf.f h = some (idxOf h) := by
  unfold impl_IndexOf.f idxOf
  rw [i_parts h h1]
  by_cases h2 : isH h <;> simp [h2]

def genOf (h : Int) : Int := if isH h then h / 2 / 64 else -1
theorem s_GenerationOf (h : Int) (h1 : h ≤ 9223372036854775807) : spec_GenerationOf.f h = some (genOf h) := by
  unfold spec_GenerationOf.f genOf
  rw [s_IsHandle h h1]
  simp only [Option.bind_some, decide_eq_true_eq]
  by_cases h3 : isH h
  · have h4 := h3
    unfold isH at h4
    rw [if_pos h3, if_pos h3, tdiv_pos (x := h) (by omega), w64 (x := h / 2) (by omega) (by omega), tdiv_pos (by omega), w64 (by omega) (by omega)]
  · rw [if_neg h3, if_neg h3]
theorem i_GenerationOf (h : Int) (h1 : h ≤ 9223372036854775807) : impl_GenerationOf.f h = some (genOf h) := by
  unfold impl_GenerationOf.f genOf
  rw [i_parts h h1]
  by_cases h2 : isH h <;> simp [h2]

theorem i_IsHandle (h : Int) (h1 : h ≤ 9223372036854775807) : impl_IsHandle.f h = some (decide (isH h)) := by
  unfold impl_IsHandle.f
  rw [i_parts h h1]
  by_cases h2 : isH h <;> simp [h2]

def isM (h : Int) : Prop := h = 1 ∨ isH h ∧ h % 2 = 1
instance (h : Int) : Decidable (isM h) := by unfold isM; infer_instance
theorem s_IsMarked (h : Int) (h1 : h ≤ 9223372036854775807) : spec_IsMarked.f h = some (decide (isM h)) := by
  unfold spec_IsMarked.f isM
  by_cases h2 : h = 1
  · simp [h2]
  · rw [if_neg h2, s_IsHandle h h1]
    simp only [Option.bind_some, decide_eq_true_eq]
    by_cases h3 : isH h
    · rw [if_pos h3, tmod_pos (by unfold isH at h3; omega)]
      by_cases h4 : h % 2 = 1 <;> simp [h2, h3, h4]
    · rw [if_neg h3]
      simp [h2, h3]
theorem i_IsMarked (h : Int) (h1 : h ≤ 9223372036854775807) : impl_IsMarked.f h = some (decide (isM h)) := by
  unfold impl_IsMarked.f isM
  by_cases h2 : h = 1
  · simp [h2]
  · rw [if_neg h2, i_IsHandle h h1]
    simp only [Option.bind_some, decide_eq_true_eq]
    by_cases h3 : isH h
    · rw [if_pos h3, tmod_pos (by unfold isH at h3; omega)]
      by_cases h4 : h % 2 = 1 <;> simp [h2, h3, h4]
    · rw [if_neg h3]
      simp [h2, h3]

def unm (h : Int) : Int := if isM h then h - 1 else h
theorem s_Unmarked (h : Int) (h1 : h ≤ 9223372036854775807) : spec_Unmarked.f h = some (unm h) := by
  unfold spec_Unmarked.f unm
  rw [s_IsMarked h h1]
  simp only [Option.bind_some, decide_eq_true_eq]
  by_cases h2 : isM h
  · have h3 := h2
    unfold isM isH at h3
    rw [if_pos h2, if_pos h2, w64 (by omega) (by omega)]
  · rw [if_neg h2, if_neg h2]

def fhS (h : Int) : ByteArray := if isM h then bs [42] else bs []
def fh (h : Int) : ByteArray := if unm h = 0 then bs [110, 111, 110, 101] ++ fhS h else if isH h then ((dec (idxOf h) ++ bs [46]) ++ dec (genOf h)) ++ fhS h else bs []
theorem fhS_size (h : Int) : (fhS h).size ≤ 1 := by
  unfold fhS
  by_cases m : isM h
  · rw [if_pos m]; exact Nat.le_refl _
  · rw [if_neg m]; exact Nat.zero_le _
theorem idx_b (h : Int) : -1 ≤ idxOf h ∧ idxOf h ≤ 62 := by
  by_cases d : isH h
  · rw [idxOf, if_pos d]; unfold isH at d; omega
  · rw [idxOf, if_neg d]; omega
theorem gen_b (h : Int) : -1 ≤ genOf h ∧ genOf h ≤ 9999 := by
  by_cases d : isH h
  · rw [genOf, if_pos d]; unfold isH at d; omega
  · rw [genOf, if_neg d]; omega
theorem fh_size (h : Int) : (fh h).size ≤ 100 := by
  have h1 := fhS_size h
  have i1 := idx_b h
  have g1 := gen_b h
  have d1 := dec30 (n := idxOf h) (by omega) (by omega)
  have d2 := dec30 (n := genOf h) (by omega) (by omega)
  have e1 : (bs [110, 111, 110, 101]).size = 4 := rfl
  have e2 : (bs [46]).size = 1 := rfl
  have e3 : (bs []).size = 0 := rfl
  unfold fh
  split
  · rw [ByteArray.size_append]; omega
  · split
    · rw [ByteArray.size_append, ByteArray.size_append, ByteArray.size_append]; omega
    · omega
theorem unm_idx (h : Int) : idxOf (unm h) = idxOf h ∧ genOf (unm h) = genOf h ∨ h = 1 := by
  by_cases c : isM h
  · have e : unm h = h - 1 := if_pos c
    have c' := c
    unfold isM at c'
    rcases c' with c1 | ⟨c1, c2⟩
    · exact .inr c1
    · left
      have d2 : isH (h - 1) := by unfold isH at c1 ⊢; omega
      have e2 : (h - 1) / 2 = h / 2 := by omega
      unfold idxOf genOf
      rw [e, if_pos d2, if_pos c1, if_pos d2, if_pos c1, e2]
      exact ⟨rfl, rfl⟩
  · have e : unm h = h := if_neg c
    rw [e]
    exact .inl ⟨rfl, rfl⟩
theorem unm_b (h : Int) (h0 : -9223372036854775808 ≤ h) (h1 : h ≤ 9223372036854775807) : unm h ≤ 9223372036854775807 := by
  by_cases c : isM h
  · rw [unm, if_pos c]; omega
  · rw [unm, if_neg c]; omega
theorem unm_H {h : Int} (d : isH h) : unm h ≠ 0 := by
  unfold isH at d
  by_cases c : isM h
  · rw [unm, if_pos c]; omega
  · rw [unm, if_neg c]; omega
theorem unm_0 {h : Int} (d : ¬ isH h) (z : h ≠ 0) (o : h ≠ 1) : unm h ≠ 0 := by
  by_cases c : isM h
  · unfold isM at c
    rcases c with c | c
    · exact absurd c o
    · exact absurd c.1 d
  · rw [unm, if_neg c]; exact z
theorem s_FormatHandle_j (h : Int) (x3 : ByteArray) (hx : x3.size ≤ 1) (h0 : -9223372036854775808 ≤ h) (h1 : h ≤ 9223372036854775807) :
    Ev (fun k => spec_FormatHandle.j0 k h x3) (if unm h = 0 then bs [110, 111, 110, 101] ++ x3 else if isH h then ((dec (idxOf h) ++ bs [46]) ++ dec (genOf h)) ++ x3 else bs []) := by
  have hu := unm_b h h0 h1
  by_cases c : unm h = 0
  · rw [if_pos c]
    refine Ev.step (f := fun _ => some _) (fun k => ?_) (Ev.now _)
    simp only [spec_FormatHandle.j0, s_Unmarked h h1, Option.bind_some, if_pos c]
    rw [if_pos (by omega)]
    rfl
  · rw [if_neg c]
    by_cases d : isH h
    · rw [if_pos d]
      have hi : idxOf (unm h) = idxOf h ∧ genOf (unm h) = genOf h := by
        rcases unm_idx h with e | e
        · exact e
        · subst e
          exact absurd d (by unfold isH; omega)
      have i1 := idx_b h
      have g1 := gen_b h
      have d1 := dec30 (n := idxOf h) (by omega) (by omega)
      have d2 := dec30 (n := genOf h) (by omega) (by omega)
      refine Ev.step (f := fun k => (spec_FormatInt.f k (idxOf h)).bind fun t115 => if t115.size + 1 ≤ 9223372036854775807 then (spec_FormatInt.f k (genOf h)).bind fun t117 => if (t115 ++ bs [46]).size + t117.size ≤ 9223372036854775807 then if ((t115 ++ bs [46]) ++ t117).size + x3.size ≤ 9223372036854775807 then some (((t115 ++ bs [46]) ++ t117) ++ x3) else none else none else none) (fun k => ?_) (Ev.bind (s_FormatInt (idxOf h) (by omega) (by omega)) ?_)
      · simp only [spec_FormatHandle.j0, s_Unmarked h h1, Option.bind_some, if_neg c, s_IsHandle h h1, decide_eq_true d, if_true, s_IndexOf (unm h) hu, s_GenerationOf (unm h) hu, hi.1, hi.2]
        rfl
      · simp (disch := omega) only [ifle]
        refine Ev.bind (s_FormatInt (genOf h) (by omega) (by omega)) ?_
        simp (disch := omega) only [ifle, ByteArray.size_append, bs_size, List.length_cons, List.length_nil]
        exact Ev.now _
    · rw [if_neg d]
      refine Ev.step (f := fun _ => some _) (fun k => ?_) (Ev.now _)
      simp only [spec_FormatHandle.j0, s_Unmarked h h1, Option.bind_some, if_neg c, s_IsHandle h h1, decide_eq_false d]
      rw [if_neg (by decide)]
      rfl
theorem s_FormatHandle (h : Int) (h0 : -9223372036854775808 ≤ h) (h1 : h ≤ 9223372036854775807) : Ev (fun k => spec_FormatHandle.f k h) (fh h) := by
  unfold spec_FormatHandle.f fh fhS
  simp only [s_IsMarked h h1, Option.bind_some, decide_eq_true_eq]
  by_cases m : isM h
  · simp only [if_pos m]
    exact s_FormatHandle_j h _ (by decide) h0 h1
  · simp only [if_neg m]
    exact s_FormatHandle_j h _ (by decide) h0 h1

theorem i_FormatHandle (h : Int) (h0 : -9223372036854775808 ≤ h) (h1 : h ≤ 9223372036854775807) : Ev (fun k => impl_FormatHandle.f k h) (fh h) := by
  unfold impl_FormatHandle.f
  simp only [i_IsHandle h h1, Option.bind_some, decide_eq_true_eq]
  have i1 := idx_b h
  have g1 := gen_b h
  have d1 := dec30 (n := idxOf h) (by omega) (by omega)
  have d2 := dec30 (n := genOf h) (by omega) (by omega)
  by_cases d : isH h
  · have hu := unm_H d
    simp only [if_pos d, i_IndexOf h h1, i_GenerationOf h h1, i_IsMarked h h1, Option.bind_some, i_FormatInt (idxOf h) (by omega) (by omega), i_FormatInt (genOf h) (by omega) (by omega), decide_eq_true_eq]
    simp only [ByteArray.size_append, lsz, List.length_cons, List.length_nil]
    rw [if_pos (by omega), if_pos (by omega)]
    unfold fh fhS
    rw [if_neg hu, if_pos d]
    by_cases m : isM h
    · rw [if_pos m, if_pos m, if_pos (by omega)]
      exact Ev.now _
    · rw [if_neg m, if_neg m]
      rw [bs_nil, ByteArray.append_empty]
      exact Ev.now _
  · simp only [if_neg d]
    by_cases z : h = 0
    · subst z
      simp only [if_true]
      refine Ev.step (f := fun _ => some _) (fun k => ?_) (Ev.now _)
      simp only [impl_FormatHandle.j0, i_IsMarked 0 h1, Option.bind_some]
      rw [if_neg (by decide), if_neg (by decide)]
      rfl
    · simp only [if_neg z]
      by_cases o : h = 1
      · subst o
        refine Ev.step (f := fun _ => some _) (fun k => ?_) (Ev.now _)
        simp only [impl_FormatHandle.j0, i_IsMarked 1 h1, Option.bind_some]
        rw [if_neg (by decide), if_pos (by decide), if_pos (by decide)]
        rfl
      · refine Ev.step (f := fun _ => some _) (fun k => ?_) (Ev.now _)
        simp only [impl_FormatHandle.j0]
        rw [if_pos (by simpa using o)]
        unfold fh
        rw [if_neg (unm_0 d z o), if_neg d]
        rfl

theorem l1In_ (x a b : Int) : spec_l1In.f x a b = some (decide (a ≤ x ∧ x ≤ b)) := by
  unfold spec_l1In.f
  by_cases h : a ≤ x <;> simp [h]

def mkH (a b : Int) : Int := if 0 ≤ a ∧ a ≤ 62 ∧ 0 ≤ b ∧ b ≤ 9999 then (b * 64 + a + 1) * 2 else 0
theorem s_MakeHandle (a b : Int) : spec_MakeHandle.f a b = some (mkH a b) := by
  unfold spec_MakeHandle.f mkH
  simp only [l1In_, Option.bind_some, decide_eq_true_eq]
  by_cases h1 : 0 ≤ a ∧ a ≤ 62
  · by_cases h2 : 0 ≤ b ∧ b ≤ 9999
    · rw [if_pos h1, if_pos h2, if_pos ⟨h1.1, h1.2, h2.1, h2.2⟩]
      congr 1
      unfold wrap64
      omega
    · rw [if_pos h1, if_neg h2, if_neg (by omega)]
  · rw [if_neg h1, if_neg (by omega)]
theorem i_MakeHandle (a b : Int) : impl_MakeHandle.f a b = some (mkH a b) := by
  unfold impl_MakeHandle.f mkH
  by_cases h1 : 0 ≤ a ∧ a ≤ 62 ∧ 0 ≤ b ∧ b ≤ 9999
  · rw [if_neg (by omega), if_neg (by omega), if_neg (by omega), if_neg (by omega), if_pos h1]
    congr 1
    unfold wrap64
    omega
  · rw [if_neg h1]
    repeat' split
    all_goals first | rfl | omega

def mrk (h : Int) : Int := if h = 0 ∨ isH h ∧ h % 2 = 0 then h + 1 else h
theorem i_Marked (h : Int) (h1 : h ≤ 9223372036854775807) : impl_Marked.f h = some (mrk h) := by
  unfold impl_Marked.f mrk
  by_cases h2 : h = 0
  · rw [if_pos h2, if_pos (.inl h2), w64 (by omega) (by omega)]
  · rw [if_neg h2, i_IsHandle h h1]
    simp only [Option.bind_some, decide_eq_true_eq]
    by_cases h3 : isH h
    · have h4 := h3
      unfold isH at h4
      rw [if_pos h3, tmod_pos (x := h) (by omega)]
      by_cases h5 : h % 2 = 0
      · rw [if_pos h5, if_pos (.inr ⟨h3, h5⟩), w64 (by omega) (by omega)]
      · rw [if_neg h5, if_neg (fun x => x.elim h2 (fun y => h5 y.2))]
    · rw [if_neg h3, if_neg (fun x => x.elim h2 (fun y => h3 y.1))]

theorem mkH_b (a b : Int) : 0 ≤ mkH a b ∧ mkH a b ≤ 2000000 := by
  unfold mkH
  by_cases h : 0 ≤ a ∧ a ≤ 62 ∧ 0 ≤ b ∧ b ≤ 9999
  · rw [if_pos h]; omega
  · rw [if_neg h]; omega
def ans (s : ByteArray) (c : Int) : Int × Bool := if fh c = s then (c, true) else (0, false)

def ist (s : ByteArray) (h : Int) : Int := if Lib.hasSuffix s.data.toList [42] = true then mrk h else h
def ibase (s : ByteArray) : List UInt8 := Lib.trimSuffix s.data.toList [42]
def icand (s : ByteArray) : Option Int := if ibase s = [110, 111, 110, 101] then some (ist s 0) else
  if (parI (bs (Lib.cut (ibase s) [46]).1)).2 = true ∧ (parI (bs (Lib.cut (ibase s) [46]).2.1)).2 = true then some (ist s (mkH (parI (bs (Lib.cut (ibase s) [46]).1)).1 (parI (bs (Lib.cut (ibase s) [46]).2.1)).1)) else none
def ians (s : ByteArray) : Int × Bool := match icand s with
  | some c => ans s c
  | none => (0, false)
theorem i_fin (s : ByteArray) (c : Int) (h0 : 0 ≤ c) (h1 : c ≤ 3000000) : Ev (fun k => (impl_FormatHandle.f k c).bind fun t => if t.toList = s.toList then some (c, true) else some (0, false)) (ans s c) := by
  refine Ev.bind (i_FormatHandle c (by omega) (by omega)) ⟨0, fun _ _ => ?_⟩
  unfold ans
  by_cases h : fh c = s
  · rw [if_pos (toList_iff.2 h), if_pos h]
  · rw [if_neg (fun x => h (toList_iff.1 x)), if_neg h]
theorem mrk_b (h : Int) (h0 : 0 ≤ h) : 0 ≤ mrk h ∧ mrk h ≤ h + 1 := by
  by_cases c : h = 0 ∨ isH h ∧ h % 2 = 0
  · rw [mrk, if_pos c]; omega
  · rw [mrk, if_neg c]; omega
theorem i_ParseHandle_j (s : ByteArray) (h : Int) (h0 : 0 ≤ h) (h1 : h ≤ 2000000) : Ev (fun k => impl_ParseHandle.j0 k s (Lib.hasSuffix s.data.toList [42]) h) (ans s (ist s h)) := by
  have hm := mrk_b h h0
  unfold ist
  by_cases c : Lib.hasSuffix s.data.toList [42] = true
  · rw [if_pos c, c]
    refine Ev.step (fun k => ?_) (i_fin s (mrk h) (by omega) (by omega))
    simp only [impl_ParseHandle.j0, if_true, i_Marked h (by omega), Option.bind_some]
  · have c' : Lib.hasSuffix s.data.toList [42] = false := by simpa using c
    rw [if_neg c, c']
    refine Ev.step (fun k => ?_) (i_fin s h (by omega) (by omega))
    simp only [impl_ParseHandle.j0]
    rw [if_neg (by decide)]
theorem i_ParseHandle (s : ByteArray) (hs : s.size ≤ 1048576) : Ev (fun k => impl_ParseHandle.f k s) (ians s) := by
  have hsz : s.data.toList.length = s.size := by rw [Array.length_toList]; rfl
  have hb : (ibase s).length ≤ 1048576 := by
    unfold ibase Lib.trimSuffix
    split
    · rw [List.length_take]; omega
    · omega
  have hc1 : (Lib.cut (ibase s) [46]).1.length ≤ 1048576 := by
    unfold Lib.cut
    split
    · simp only [List.length_take]; omega
    · exact hb
  have hc2 : (Lib.cut (ibase s) [46]).2.1.length ≤ 1048576 := by
    unfold Lib.cut
    split
    · simp only [List.length_drop]; omega
    · exact Nat.zero_le _
  have e1 : strings_CutSuffix.f s (⟨#[42]⟩ : ByteArray) = some (bs (ibase s), Lib.hasSuffix s.data.toList [42]) := by
    unfold strings_CutSuffix.f
    rw [if_pos (by omega)]
    rfl
  have e2 : strings_Cut.f (bs (ibase s)) (⟨#[46]⟩ : ByteArray) = some (bs (Lib.cut (ibase s) [46]).1, bs (Lib.cut (ibase s) [46]).2.1, (Lib.cut (ibase s) [46]).2.2) := by
    unfold strings_Cut.f
    rw [if_pos (by rw [bs_size]; omega), bs_toList]
    rfl
  have p1 := i_ParseInt (bs (Lib.cut (ibase s) [46]).1) (by rw [bs_size]; omega)
  have p2 := i_ParseInt (bs (Lib.cut (ibase s) [46]).2.1) (by rw [bs_size]; omega)
  unfold impl_ParseHandle.f ians icand
  simp only [e1, Option.bind_some]
  by_cases hn : ibase s = [110, 111, 110, 101]
  · have hn' : (bs (ibase s)).toList = ([110, 111, 110, 101] : List UInt8) := by rw [ByteArray.toList_eq, bs_toList, hn]
    simp only [if_pos hn', if_pos hn]
    exact i_ParseHandle_j s 0 (by omega) (by omega)
  · have hn' : ¬ (bs (ibase s)).toList = ([110, 111, 110, 101] : List UInt8) := by rw [ByteArray.toList_eq, bs_toList]; exact hn
    simp only [if_neg hn', if_neg hn, e2, Option.bind_some, p1, p2, i_MakeHandle]
    have hb2 := mkH_b (parI (bs (Lib.cut (ibase s) [46]).1)).1 (parI (bs (Lib.cut (ibase s) [46]).2.1)).1
    by_cases g1 : (parI (bs (Lib.cut (ibase s) [46]).1)).2 = true
    · by_cases g2 : (parI (bs (Lib.cut (ibase s) [46]).2.1)).2 = true
      · simp only [if_pos g1, if_pos g2, if_pos (And.intro g1 g2)]
        exact i_ParseHandle_j s _ hb2.1 hb2.2
      · simp only [if_pos g1, if_neg g2, if_neg (fun h : (parI (bs (Lib.cut (ibase s) [46]).1)).2 = true ∧ (parI (bs (Lib.cut (ibase s) [46]).2.1)).2 = true => g2 h.2)]
        exact Ev.now _
    · simp only [if_neg g1, if_neg (fun h : (parI (bs (Lib.cut (ibase s) [46]).1)).2 = true ∧ (parI (bs (Lib.cut (ibase s) [46]).2.1)).2 = true => g1 h.1)]
      exact Ev.now _

def vld (h : Int) : Prop := h = 0 ∨ h = 1 ∨ isH h
theorem fh_vld (c : Int) (h : fh c ≠ bs []) : vld c := by
  by_cases h0 : c = 0
  · exact .inl h0
  · by_cases h1 : c = 1
    · exact .inr (.inl h1)
    · by_cases h2 : isH c
      · exact .inr (.inr h2)
      · exfalso
        apply h
        unfold fh
        rw [if_neg (unm_0 h2 h0 h1), if_neg h2]
theorem suf_last (Y : List UInt8) (u : UInt8) : Lib.hasSuffix (Y ++ [u]) [42] = decide (u = 42) := by
  rw [← Lib.hasSuffix_of_drop]
  have e : (Y ++ [u]).drop ((Y ++ [u]).length - ([42] : List UInt8).length) = [u] := by simp
  rw [e]
  by_cases h : u = 42
  · subst h
    simp
  · rw [decide_eq_false h]
    simp [h]
theorem trim_last (Y : List UInt8) : Lib.trimSuffix (Y ++ [42]) [42] = Y := by
  unfold Lib.trimSuffix
  rw [suf_last, if_pos (by decide)]
  simp
theorem trim_not (Y : List UInt8) (u : UInt8) (h : u ≠ 42) : Lib.trimSuffix (Y ++ [u]) [42] = Y ++ [u] := by
  unfold Lib.trimSuffix
  rw [suf_last, if_neg (by simpa using h)]
theorem index_dot (D E : List UInt8) (hD : ∀ b ∈ D, (b.toNat : Int) ≠ 46) : Lib.index (D ++ 46 :: E) [46] = (D.length : Int) := by
  induction D with
  | nil => rw [List.nil_append, Lib.index, if_pos (by simp)]; rfl
  | cons b D ih =>
    have hb : b ≠ 46 := fun h => hD b (by simp) (by rw [h]; rfl)
    rw [List.cons_append, Lib.index, if_neg (by simp; exact fun h => hb h.symm), ih (fun x hx => hD x (by simp [hx])), if_neg (by simp <;> omega)]
    simp
theorem cut_dot (D E : List UInt8) (hD : ∀ b ∈ D, (b.toNat : Int) ≠ 46) : Lib.cut (D ++ 46 :: E) [46] = (D, E, true) := by
  unfold Lib.cut
  rw [index_dot D E hD, if_pos (by omega)]
  simp
theorem digits_nd (m : Nat) : ∀ b ∈ Lib.decDigits m, (b.toNat : Int) ≠ 46 := by
  intro b hb
  have := decD_digit m b hb
  omega
theorem mkH_back (h : Int) (d : isH h) : mkH (idxOf h) (genOf h) = h - h % 2 := by
  rw [idxOf, if_pos d, genOf, if_pos d]
  unfold isH at d
  unfold mkH
  rw [if_pos (by omega)]
  omega
theorem fh_H (h : Int) (d : isH h) : fh h = bs ((Lib.decDigits (idxOf h).toNat ++ 46 :: Lib.decDigits (genOf h).toNat) ++ (if isM h then [42] else [])) := by
  have hi : ¬ idxOf h < 0 := by rw [idxOf, if_pos d]; unfold isH at d; omega
  have hg : ¬ genOf h < 0 := by rw [genOf, if_pos d]; unfold isH at d; omega
  unfold fh fhS
  rw [if_neg (unm_H d), if_pos d, dec_pos _ hi, dec_pos _ hg, ← bs_append, ← bs_append]
  by_cases m : isM h
  · rw [if_pos m, if_pos m, ← bs_append]
    congr 1
    simp
  · rw [if_neg m, if_neg m, ← bs_append]
    congr 1
    simp
theorem par_i (h : Int) (d : isH h) : parI (bs (Lib.decDigits (idxOf h).toNat)) = (idxOf h, true) ∧ parI (bs (Lib.decDigits (genOf h).toNat)) = (genOf h, true) := by
  have hi := idx_b h
  have hg := gen_b h
  have hi0 : ¬ idxOf h < 0 := by rw [idxOf, if_pos d]; unfold isH at d; omega
  have hg0 : ¬ genOf h < 0 := by rw [genOf, if_pos d]; unfold isH at d; omega
  rw [← dec_pos _ hi0, ← dec_pos _ hg0]
  exact ⟨(parI_dec _ (by omega) (by omega)).1, (parI_dec _ (by omega) (by omega)).1⟩
theorem isM_odd (h : Int) (d : isH h) : isM h ↔ h % 2 = 1 := by
  unfold isM
  constructor
  · intro x
    rcases x with x | x
    · subst x; rfl
    · exact x.2
  · intro x
    exact .inr ⟨d, x⟩
theorem ic_back (h : Int) (v : vld h) : icand (fh h) = some h := by
  rcases v with rfl | rfl | d
  · have e : fh 0 = bs [110, 111, 110, 101] := by decide +kernel
    rw [e]
    decide +kernel
  · have e : fh 1 = bs ([110, 111, 110, 101] ++ [42]) := by decide +kernel
    rw [e]
    decide +kernel
  · have hp := par_i h d
    have hm := mkH_back h d
    have hc := cut_dot (Lib.decDigits (idxOf h).toNat) (Lib.decDigits (genOf h).toNat) (digits_nd _)
    have hne : ¬ (Lib.decDigits (idxOf h).toNat ++ 46 :: Lib.decDigits (genOf h).toNat) = [110, 111, 110, 101] := by
      intro x
      have : (46 : UInt8) ∈ ([110, 111, 110, 101] : List UInt8) := by rw [← x]; simp
      revert this
      decide
    rw [fh_H h d]
    by_cases m : isM h
    · rw [if_pos m]
      have h2 := (isM_odd h d).1 m
      have hb : ibase (bs ((Lib.decDigits (idxOf h).toNat ++ 46 :: Lib.decDigits (genOf h).toNat) ++ [42])) = Lib.decDigits (idxOf h).toNat ++ 46 :: Lib.decDigits (genOf h).toNat := by
        unfold ibase
        rw [bs_toList, trim_last]
      unfold icand
      rw [hb, if_neg hne, hc]
      simp only
      rw [hp.1, hp.2]
      simp only [and_self, if_true]
      congr 1
      unfold ist
      rw [bs_toList, suf_last, if_pos (by decide), hm, mrk, if_pos (.inr ⟨by unfold isH at d ⊢; omega, by omega⟩)]
      omega
    · rw [if_neg m, List.append_nil]
      have h2 : h % 2 = 0 := by
        have h3 : ¬ h % 2 = 1 := fun x => m ((isM_odd h d).2 x)
        omega
      have hu : ∀ u : UInt8, u = UInt8.ofNat (48 + (genOf h).toNat % 10) → u ≠ 42 := by
        intro u hu h42
        have : u.toNat = 42 := by rw [h42]; rfl
        rw [hu] at this
        simp only [UInt8.toNat_ofNat'] at this
        omega
      have hb : ibase (bs (Lib.decDigits (idxOf h).toNat ++ 46 :: Lib.decDigits (genOf h).toNat)) = Lib.decDigits (idxOf h).toNat ++ 46 :: Lib.decDigits (genOf h).toNat := by
        unfold ibase
        rw [bs_toList, decD_step (genOf h).toNat, ← List.cons_append, ← List.append_assoc, trim_not _ _ (hu _ rfl)]
      have hs : Lib.hasSuffix (Lib.decDigits (idxOf h).toNat ++ 46 :: Lib.decDigits (genOf h).toNat) [42] = false := by
        rw [decD_step (genOf h).toNat, ← List.cons_append, ← List.append_assoc, suf_last]
        exact decide_eq_false (hu _ rfl)
      unfold icand
      rw [hb, if_neg hne, hc]
      simp only
      rw [hp.1, hp.2]
      simp only [and_self, if_true]
      congr 1
      unfold ist
      rw [bs_toList, hs, if_neg (by decide), hm]
      omega

theorem and_255 (y : Int) : 0 ≤ Go.bits .and .i64 y 255 ∧ Go.bits .and .i64 y 255 ≤ 255 := by
  have e : Go.bits .and .i64 y 255 = IntKind.i64.wrap (((BitVec.ofInt 64 y).toNat &&& 255 : Nat) : Int) := by
    show IntKind.i64.wrap _ = _
    congr 1
  have h : (BitVec.ofInt 64 y).toNat &&& 255 ≤ 255 := Nat.and_le_right
  rw [e, IntKind.wrap_i64]
  omega
theorem l1New_l (l : List Int) (hl : l.length ≤ maxLen) (d : Nat) : ∀ (i : Nat) (h : Int), i + d = 4000 → ∃ h', Ev (fun k => spec_l1New.l0 k l h i) (l, 0, h') := by
  induction d with
  | zero =>
    intro i h hi
    refine ⟨h, Ev.step (f := fun _ => some _) (fun k => ?_) (Ev.now _)⟩
    simp only [spec_l1New.l0]
    rw [if_neg (show ¬ (i : Int) < 4000 by omega)]
    first | done | (split <;> rfl)
  | succ d ih =>
    intro i h hi
    by_cases h1 : (i : Int) < l.length
    · obtain ⟨h', hh⟩ := ih (i + 1) (Go.bits .and .i64 (wrap64 ((wrap64 ((wrap64 (h * 131)) + (wrap64 (rd l i)))) + 7)) 1073741823) (by omega)
      refine ⟨h', Ev.step (fun k => ?_) hh⟩
      simp only [spec_l1New.l0]
      rw [if_pos h1, if_pos (by omega), if_pos (by omega), w64 (x := (i : Int) + 1) (by omega) (by omega)]
      rfl
    · refine ⟨h, Ev.step (f := fun _ => some _) (fun k => ?_) (Ev.now _)⟩
      simp only [spec_l1New.l0]
      rw [if_neg h1]
theorem l1New (l : List Int) (hl : l.length ≤ maxLen) : ∃ h, Ev (fun k => spec_l1New.f k l) (l, 0, h) := l1New_l l hl 4000 0 _ rfl
theorem l1Byte (b : List Int) (i h : Int) (hb : b.length ≤ maxLen) (hi : 0 ≤ i) : ∃ x i' h', spec_l1Byte.f b i h = some (x, i', h') ∧ 0 ≤ x ∧ x ≤ 255 ∧ 0 ≤ i' := by
  unfold maxLen at hb
  unfold spec_l1Byte.f
  by_cases h1 : i < b.length
  · rw [if_pos h1, if_pos hi]
    refine ⟨_, _, _, rfl, (and_255 _).1, (and_255 _).2, ?_⟩
    rw [w64 (by omega) (by omega)]
    omega
  · rw [if_neg h1]
    exact ⟨_, _, _, rfl, (and_255 _).1, (and_255 _).2, hi⟩
theorem l1Below (b : List Int) (i h n : Int) (hb : b.length ≤ maxLen) (hi : 0 ≤ i) (hn : n ≤ 4294967296) : ∃ x i' h', spec_l1Below.f b i h n = some (x, i', h') ∧ 0 ≤ x ∧ (0 < n → x < n) ∧ (n ≤ 0 → x = 0) ∧ x ≤ 4294967296 ∧ 0 ≤ i' := by
  unfold spec_l1Below.f
  by_cases h1 : n ≤ 0
  · rw [if_pos h1]
    exact ⟨_, _, _, rfl, by omega, by omega, fun _ => rfl, by omega, hi⟩
  · rw [if_neg h1]
    by_cases h2 : n ≤ 256
    · rw [if_pos h2]
      obtain ⟨x, i', h', e, x0, x1, hi'⟩ := l1Byte b i h hb hi
      rw [e]
      simp only [Option.bind_some]
      rw [if_neg (by omega), tmod_pos x0]
      exact ⟨_, _, _, rfl, Int.emod_nonneg _ (by omega), fun _ => Int.emod_lt_of_pos _ (by omega), by omega, by have := Int.emod_lt_of_pos x (show 0 < n by omega); omega, hi'⟩
    · rw [if_neg h2]
      obtain ⟨x, i1, h1', e1, x0, x1, hi1⟩ := l1Byte b i h hb hi
      obtain ⟨y, i2, h2', e2, y0, y1, hi2⟩ := l1Byte b i1 h1' hb hi1
      obtain ⟨z, i3, h3', e3, z0, z1, hi3⟩ := l1Byte b i2 h2' hb hi2
      obtain ⟨u, i4, h4', e4, u0, u1, hi4⟩ := l1Byte b i3 h3' hb hi3
      rw [e1]
      simp only [Option.bind_some]
      rw [e2]
      simp only [Option.bind_some]
      rw [e3]
      simp only [Option.bind_some]
      rw [e4]
      simp only [Option.bind_some]
      rw [if_neg (by omega), w64 (x := x * 16777216) (by omega) (by omega), w64 (x := y * 65536) (by omega) (by omega), w64 (x := z * 256) (by omega) (by omega), w64 (x := x * 16777216 + y * 65536) (by omega) (by omega), w64 (x := x * 16777216 + y * 65536 + z * 256) (by omega) (by omega), w64 (x := x * 16777216 + y * 65536 + z * 256 + u) (by omega) (by omega), tmod_pos (by omega)]
      exact ⟨_, _, _, rfl, Int.emod_nonneg _ (by omega), fun _ => Int.emod_lt_of_pos _ (by omega), by omega, by have := Int.emod_lt_of_pos (x * 16777216 + y * 65536 + z * 256 + u) (show 0 < n by omega); omega, hi4⟩

theorem l1PickInt (b : List Int) (i h : Int) (l : List Int) (hb : b.length ≤ maxLen) (hi : 0 ≤ i) (h0 : 0 < l.length) (h1 : l.length ≤ 256) : ∃ x i' h', spec_l1PickInt.f b i h l = some (x, i', h') ∧ x ∈ l ∧ 0 ≤ i' := by
  obtain ⟨x, i', h', e, x0, x1, _, _, hi'⟩ := l1Below b i h (l.length : Int) hb hi (by omega)
  have hx := x1 (by omega)
  unfold spec_l1PickInt.f
  rw [e]
  simp only [Option.bind_some]
  rw [if_pos x0, if_pos hx]
  refine ⟨_, _, _, rfl, ?_, hi'⟩
  unfold rd
  rw [List.getD_eq_getElem?_getD, List.getElem?_eq_getElem (show x.toNat < l.length by omega)]
  exact List.getElem_mem _
theorem l2Handle (b : List Int) (i h : Int) (hb : b.length ≤ maxLen) (hi : 0 ≤ i) : ∃ x i' h', spec_l2Handle.f b i h = some (x, i', h') ∧ -2 ≤ x ∧ x ≤ 9223372036854775807 ∧ 0 ≤ i' := by
  unfold spec_l2Handle.f
  obtain ⟨x, i1, h1, e1, x0, _, _, _, hi1⟩ := l1Below b i h 8 hb hi (by omega)
  rw [e1]
  simp only [Option.bind_some]
  by_cases c0 : x = 0
  · rw [if_pos c0]
    exact ⟨_, _, _, rfl, by omega, by omega, hi1⟩
  · rw [if_neg c0]
    by_cases c1 : x = 1
    · rw [if_pos c1]
      obtain ⟨y, i2, h2, e2, hy, hi2⟩ := l1PickInt b i1 h1 [(-2), (-1), 1, 128, 129, 1280000, 1280126, 1280127, 9223372036854775807] hb hi1 (by simp) (by simp)
      rw [e2]
      simp only [Option.bind_some]
      refine ⟨_, _, _, rfl, ?_, ?_, hi2⟩
      · simp at hy; omega
      · simp at hy; omega
    · rw [if_neg c1]
      obtain ⟨y, i2, h2, e2, y0, y1, _, _, hi2⟩ := l1Below b i1 h1 9 hb hi1 (by omega)
      rw [e2]
      simp only [Option.bind_some]
      obtain ⟨z, i3, h3, e3, z0, z1, _, _, hi3⟩ := l1Below b i2 h2 4 hb hi2 (by omega)
      rw [e3]
      simp only [Option.bind_some, s_MakeHandle]
      obtain ⟨u, i4, h4, e4, u0, u1, _, _, hi4⟩ := l1Below b i3 h3 2 hb hi3 (by omega)
      rw [e4]
      simp only [Option.bind_some]
      have hm : 0 ≤ mkH y z ∧ mkH y z ≤ 2000000 := by
        unfold mkH
        by_cases h : 0 ≤ y ∧ y ≤ 62 ∧ 0 ≤ z ∧ z ≤ 9999
        · rw [if_pos h]; omega
        · rw [if_neg h]; omega
      have hu := u1 (by omega)
      exact ⟨_, _, _, rfl, by rw [w64 (by omega) (by omega)]; omega, by rw [w64 (by omega) (by omega)]; omega, hi4⟩
theorem drawMake (c : List Int) (hc : c.length ≤ maxLen) : ∃ a b, Ev (fun k => spec_DrawMakeHandle.f k c) (a, b) := by
  unfold spec_DrawMakeHandle.f
  obtain ⟨h, hn⟩ := l1New c hc
  obtain ⟨x, i1, h1, e1, _, hi1⟩ := l1PickInt c 0 h [0, 3, 62, 63, (-1)] hc (by omega) (by simp) (by simp)
  obtain ⟨y, i2, h2, e2, _, hi2⟩ := l1PickInt c i1 h1 [0, 2, 9999, 10000, (-1)] hc hi1 (by simp) (by simp)
  refine ⟨x, y, Ev.bind hn ?_⟩
  simp only [e1, e2, Option.bind_some]
  exact Ev.now _
theorem drawMarked (c : List Int) (hc : c.length ≤ maxLen) : ∃ x, Ev (fun k => spec_DrawMarked.f k c) x ∧ -2 ≤ x ∧ x ≤ 9223372036854775807 := by
  unfold spec_DrawMarked.f
  obtain ⟨h, hn⟩ := l1New c hc
  obtain ⟨x, i1, h1, e1, x0, x1, _⟩ := l2Handle c 0 h hc (by omega)
  refine ⟨x, Ev.bind hn ?_, x0, x1⟩
  simp only [e1, Option.bind_some]
  exact Ev.now _

theorem s_Marked (h : Int) (h1 : h ≤ 9223372036854775807) : spec_Marked.f h = some (mrk h) := by
  unfold spec_Marked.f mrk
  by_cases h2 : h = 0
  · rw [if_pos h2, if_pos (.inl h2), w64 (by omega) (by omega)]
  · rw [if_neg h2, s_IsHandle h h1]
    simp only [Option.bind_some, decide_eq_true_eq]
    by_cases h3 : isH h
    · have h4 := h3
      unfold isH at h4
      rw [if_pos h3, tmod_pos (x := h) (by omega)]
      by_cases h5 : h % 2 = 0
      · rw [if_pos h5, if_pos (.inr ⟨h3, h5⟩), w64 (by omega) (by omega)]
      · rw [if_neg h5, if_neg (fun x => x.elim h2 (fun y => h5 y.2))]
    · rw [if_neg h3, if_neg (fun x => x.elim h2 (fun y => h3 y.1))]

theorem i_Unmarked (h : Int) (h1 : h ≤ 9223372036854775807) : impl_Unmarked.f h = some (unm h) := by
  unfold impl_Unmarked.f unm
  rw [i_IsMarked h h1]
  simp only [Option.bind_some, decide_eq_true_eq]
  by_cases h2 : isM h
  · have h3 := h2
    unfold isM isH at h3
    rw [if_pos h2, if_pos h2, w64 (by omega) (by omega)]
  · rw [if_neg h2, if_neg h2]

theorem mrk_le (x : Int) (h : x ≤ 9223372036854775807) : mrk x ≤ 9223372036854775807 := by
  by_cases c : x = 0 ∨ isH x ∧ x % 2 = 0
  · rw [mrk, if_pos c]
    rcases c with c | ⟨c, _⟩
    · omega
    · unfold isH at c; omega
  · rw [mrk, if_neg c]; exact h
theorem unm_le (x : Int) (h : x ≤ 9223372036854775807) : unm x ≤ 9223372036854775807 := by
  by_cases c : isM x
  · rw [unm, if_pos c]; omega
  · rw [unm, if_neg c]; exact h
theorem mrk_mrk (x : Int) : mrk (mrk x) = mrk x := by
  by_cases c : x = 0 ∨ isH x ∧ x % 2 = 0
  · have e : mrk x = x + 1 := if_pos c
    rw [e]
    refine if_neg ?_
    rcases c with c | ⟨c, d⟩
    · subst c
      intro h
      rcases h with h | h
      · omega
      · unfold isH at h; omega
    · intro h
      unfold isH at c h
      omega
  · have e : mrk x = x := if_neg c
    rw [e]
    exact e
theorem unm_unm (x : Int) : unm (unm x) = unm x := by
  by_cases c : isM x
  · have e : unm x = x - 1 := if_pos c
    rw [e]
    refine if_neg ?_
    unfold isM at c ⊢
    rcases c with c | ⟨c, d⟩
    · subst c
      intro h
      rcases h with h | h
      · omega
      · unfold isH at h; omega
    · intro h
      unfold isH at c h
      omega
  · have e : unm x = x := if_neg c
    rw [e]
    exact e
theorem fh_iff (x : Int) : fh x ≠ bs [] ↔ vld x := by
  constructor
  · exact fh_vld x
  · intro v h
    have h2 := ic_back x v
    rw [h] at h2
    have : icand (bs []) = none := by decide +kernel
    rw [this] at h2
    cases h2
theorem nil_eq (s : ByteArray) : (s.toList != ([] : List UInt8)) = decide (s ≠ bs []) := by
  rw [ByteArray.toList_eq]
  by_cases h : s = bs []
  · rw [h, bs_toList]
    rfl
  · rw [decide_eq_true h]
    refine bne_iff_ne.2 (fun x => h ?_)
    rw [← bs_data s, x]
theorem h_tail (x : Int) (h0 : -2 ≤ x) (h1 : x ≤ 9223372036854775807) (l : List Int) (hd : Ev (fun k => spec_DrawMarked.f k l) x) : Ev (fun k => laws_FnHandles.j0 k l false) true := by
  have hf := i_FormatHandle x (by omega) h1
  have hsf := s_FormatHandle x (by omega) h1
  have hz := fh_size x
  have hp := i_ParseHandle (fh x) (by omega)
  have hm := mrk_le x h1
  have hu := unm_le x h1
  have ha : (vld x → ians (fh x) = (x, true)) ∧ (¬ vld x → ians (fh x) = (0, false)) := by
    refine ⟨fun v => ?_, fun v => ?_⟩
    · unfold ians
      rw [ic_back x v]
      exact if_pos rfl
    · have e : fh x = bs [] := Classical.byContradiction (fun h => v (fh_vld x h))
      have hi : icand (bs []) = none := by decide +kernel
      rw [e]
      unfold ians
      rw [hi]
  have hne := nil_eq (fh x)
  refine Ev.step (f := fun k => (spec_DrawMarked.f k l).bind fun t232 => ((impl_FormatHandle.f k t232).bind fun t233 => ((impl_ParseHandle.f k t233).bind fun bt234 => ((impl_Marked.f t232).bind fun t236 => ((spec_Marked.f t232).bind fun t237 => (if t236 = t237 then ((impl_Unmarked.f t232).bind fun t238 => ((spec_Unmarked.f t232).bind fun t239 => (if t238 = t239 then ((impl_IsMarked.f t232).bind fun t240 => ((spec_IsMarked.f t232).bind fun t241 => (if (t240 == t241) = true then ((spec_FormatHandle.f k t232).bind fun t242 => (if t233.toList = t242.toList then (if (bt234.2 == (t233.toList != ([] : List UInt8))) = true then (if bt234.2 = true then (if bt234.1 = t232 then ((impl_Marked.f t232).bind fun t243 => ((impl_Marked.f t243).bind fun t244 => ((impl_Marked.f t232).bind fun t245 => (if t244 = t245 then ((impl_Unmarked.f t232).bind fun t246 => ((impl_Unmarked.f t246).bind fun t247 => ((impl_Unmarked.f t232).bind fun t248 => (some (t247 == t248))))) else (some false))))) else (some false)) else ((impl_Marked.f t232).bind fun t249 => ((impl_Marked.f t249).bind fun t250 => ((impl_Marked.f t232).bind fun t251 => (if t250 = t251 then ((impl_Unmarked.f t232).bind fun t252 => ((impl_Unmarked.f t252).bind fun t253 => ((impl_Unmarked.f t232).bind fun t254 => (some (t253 == t254))))) else (some false)))))) else (some false)) else (some false))) else (some false)))) else (some false)))) else (some false))))))) (fun k => ?_) (Ev.bind hd ?_)
  · simp only [laws_FnHandles.j0]
    rw [if_neg (by decide)]
  · refine Ev.bind hf ?_
    refine Ev.bind hp ?_
    simp only [i_Marked x h1, s_Marked x h1, i_Unmarked x h1, s_Unmarked x h1, i_IsMarked x h1, s_IsMarked x h1, i_Marked (mrk x) hm, i_Unmarked (unm x) hu, mrk_mrk, unm_unm, Option.bind_some, if_true, beq_self_eq_true]
    refine Ev.bind hsf ?_
    by_cases v : vld x
    · have hb := (fh_iff x).2 v
      simp only [if_true, ha.1 v, hne, decide_eq_true hb, beq_self_eq_true]
      exact Ev.now _
    · have hb : ¬ fh x ≠ bs [] := fun h => v (fh_vld x h)
      simp only [if_true, ha.2 v, hne, decide_eq_false hb, beq_self_eq_true, Bool.false_eq_true, if_false]
      exact Ev.now _
theorem FnHandles : laws_FnHandles.Pure := by
  intro l hl _ _
  unfold laws_FnHandles.f laws_big.f
  obtain ⟨a, b, hab⟩ := drawMake l hl
  obtain ⟨x, hx, x0, x1⟩ := drawMarked l hl
  have ht := h_tail x x0 x1 l hx
  simp only [Option.bind_some, decide_eq_true_eq]
  by_cases hbig : (l.length : Int) > 1048576
  · exact ⟨0, by rw [if_pos hbig]⟩
  · simp only [if_neg hbig]
    refine (Ev.bind hab ?_).rounds
    simp only [i_MakeHandle, s_MakeHandle, Option.bind_some, if_true]
    by_cases h0 : mkH a b = 0
    · simp only [if_pos h0]
      exact ht
    · simp only [if_neg h0]
      have hr : 0 ≤ a ∧ a ≤ 62 ∧ 0 ≤ b ∧ b ≤ 9999 := Classical.byContradiction (fun h => h0 (by rw [mkH, if_neg h]))
      have hv : mkH a b = (b * 64 + a + 1) * 2 := by rw [mkH, if_pos hr]
      have hH : isH (mkH a b) := by rw [hv]; unfold isH; omega
      have hH1 : isH (mkH a b + 1) := by rw [hv]; unfold isH; omega
      have hM : ¬ isM (mkH a b) := by
        intro h
        have := (isM_odd _ hH).1 h
        omega
      have hM1 : isM (mkH a b + 1) := (isM_odd _ hH1).2 (by omega)
      have hk : mrk (mkH a b) = mkH a b + 1 := if_pos (.inr ⟨hH, by omega⟩)
      have i0 : idxOf (mkH a b) = a := by rw [idxOf, if_pos hH, hv]; omega
      have g0 : genOf (mkH a b) = b := by rw [genOf, if_pos hH, hv]; omega
      have i1 : idxOf (mkH a b + 1) = a := by rw [idxOf, if_pos hH1, hv]; omega
      have u1 : unm (mkH a b + 1) = mkH a b := by rw [unm, if_pos hM1]; omega
      have hle : mkH a b ≤ 9223372036854775807 := by omega
      have hle1 : mkH a b + 1 ≤ 9223372036854775807 := by omega
      simp only [i_IndexOf _ hle, i_GenerationOf _ hle, i_IsMarked _ hle, i_IsHandle _ hle, i_Marked _ hle, hk, i_IndexOf _ hle1, i_Unmarked _ hle1, i0, g0, i1, u1, Option.bind_some, if_true, decide_eq_false hM, decide_eq_true hH, bne_self_eq_false, Bool.false_eq_true, if_false]
      exact ht

end Go.Proofs.YtbenihcaleiacabDoor.Pure
