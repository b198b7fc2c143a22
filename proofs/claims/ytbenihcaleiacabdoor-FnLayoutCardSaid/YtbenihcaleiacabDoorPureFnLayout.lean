/- The pure side of FnLayout: the cells of a valid configuration lie one beside the other without gaps and its format reads back; an invalid one has no cells and no format; for every drawn list (the law itself answers true past its bound). No condition. -/
import Derived.Test.YtbenihcaleiacabDoorGFnLayoutx7
import Derived.OpenShut
import Derived.Laws.BitsLemmas
set_option linter.unusedVariables false
set_option linter.unusedSimpArgs false
namespace Go.Proofs.YtbenihcaleiacabDoor.Pure
open Go.RowKit Go.Proofs.YtbenihcaleiacabDoor.GFnLayout Go.Proofs.YtbenihcaleiacabDoorW.PrintWords Go.Proofs.YtbenihcaleiacabDoorW.PrintLast

theorem w64 {x : Int} (h : -9223372036854775808 ≤ x) (h' : x ≤ 9223372036854775807) : wrap64 x = x := by unfold wrap64; omega
theorem tdiv_pos {x y : Int} (h : 0 ≤ x) : Int.tdiv x y = x / y := Int.tdiv_eq_ediv_of_nonneg h
theorem tmod_pos {x y : Int} (h : 0 ≤ x) : Int.tmod x y = x % y := Int.tmod_eq_emod_of_nonneg h
theorem eq_strs {g w : Option ByteArray} {r : ByteArray} (h1 : w = some r) (h2 : g = some r) : (w.bind fun t => g.bind fun u => if u.toList = t.toList then some true else some false) = some true := by
  subst h1; subst h2; simp
theorem eq_ints {g w : Option Int} {r : Int} (h1 : w = some r) (h2 : g = some r) : (w.bind fun t => g.bind fun u => if u = t then some true else some false) = some true := by
  subst h1; subst h2; simp
theorem eq_bools {g w : Option Bool} {r : Bool} (h1 : w = some r) (h2 : g = some r) : (w.bind fun t => g.bind fun u => if (u != t) = true then some false else some true) = some true := by
  subst h1; subst h2; simp
theorem ev_strs {g w : Nat → Option ByteArray} {r : ByteArray} (h1 : Ev w r) (h2 : Ev g r) : ∃ k, ((w k).bind fun t => (g k).bind fun u => if u.toList = t.toList then some true else some false) = some true := by
  obtain ⟨K, h1⟩ := h1
  obtain ⟨L, h2⟩ := h2
  exact ⟨max K L, eq_strs (h1 _ (by omega)) (h2 _ (by omega))⟩
theorem ev2 {α β : Type} {g : Nat → Option α} {f : Nat → Option β} {a : α} {b : β} {F : α → β → Option Bool} (hg : Ev g a) (hf : Ev f b) (h : F a b = some true) : ∃ k, ((g k).bind fun t => (f k).bind fun u => F t u) = some true :=
  (Ev.bind hg (Ev.bind hf ⟨0, fun _ _ => h⟩)).rounds
theorem rd_eq (l : List Int) (i : Nat) (h : i < l.length) : rd l (i : Int) = l[i] := by
  unfold rd
  rw [show ((i : Int)).toNat = i by omega, List.getD_eq_getElem?_getD, List.getElem?_eq_getElem h]
  rfl
def bs (l : List UInt8) : ByteArray := ⟨l.toArray⟩
theorem bs_append (a b : List UInt8) : bs (a ++ b) = bs a ++ bs b := by
  apply ByteArray.ext
  rw [ByteArray.data_append]
  simp [bs]
theorem bs_nil : bs [] = ByteArray.empty := rfl
theorem bs_data (s : ByteArray) : bs s.data.toList = s := by
  apply ByteArray.ext
  simp [bs]
theorem bs_toList (l : List UInt8) : (bs l).data.toList = l := by simp [bs]
theorem bs_size (l : List UInt8) : (bs l).size = l.length := by
  show l.toArray.size = l.length
  simp
theorem bs_inj {a b : List UInt8} (h : bs a = bs b) : a = b := by rw [← bs_toList a, ← bs_toList b, h]
def dec (n : Int) : ByteArray := bs (Lib.itoa n)
def dg (m : Nat) : List UInt8 := if m = 0 then [] else Lib.decDigits m
theorem decD_step (m : Nat) : Lib.decDigits m = dg (m / 10) ++ [UInt8.ofNat (48 + m % 10)] := by
  rw [Lib.decDigits]
  unfold dg
  by_cases h : m < 10
  · rw [dif_pos h, if_pos (by omega), show m % 10 = m by omega]
    rfl
  · rw [dif_neg h, if_neg (by omega)]
theorem dg_step (m : Nat) (h : 0 < m) : dg m = dg (m / 10) ++ [UInt8.ofNat (48 + m % 10)] := by
  rw [← decD_step]
  unfold dg
  rw [if_neg (by omega)]
theorem dg_len (f : Nat) : ∀ m : Nat, m < 10 ^ f → (dg m).length ≤ f := by
  induction f with
  | zero =>
    intro m h
    have : m = 0 := by omega
    subst this
    simp [dg]
  | succ f ih =>
    intro m h
    rcases Nat.eq_zero_or_pos m with h0 | h0
    · subst h0
      simp [dg]
    · rw [dg_step m h0, List.length_append]
      have := ih (m / 10) (by rw [Nat.pow_succ] at h; omega)
      simp
      omega
theorem decD_digit (m : Nat) : ∀ c ∈ Lib.decDigits m, 48 ≤ c.toNat ∧ c.toNat ≤ 57 := by
  induction m using Nat.strongRecOn with
  | ind m ih =>
    intro c hc
    rw [decD_step] at hc
    rcases List.mem_append.1 hc with h | h
    · unfold dg at h
      by_cases h0 : m / 10 = 0
      · rw [if_pos h0] at h
        cases h
      · rw [if_neg h0] at h
        exact ih (m / 10) (by omega) c h
    · rw [List.mem_singleton] at h
      subst h
      simp only [UInt8.toNat_ofNat']
      omega
theorem decD_ne (m : Nat) : Lib.decDigits m ≠ [] := by rw [decD_step]; simp
theorem dec_neg (n : Int) (h : n < 0) : dec n = bs (45 :: Lib.decDigits n.natAbs) := by unfold dec Lib.itoa; rw [if_pos h]
theorem dec_pos (n : Int) (h : ¬ n < 0) : dec n = bs (Lib.decDigits n.toNat) := by unfold dec Lib.itoa; rw [if_neg h]
theorem dec_small (n : Int) (h : -9223372036854775808 ≤ n) (h2 : n ≤ 9223372036854775807) : (dec n).size ≤ 30 := by
  have hl : ∀ m : Nat, m ≤ 9223372036854775808 → (Lib.decDigits m).length ≤ 21 := by
    intro m hm
    rw [decD_step, List.length_append]
    have := dg_len 20 (m / 10) (by omega)
    simp
    omega
  by_cases h0 : n < 0
  · rw [dec_neg n h0, bs_size, List.length_cons]
    have := hl n.natAbs (by omega)
    omega
  · rw [dec_pos n h0, bs_size]
    have := hl n.toNat (by omega)
    omega
def pf : List UInt8 → Nat × Nat → Nat × Nat
  | [], p => p
  | c :: l, p => pf l (if 48 ≤ c.toNat ∧ c.toNat ≤ 57 then (p.1 * 10 + (c.toNat - 48), p.2 + 1) else p)
theorem pf_append (a b : List UInt8) : ∀ p, pf (a ++ b) p = pf b (pf a p) := by
  induction a with
  | nil => intro p; rfl
  | cons c a ih => intro p; rw [List.cons_append, pf, pf, ih]
theorem pf_b (l : List UInt8) : ∀ p : Nat × Nat, p.1 < 10 ^ p.2 → (pf l p).1 < 10 ^ (pf l p).2 ∧ (pf l p).2 ≤ p.2 + l.length := by
  induction l with
  | nil => intro p h; exact ⟨h, by simp [pf]⟩
  | cons c l ih =>
    intro p h
    rw [pf]
    by_cases hc : 48 ≤ c.toNat ∧ c.toNat ≤ 57
    · rw [if_pos hc]
      have := ih (p.1 * 10 + (c.toNat - 48), p.2 + 1) (by simp only [Nat.pow_succ]; omega)
      simp only at this
      rw [List.length_cons]
      exact ⟨this.1, by omega⟩
    · rw [if_neg hc]
      have := ih p h
      rw [List.length_cons]
      exact ⟨this.1, by omega⟩
theorem pf_dg (f : Nat) : ∀ m : Nat, m < 10 ^ f → ∃ k, pf (dg m) (0, 0) = (m, k) ∧ k = (dg m).length := by
  induction f with
  | zero =>
    intro m h
    have : m = 0 := by omega
    subst this
    exact ⟨0, rfl, rfl⟩
  | succ f ih =>
    intro m h
    rcases Nat.eq_zero_or_pos m with h0 | h0
    · subst h0
      exact ⟨0, rfl, rfl⟩
    · obtain ⟨k, hk, hl⟩ := ih (m / 10) (by rw [Nat.pow_succ] at h; omega)
      refine ⟨k + 1, ?_, ?_⟩
      · rw [dg_step m h0, pf_append, hk, pf, pf]
        simp only [UInt8.toNat_ofNat']
        rw [if_pos (by omega)]
        congr 1
        omega
      · rw [dg_step m h0, List.length_append, hl]
        rfl
theorem pf_decD (m : Nat) (h : m ≤ 999999999) : ∃ k, pf (Lib.decDigits m) (0, 0) = (m, k) ∧ k = (Lib.decDigits m).length ∧ k ≤ 9 := by
  rcases Nat.eq_zero_or_pos m with h0 | h0
  · subst h0
    refine ⟨1, ?_, ?_, by omega⟩ <;> rw [decD_step] <;> rfl
  · have hd : dg m = Lib.decDigits m := by unfold dg; rw [if_neg (by omega)]
    obtain ⟨k, hk, hl⟩ := pf_dg 9 m (by omega)
    have := dg_len 9 m (by omega)
    rw [hd] at hk hl this
    exact ⟨k, hk, hl, by omega⟩
def isNeg (s : ByteArray) : Prop := 0 < s.size ∧ bt s 0 = 45
instance (s : ByteArray) : Decidable (isNeg s) := by unfold isNeg; infer_instance
def parF (s : ByteArray) (q : Nat × Nat) : Int × Bool :=
  if 9 < q.2 then (0, false) else if 10 < s.size then (0, false) else if dec (if isNeg s then -(q.1 : Int) else (q.1 : Int)) = s then ((if isNeg s then -(q.1 : Int) else (q.1 : Int)), true) else (0, false)
def parI (s : ByteArray) : Int × Bool := parF s (pf (s.data.toList.take 11) (0, 0))
theorem bt_u8 (s : ByteArray) (i : Nat) (h : i < s.data.toList.length) : bt s (i : Int) = ((s.data.toList[i]).toNat : Int) := by
  unfold bt
  rw [dif_pos (show ((i : Int)).toNat < s.size by rw [show ((i : Int)).toNat = i by omega]; rw [Array.length_toList] at h; exact h)]
  congr 1
theorem parI_true {s : ByteArray} {v : Int} (h : parI s = (v, true)) : dec v = s ∧ -999999999 ≤ v ∧ v ≤ 999999999 := by
  unfold parI parF at h
  have hb := pf_b (s.data.toList.take 11) (0, 0) (by simp)
  generalize hq : pf (s.data.toList.take 11) (0, 0) = q at h hb
  by_cases h1 : 9 < q.2
  · rw [if_pos h1] at h; cases h
  · rw [if_neg h1] at h
    by_cases h2 : 10 < s.size
    · rw [if_pos h2] at h; cases h
    · rw [if_neg h2] at h
      have hp : 10 ^ q.2 ≤ 10 ^ 9 := Nat.pow_le_pow_right (by decide) (by omega)
      by_cases h3 : dec (if isNeg s then -(q.1 : Int) else (q.1 : Int)) = s
      · rw [if_pos h3] at h
        injection h with h4 _
        rw [h4] at h3
        refine ⟨h3, ?_⟩
        by_cases h5 : isNeg s
        · rw [if_pos h5] at h4; omega
        · rw [if_neg h5] at h4; omega
      · rw [if_neg h3] at h; cases h
theorem parI_or (s : ByteArray) : parI s = (0, false) ∨ ∃ v, parI s = (v, true) := by
  unfold parI parF
  generalize pf (s.data.toList.take 11) (0, 0) = q
  generalize (if isNeg s then -(q.1 : Int) else (q.1 : Int)) = v
  by_cases h1 : 9 < q.2
  · rw [if_pos h1]; exact .inl rfl
  · rw [if_neg h1]
    by_cases h2 : 10 < s.size
    · rw [if_pos h2]; exact .inl rfl
    · rw [if_neg h2]
      by_cases h3 : dec v = s
      · rw [if_pos h3]; exact .inr ⟨_, rfl⟩
      · rw [if_neg h3]; exact .inl rfl
theorem bt_bs (l : List UInt8) (c : UInt8) : bt (bs (c :: l)) 0 = (c.toNat : Int) := by
  have h := bt_u8 (bs (c :: l)) 0 (by rw [bs_toList]; simp)
  have e : ∀ (t : List UInt8) (ht : t = c :: l) (hh : 0 < t.length), t[0] = c := by
    intro t ht hh
    subst ht
    rfl
  rw [e _ (bs_toList _)] at h
  exact h
theorem dec_head (v : Int) : isNeg (dec v) ↔ v < 0 := by
  by_cases h : v < 0
  · rw [dec_neg v h]
    refine ⟨fun _ => h, fun _ => ⟨by rw [bs_size]; simp, ?_⟩⟩
    rw [bt_bs]
    rfl
  · rw [dec_pos v h]
    refine ⟨fun hn => ?_, fun hn => absurd hn h⟩
    exfalso
    obtain ⟨h0, h1⟩ := hn
    have hd := decD_digit v.toNat
    cases hl : Lib.decDigits v.toNat with
    | nil => exact decD_ne _ hl
    | cons c r =>
      rw [hl] at hd h1
      rw [bt_bs] at h1
      have := hd c (by simp)
      omega
theorem parI_dec (v : Int) (h : -999999999 ≤ v) (h2 : v ≤ 999999999) : parI (dec v) = (v, true) ∧ (dec v).size ≤ 10 := by
  obtain ⟨k, hk, hl, h9⟩ := pf_decD v.natAbs (by omega)
  have hpf : pf ((dec v).data.toList.take 11) (0, 0) = (v.natAbs, k) ∧ (dec v).size ≤ 10 := by
    by_cases hn : v < 0
    · rw [dec_neg v hn, bs_size, bs_toList, List.length_cons, List.take_of_length_le (by rw [List.length_cons]; omega), pf, if_neg (by decide)]
      exact ⟨hk, by omega⟩
    · rw [dec_pos v hn, bs_size, bs_toList, show v.toNat = v.natAbs by omega, List.take_of_length_le (by omega)]
      exact ⟨hk, by omega⟩
  refine ⟨?_, hpf.2⟩
  have hv : (if isNeg (dec v) then -(v.natAbs : Int) else (v.natAbs : Int)) = v := by
    by_cases hn : v < 0
    · rw [if_pos ((dec_head v).2 hn)]; omega
    · rw [if_neg (fun x => hn ((dec_head v).1 x))]; omega
  unfold parI parF
  rw [hpf.1]
  simp only [hv]
  rw [if_neg (by omega), if_neg (by omega), if_pos trivial]
theorem strOfNums_nil : strOfNums [] = ByteArray.empty := rfl
theorem strOfNums_append (xs ys : List Int) : strOfNums (xs ++ ys) = strOfNums xs ++ strOfNums ys := by
  apply ByteArray.ext
  rw [ByteArray.data_append]
  simp [strOfNums]
theorem app_nil (s : ByteArray) : s ++ (⟨#[]⟩ : ByteArray) = s := ByteArray.append_empty
def bl (s : ByteArray) : List Int := s.data.toList.map fun b => (b.toNat : Int)
theorem bl_length (s : ByteArray) : (bl s).length = s.size := by
  unfold bl
  rw [List.length_map, Array.length_toList]
  rfl
theorem bl_append (a b : ByteArray) : bl (a ++ b) = bl a ++ bl b := by simp [bl]
theorem bl_nil : bl ⟨#[]⟩ = [] := rfl
theorem bl_range (s : ByteArray) : ∀ x ∈ bl s, 0 ≤ x ∧ x ≤ 255 := by
  intro x hx
  obtain ⟨b, _, rfl⟩ := List.mem_map.1 hx
  have := b.toNat_lt
  omega
theorem strOfNums_bl (s : ByteArray) : strOfNums (bl s) = s := by
  apply ByteArray.ext
  unfold strOfNums bl
  rw [List.map_map]
  have e : ((fun n : Int => UInt8.ofNat n.toNat) ∘ fun b : UInt8 => (b.toNat : Int)) = id := by
    funext b
    simp
  rw [e, List.map_id]
theorem bl_inj {a b : ByteArray} (h : bl a = bl b) : a = b := by rw [← strOfNums_bl a, ← strOfNums_bl b, h]
theorem bl_strOfNums (xs : List Int) (h : ∀ x ∈ xs, 0 ≤ x ∧ x ≤ 255) : bl (strOfNums xs) = xs := by
  unfold bl strOfNums
  rw [List.map_map]
  conv => rhs; rw [← List.map_id xs]
  apply List.map_congr_left
  intro x hx
  have := h x hx
  simp only [Function.comp, id, UInt8.toNat_ofNat']
  omega
theorem bl_extract0 (s : ByteArray) (k : Nat) : bl (s.extract 0 k) = (bl s).take k := by
  simp [bl, ByteArray.data_extract, Array.toList_extract, List.extract_eq_take_drop]
theorem bl_extract (s : ByteArray) (i j : Nat) : bl (s.extract i j) = ((bl s).drop i).take (j - i) := by
  simp [bl, ByteArray.data_extract, Array.toList_extract, List.extract_eq_take_drop]
theorem bt_bl (s : ByteArray) (i : Int) : bt s i = (bl s).getD i.toNat 0 := by
  unfold bt bl
  by_cases h : i.toNat < s.size
  · rw [dif_pos h, List.getD_eq_getElem?_getD, List.getElem?_map, List.getElem?_eq_getElem (show i.toNat < s.data.toList.length by rw [Array.length_toList]; exact h)]
    rfl
  · rw [dif_neg h, List.getD_eq_getElem?_getD, List.getElem?_eq_none (by rw [List.length_map, Array.length_toList]; exact Nat.le_of_not_lt h)]
    rfl
theorem toList_iff {a b : ByteArray} : a.toList = b.toList ↔ a = b := by
  constructor
  · intro h
    rw [ByteArray.toList_eq, ByteArray.toList_eq] at h
    apply ByteArray.ext
    exact Array.toList_inj.1 h
  · intro h
    rw [h]
def cutL (c : Int) : List ByteArray → ByteArray → List UInt8 → List ByteArray
  | out, part, [] => out ++ [part]
  | out, part, b :: r => if (b.toNat : Int) = c then cutL c (out ++ [part]) (bs []) r else cutL c out (part ++ bs [b]) r
theorem ext1 (s : ByteArray) (i : Nat) (h : i < s.data.toList.length) : s.extract i (i + 1) = bs [s.data.toList[i]] := by
  apply bl_inj
  rw [bl_extract]
  unfold bl
  rw [← List.map_drop, ← List.map_take, bs_toList, show i + 1 - i = 1 by omega, List.drop_eq_getElem_cons h, List.take_succ_cons, List.take_zero]
theorem cutL_size (c : Int) (l : List UInt8) : ∀ (out : List ByteArray) (part : ByteArray), ∀ p ∈ cutL c out part l, p ∈ out ∨ p.size ≤ part.size + l.length := by
  induction l with
  | nil =>
    intro out part p hp
    rw [cutL] at hp
    rcases List.mem_append.1 hp with h | h
    · exact .inl h
    · rw [List.mem_singleton] at h
      subst h
      exact .inr (by simp)
  | cons b r ih =>
    intro out part p hp
    rw [cutL] at hp
    rw [List.length_cons]
    by_cases hc : (b.toNat : Int) = c
    · rw [if_pos hc] at hp
      rcases ih _ _ p hp with h | h
      · rcases List.mem_append.1 h with h | h
        · exact .inl h
        · rw [List.mem_singleton] at h
          subst h
          exact .inr (by omega)
      · rw [bs_size] at h
        exact .inr (by simp at h; omega)
    · rw [if_neg hc] at hp
      rcases ih _ _ p hp with h | h
      · exact .inl h
      · rw [ByteArray.size_append, bs_size] at h
        exact .inr (by simp at h; omega)
theorem cutL_small (s : ByteArray) (hs : s.size ≤ 4194304) (c : Int) : ∀ p ∈ cutL c [] (bs []) s.data.toList, p.size ≤ 4194304 := by
  intro p hp
  have hsz : s.data.toList.length = s.size := by rw [Array.length_toList]; rfl
  rcases cutL_size c _ _ _ p hp with h | h
  · cases h
  · rw [bs_size] at h
    simp at h
    have : s.data.size = s.size := rfl
    omega
theorem cutL_nd (c : Int) (D r : List UInt8) : (∀ b ∈ D, (b.toNat : Int) ≠ c) → ∀ out part, cutL c out part (D ++ r) = cutL c out (part ++ bs D) r := by
  induction D with
  | nil =>
    intro _ out part
    rw [List.nil_append, bs_nil, ByteArray.append_empty]
  | cons b D ih =>
    intro h out part
    rw [List.cons_append, cutL, if_neg (h b (by simp)), ih (fun x hx => h x (by simp [hx])), ByteArray.append_assoc, ← bs_append]
    rfl
theorem cutL_two (D E : List UInt8) (hD : ∀ b ∈ D, (b.toNat : Int) ≠ 46) (hE : ∀ b ∈ E, (b.toNat : Int) ≠ 46) : cutL 46 [] (bs []) (D ++ 46 :: E) = [bs D, bs E] := by
  rw [cutL_nd 46 D _ hD, cutL, if_pos (by decide)]
  have := cutL_nd 46 E [] hE ([] ++ [bs [] ++ bs D]) (bs [])
  rw [List.append_nil] at this
  rw [this, cutL, bs_nil, ByteArray.empty_append, ByteArray.empty_append]
  rfl
theorem cutL_out (c : Int) (l : List UInt8) : ∀ out part, cutL c out part l = out ++ cutL c [] part l := by
  induction l with
  | nil => intro out part; rw [cutL, cutL]; rfl
  | cons b r ih =>
    intro out part
    rw [cutL, cutL]
    by_cases hc : (b.toNat : Int) = c
    · rw [if_pos hc, if_pos hc, ih (out ++ [part]), ih ([] ++ [part]), List.nil_append, List.append_assoc]
    · rw [if_neg hc, if_neg hc]
      exact ih out _
theorem cutL_step (u : UInt8) (c : Int) (hu : (u.toNat : Int) = c) (D r : List UInt8) (hD : ∀ b ∈ D, (b.toNat : Int) ≠ c) : cutL c [] (bs []) (D ++ u :: r) = bs D :: cutL c [] (bs []) r := by
  rw [cutL_nd c D _ hD, cutL, if_pos hu, cutL_out, bs_nil, ByteArray.empty_append]
  rfl
theorem cutL_end (c : Int) (D : List UInt8) (hD : ∀ b ∈ D, (b.toNat : Int) ≠ c) : cutL c [] (bs []) D = [bs D] := by
  have := cutL_nd c D [] hD [] (bs [])
  rw [List.append_nil] at this
  rw [this, cutL, bs_nil, ByteArray.empty_append]
  rfl
theorem cutL_pos (c : Int) (l : List UInt8) : ∀ out part, 0 < (cutL c out part l).length := by
  induction l with
  | nil => intro out part; rw [cutL]; simp
  | cons b r ih => intro out part; rw [cutL]; split <;> exact ih _ _
theorem split_at (u : UInt8) (l : List UInt8) : (∀ b ∈ l, b ≠ u) ∨ ∃ D E, l = D ++ u :: E ∧ ∀ b ∈ D, b ≠ u := by
  induction l with
  | nil => exact .inl (fun _ h => by cases h)
  | cons b r ih =>
    by_cases hb : b = u
    · exact .inr ⟨[], r, by rw [hb]; rfl, fun _ h => by cases h⟩
    · rcases ih with h | ⟨D, E, h1, h2⟩
      · left
        intro x hx
        rcases List.mem_cons.1 hx with rfl | hx
        · exact hb
        · exact h x hx
      · right
        refine ⟨b :: D, E, by rw [h1]; rfl, fun x hx => ?_⟩
        rcases List.mem_cons.1 hx with rfl | hx
        · exact hb
        · exact h2 x hx
theorem index_none1 (u : UInt8) (l : List UInt8) (h : ∀ b ∈ l, b ≠ u) : Lib.index l [u] = -1 := by
  induction l with
  | nil => rfl
  | cons b r ih =>
    have hb : b ≠ u := h b (by simp)
    rw [Lib.index, if_neg (by simp; exact fun x => hb x.symm), ih (fun x hx => h x (by simp [hx])), if_pos (by simp)]
theorem index_at1 (u : UInt8) (D E : List UInt8) (h : ∀ b ∈ D, b ≠ u) : Lib.index (D ++ u :: E) [u] = (D.length : Int) := by
  induction D with
  | nil => rw [List.nil_append, Lib.index, if_pos (by simp)]; rfl
  | cons b D ih =>
    have hb : b ≠ u := h b (by simp)
    rw [List.cons_append, Lib.index, if_neg (by simp; exact fun x => hb x.symm), ih (fun x hx => h x (by simp [hx])), if_neg (by simp <;> omega)]
    simp
theorem ext_of (s : ByteArray) (D r : List UInt8) (h : s.data.toList = D ++ r) : s.extract 0 (D.length + 0) = bs D := by
  apply bl_inj
  rw [Nat.add_zero, bl_extract0]
  unfold bl
  rw [h, ← List.map_take, bs_toList]
  simp
theorem ext_rest (s : ByteArray) (D r : List UInt8) (u : UInt8) (h : s.data.toList = D ++ u :: r) : s.extract (D.length + (bs [u]).size) s.size = bs r := by
  have hsz : s.data.toList.length = s.size := by rw [Array.length_toList]; rfl
  apply bl_inj
  rw [bl_extract, bs_size]
  unfold bl
  rw [← List.map_drop, ← List.map_take, bs_toList, ← hsz, h]
  congr 1
  rw [show D ++ u :: r = (D ++ [u]) ++ r by simp, show D.length + [u].length = (D ++ [u]).length by simp, List.drop_left]
  apply List.take_of_length_le
  simp
  omega
theorem split_cut (u : UInt8) (c : Int) (hu : (u.toNat : Int) = c) (n : Nat) : ∀ s : ByteArray, s.size ≤ n → Lib.splitB (bs [u]) 0 (Lib.countB s (bs [u])) s = cutL c [] (bs []) s.data.toList := by
  have cv : ∀ D : List UInt8, (∀ b ∈ D, b ≠ u) → ∀ b ∈ D, (b.toNat : Int) ≠ c := by
    intro D h b hb x
    apply h b hb
    rw [← hu] at x
    exact UInt8.toNat_inj.1 (by omega)
  induction n with
  | zero =>
    intro s hs
    have hsz : s.data.toList.length = s.size := by rw [Array.length_toList]; rfl
    have hnil : s.data.toList = [] := List.length_eq_zero_iff.1 (by omega)
    have hi : Lib.indexB s (bs [u]) = -1 := by
      show Lib.index s.data.toList (bs [u]).data.toList = -1
      rw [bs_toList, hnil]
      exact index_none1 u [] (fun _ h => by cases h)
    rw [Lib.splitB_miss _ _ _ _ hi, cutL_end c _ (by rw [hnil]; intro _ h; cases h), bs_data]
  | succ n ih =>
    intro s hs
    have hsz : s.data.toList.length = s.size := by rw [Array.length_toList]; rfl
    rcases split_at u s.data.toList with h | ⟨D, E, h1, h2⟩
    · have hi : Lib.indexB s (bs [u]) = -1 := by
        show Lib.index s.data.toList (bs [u]).data.toList = -1
        rw [bs_toList]
        exact index_none1 u _ h
      rw [Lib.splitB_miss _ _ _ _ hi, cutL_end c _ (cv _ h), bs_data]
    · have hi : Lib.indexB s (bs [u]) = (D.length : Int) := by
        show Lib.index s.data.toList (bs [u]).data.toList = _
        rw [bs_toList, h1]
        exact index_at1 u D E h2
      have hr := ext_rest s D E u h1
      have hl : D.length + (E.length + 1) = s.size := by rw [← hsz, h1]; simp
      rw [Lib.countB_hit s (bs [u]) D.length (by rw [bs_size]; simp) hi, Nat.add_comm 1, Lib.splitB_hit _ _ _ _ _ hi, hr, ext_of s D _ h1, ih (bs E) (by rw [bs_size]; omega), bs_toList, h1, cutL_step u c hu D E (cv D h2)]
theorem i_Split (s : ByteArray) (hs : s.size ≤ 4194304) (u : UInt8) (c : Int) (hu : (u.toNat : Int) = c) : strings_Split.f s (bs [u]) = some (cutL c [] (bs []) s.data.toList) := by
  have h1 : 1 ≤ (bs [u]).size := by rw [bs_size]; simp
  have h2 := Lib.countB_le (bs [u]) h1 s.size s (Nat.le_refl _)
  unfold strings_Split.f
  rw [if_pos ⟨by omega, h1, Lib.splitB_all (bs [u]) h1 0 _ s rfl, by omega⟩, split_cut u c hu s.size s (Nat.le_refl _)]
theorem l1In_ (x a b : Int) : spec_l1In.f x a b = some (decide (a ≤ x ∧ x ≤ b)) := by
  unfold spec_l1In.f
  by_cases h : a ≤ x <;> simp [h]
theorem in_ (x a b : Int) : impl_in.f x a b = some (decide (a ≤ x ∧ x ≤ b)) := by
  unfold impl_in.f
  by_cases h : a ≤ x <;> simp [h]
theorem tmod_n (m : Nat) : Int.tmod (-(m : Int)) 10 = -((m % 10 : Nat) : Int) := by
  rw [Int.neg_tmod, tmod_pos (by omega)]
  omega
theorem tdiv_n (m : Nat) : Int.tdiv (-(m : Int)) 10 = -((m / 10 : Nat) : Int) := by
  rw [Int.neg_tdiv, tdiv_pos (by omega)]
  omega
theorem s_FormatInt_z (neg : Bool) (out : ByteArray) (ho : out.size ≤ 200) : Ev (fun k => spec_FormatInt.l0 k 0 out neg) ((if neg = true then bs [45] else bs []) ++ (bs (dg 0) ++ out)) := by
  have e : bs (dg 0) ++ out = out := by
    show bs [] ++ out = out
    rw [bs_nil, ByteArray.empty_append]
  rw [e]
  refine Ev.step (f := fun _ => some _) (fun k => ?_) (Ev.now _)
  simp only [spec_FormatInt.l0, if_true]
  cases neg with
  | true =>
    rw [if_pos rfl, if_pos rfl, if_pos (by omega)]
    rfl
  | false =>
    rw [if_neg (by decide), if_neg (by decide), bs_nil, ByteArray.empty_append]
theorem s_FormatInt_l (neg : Bool) (f : Nat) : ∀ (m : Nat) (x : Int) (out : ByteArray), (x = (m : Int) ∨ x = -(m : Int)) → m < 10 ^ f → m ≤ 9223372036854775808 → out.size + f ≤ 100 →
    Ev (fun k => spec_FormatInt.l0 k x out neg) ((if neg = true then bs [45] else bs []) ++ (bs (dg m) ++ out)) := by
  induction f with
  | zero =>
    intro m x out hx hm hm2 ho
    have h0 : m = 0 := by omega
    subst h0
    have hx0 : x = 0 := by omega
    subst hx0
    exact s_FormatInt_z neg out (by omega)
  | succ f ih =>
    intro m x out hx hm hm2 ho
    rcases Nat.eq_zero_or_pos m with h0 | h0
    · subst h0
      have hx0 : x = 0 := by omega
      subst hx0
      exact s_FormatInt_z neg out (by omega)
    · rw [dg_step m h0, bs_append, ByteArray.append_assoc]
      have hsz : (bs [UInt8.ofNat (48 + m % 10)] ++ out).size = 1 + out.size := by rw [ByteArray.size_append, bs_size]; rfl
      have hn : strOfNums [((48 + (m % 10 : Nat) : Nat) : Int)] = bs [UInt8.ofNat (48 + m % 10)] := by
        unfold strOfNums bs
        rfl
      have goal : ∀ x', (x' = ((m / 10 : Nat) : Int) ∨ x' = -((m / 10 : Nat) : Int)) → Ev (fun k => spec_FormatInt.l0 k x' (bs [UInt8.ofNat (48 + m % 10)] ++ out) neg) ((if neg = true then bs [45] else bs []) ++ (bs (dg (m / 10)) ++ (bs [UInt8.ofNat (48 + m % 10)] ++ out))) :=
        fun x' hx' => ih (m / 10) x' _ hx' (by rw [Nat.pow_succ] at hm; omega) (by omega) (by rw [hsz]; omega)
      rcases hx with hx | hx
      · subst hx
        refine Ev.step (fun k => ?_) (goal ((m / 10 : Nat) : Int) (.inl rfl))
        simp only [spec_FormatInt.l0, Option.bind_some]
        rw [if_neg (by omega), tmod_pos (show (0 : Int) ≤ (m : Int) by omega), tdiv_pos (show (0 : Int) ≤ (m : Int) by omega), if_neg (by omega), w64 (x := 48 + (m : Int) % 10) (by omega) (by omega), w64 (x := (m : Int) / 10) (by omega) (by omega),
          show (48 + (m : Int) % 10) % 256 = ((48 + (m % 10 : Nat) : Nat) : Int) by omega, hn, if_pos (by rw [bs_size]; simp; omega)]
        rfl
      · subst hx
        refine Ev.step (fun k => ?_) (goal (-((m / 10 : Nat) : Int)) (.inr rfl))
        simp only [spec_FormatInt.l0, Option.bind_some]
        rw [if_neg (by omega), tmod_n, tdiv_n]
        by_cases hz : m % 10 = 0
        · rw [if_neg (by omega), w64 (x := 48 + -((m % 10 : Nat) : Int)) (by omega) (by omega), w64 (x := -((m / 10 : Nat) : Int)) (by omega) (by omega),
            show (48 + -((m % 10 : Nat) : Int)) % 256 = ((48 + (m % 10 : Nat) : Nat) : Int) by omega, hn, if_pos (by rw [bs_size]; simp; omega)]
        · rw [if_pos (by omega), w64 (x := -(-((m % 10 : Nat) : Int))) (by omega) (by omega), w64 (x := 48 + -(-((m % 10 : Nat) : Int))) (by omega) (by omega), w64 (x := -((m / 10 : Nat) : Int)) (by omega) (by omega),
            show (48 + -(-((m % 10 : Nat) : Int))) % 256 = ((48 + (m % 10 : Nat) : Nat) : Int) by omega, hn, if_pos (by rw [bs_size]; simp; omega)]
theorem s_FormatInt (n : Int) (h : -9223372036854775808 ≤ n) (h2 : n ≤ 9223372036854775807) : Ev (fun k => spec_FormatInt.f k n) (dec n) := by
  unfold spec_FormatInt.f
  by_cases h0 : n = 0
  · simp only [if_pos h0]
    subst h0
    have e : dec 0 = (⟨#[48]⟩ : ByteArray) := by
      rw [dec_pos 0 (by omega), show (0 : Int).toNat = 0 by rfl, decD_step]
      rfl
    rw [e]
    exact Ev.now _
  · simp only [if_neg h0]
    have key := s_FormatInt_l (decide (n < 0)) 20 n.natAbs n ⟨#[]⟩ (by omega) (by omega) (by omega) (by simp [ByteArray.size])
    have e : (if decide (n < 0) = true then bs [45] else bs []) ++ (bs (dg n.natAbs) ++ (⟨#[]⟩ : ByteArray)) = dec n := by
      rw [show (⟨#[]⟩ : ByteArray) = bs [] from rfl, ← bs_append, List.append_nil]
      have hd : dg n.natAbs = Lib.decDigits n.natAbs := by unfold dg; rw [if_neg (by omega)]
      by_cases hn : n < 0
      · rw [if_pos (by simpa using hn), dec_neg n hn, ← bs_append, hd]
        rfl
      · rw [if_neg (by simpa using hn), dec_pos n hn, ← bs_append, hd, show n.natAbs = n.toNat by omega]
        rfl
    rw [e] at key
    exact key
theorem lsz (l : List UInt8) : (ByteArray.mk l.toArray).size = l.length := by simp [ByteArray.size]
theorem lsz0 : (⟨#[]⟩ : ByteArray).size = 0 := rfl
theorem eapp (s : ByteArray) : (⟨#[]⟩ : ByteArray) ++ s = s := ByteArray.empty_append
theorem appe (s : ByteArray) : s ++ (⟨#[]⟩ : ByteArray) = s := ByteArray.append_empty
theorem dec30 {n : Int} (h : -9223372036854775808 ≤ n) (h2 : n ≤ 9223372036854775807) : (dec n).size ≤ 30 := dec_small n h h2
theorem Ev_if {α : Type} {c : Prop} [Decidable c] {f g : Nat → Option α} {r : α} (hc : c) (h : Ev f r) : Ev (fun n => if c then f n else g n) r := by
  simp only [if_pos hc]
  exact h
theorem ifle {α : Type} {n : Nat} {x y : α} (h : n ≤ 9223372036854775807) : (if n ≤ 9223372036854775807 then x else y) = x := if_pos h
theorem pols (a : Int) : ∃ r, spec_PolicyName.f a = some r ∧ impl_PolicyName.f a = some r ∧ r.size ≤ 20 := by
  have e : impl_PolicyName.f a = spec_PolicyName.f a := by
    unfold impl_PolicyName.f spec_PolicyName.f spec_l3Policies.f
    rw [in_, l1In_]
  rw [e]
  unfold spec_PolicyName.f spec_l3Policies.f
  rw [l1In_]
  simp only [Option.bind_some, decide_eq_true_eq]
  by_cases h : 0 ≤ a ∧ a ≤ 2
  · rw [if_pos h]
    have h' : a = 0 ∨ a = 1 ∨ a = 2 := by omega
    rcases h' with rfl | rfl | rfl <;> exact ⟨_, rfl, rfl, by decide⟩
  · rw [if_neg h]
    exact ⟨_, rfl, rfl, by decide⟩
def isC (a b c d e f : Int) : Prop := (1 ≤ a ∧ a ≤ 4) ∧ (1 ≤ b ∧ b ≤ 4) ∧ (1 ≤ c ∧ c ≤ 24) ∧ (1 ≤ d ∧ d ≤ 4) ∧ (0 ≤ e ∧ e ≤ 2) ∧ (1 ≤ f ∧ f ≤ 99)
instance (a b c d e f : Int) : Decidable (isC a b c d e f) := by unfold isC; infer_instance
theorem s_IsConfig (a b c d e f : Int) : spec_IsConfig.f a b c d e f = some (decide (isC a b c d e f)) := by
  unfold spec_IsConfig.f isC
  simp only [l1In_, Option.bind_some, decide_eq_true_eq]
  repeat' split
  all_goals simp [*]
theorem i_IsConfig (a b c d e f : Int) : impl_IsConfig.f a b c d e f = some (decide (isC a b c d e f)) := by
  unfold impl_IsConfig.f isC
  simp only [in_, Option.bind_some, decide_eq_true_eq]
  repeat' split
  all_goals simp [*]
theorem i_FormatInt (n : Int) (h : -9223372036854775808 ≤ n) (h2 : n ≤ 9223372036854775807) : impl_FormatInt.f n = some (dec n) := by
  unfold impl_FormatInt.f strconv_Itoa.f
  rw [if_pos ⟨h, h2⟩]
  rfl
theorem join_cons2 (x y : List UInt8) (xs : List (List UInt8)) (sep : List UInt8) : Lib.join (x :: y :: xs) sep = x ++ sep ++ Lib.join (y :: xs) sep := by
  unfold Lib.join
  first | rfl | simp [List.intercalate, List.intersperse]
theorem join_one (x : List UInt8) (sep : List UInt8) : Lib.join [x] sep = x := by
  unfold Lib.join
  first | rfl | simp [List.intercalate, List.intersperse]
def fcfg (p : ByteArray) (a b c d f : Int) : ByteArray := (p ++ (⟨#[32, 116, 104, 114, 101, 97, 100, 115, 32]⟩ : ByteArray) ++ dec a ++ (⟨#[32, 107, 101, 121, 115, 32]⟩ : ByteArray) ++ dec b ++ (⟨#[32, 99, 97, 112, 97, 99, 105, 116, 121, 32]⟩ : ByteArray) ++ dec c ++ (⟨#[32, 98, 97, 116, 99, 104, 32]⟩ : ByteArray) ++ dec d ++ (⟨#[32, 99, 108, 111, 99, 107, 32]⟩ : ByteArray) ++ dec f)
theorem s_FormatConfig (a b c d e f : Int) (p : ByteArray) (hp : spec_PolicyName.f e = some p) (hs : p.size ≤ 20) : Ev (fun k => spec_FormatConfig.f k a b c d e f) (if isC a b c d e f then fcfg p a b c d f else ⟨#[]⟩) := by
  unfold spec_FormatConfig.f
  simp only [s_IsConfig, Option.bind_some, decide_eq_true_eq, hp]
  have l0 : (⟨#[32, 116, 104, 114, 101, 97, 100, 115, 32]⟩ : ByteArray).size = 9 := rfl
  have l1 : (⟨#[32, 107, 101, 121, 115, 32]⟩ : ByteArray).size = 6 := rfl
  have l2 : (⟨#[32, 99, 97, 112, 97, 99, 105, 116, 121, 32]⟩ : ByteArray).size = 10 := rfl
  have l3 : (⟨#[32, 98, 97, 116, 99, 104, 32]⟩ : ByteArray).size = 7 := rfl
  have l4 : (⟨#[32, 99, 108, 111, 99, 107, 32]⟩ : ByteArray).size = 7 := rfl
  by_cases h : isC a b c d e f
  · have h' := h
    unfold isC at h'
    have da := dec30 (n := a) (by omega) (by omega)
    have db := dec30 (n := b) (by omega) (by omega)
    have dc := dec30 (n := c) (by omega) (by omega)
    have dd := dec30 (n := d) (by omega) (by omega)
    have df := dec30 (n := f) (by omega) (by omega)
    simp only [if_pos h]
    refine Ev_if (by omega) ?_
    refine Ev.bind (s_FormatInt a (by omega) (by omega)) ?_
    refine Ev_if (by simp only [ByteArray.size_append, l0, l1, l2, l3, l4]; omega) ?_
    refine Ev_if (by simp only [ByteArray.size_append, l0, l1, l2, l3, l4]; omega) ?_
    refine Ev.bind (s_FormatInt b (by omega) (by omega)) ?_
    refine Ev_if (by simp only [ByteArray.size_append, l0, l1, l2, l3, l4]; omega) ?_
    refine Ev_if (by simp only [ByteArray.size_append, l0, l1, l2, l3, l4]; omega) ?_
    refine Ev.bind (s_FormatInt c (by omega) (by omega)) ?_
    refine Ev_if (by simp only [ByteArray.size_append, l0, l1, l2, l3, l4]; omega) ?_
    refine Ev_if (by simp only [ByteArray.size_append, l0, l1, l2, l3, l4]; omega) ?_
    refine Ev.bind (s_FormatInt d (by omega) (by omega)) ?_
    refine Ev_if (by simp only [ByteArray.size_append, l0, l1, l2, l3, l4]; omega) ?_
    refine Ev_if (by simp only [ByteArray.size_append, l0, l1, l2, l3, l4]; omega) ?_
    refine Ev.bind (s_FormatInt f (by omega) (by omega)) ?_
    refine Ev_if (by simp only [ByteArray.size_append, l0, l1, l2, l3, l4]; omega) ?_
    exact Ev.now _
  · simp only [if_neg h]
    exact Ev.now _
theorem i_FormatConfig (a b c d e f : Int) (p : ByteArray) (hp : impl_PolicyName.f e = some p) (hs : p.size ≤ 20) : impl_FormatConfig.f a b c d e f = some (if isC a b c d e f then fcfg p a b c d f else ⟨#[]⟩) := by
  unfold impl_FormatConfig.f
  simp only [i_IsConfig, Option.bind_some, decide_eq_true_eq, hp]
  have l0 : (⟨#[32, 116, 104, 114, 101, 97, 100, 115, 32]⟩ : ByteArray).size = 9 := rfl
  have l1 : (⟨#[32, 107, 101, 121, 115, 32]⟩ : ByteArray).size = 6 := rfl
  have l2 : (⟨#[32, 99, 97, 112, 97, 99, 105, 116, 121, 32]⟩ : ByteArray).size = 10 := rfl
  have l3 : (⟨#[32, 98, 97, 116, 99, 104, 32]⟩ : ByteArray).size = 7 := rfl
  have l4 : (⟨#[32, 99, 108, 111, 99, 107, 32]⟩ : ByteArray).size = 7 := rfl
  by_cases h : isC a b c d e f
  · have h' := h
    unfold isC at h'
    have da := dec30 (n := a) (by omega) (by omega)
    have db := dec30 (n := b) (by omega) (by omega)
    have dc := dec30 (n := c) (by omega) (by omega)
    have dd := dec30 (n := d) (by omega) (by omega)
    have df := dec30 (n := f) (by omega) (by omega)
    rw [if_pos h, if_pos h]
    simp only [i_FormatInt a (by omega) (by omega), i_FormatInt b (by omega) (by omega), i_FormatInt c (by omega) (by omega), i_FormatInt d (by omega) (by omega), i_FormatInt f (by omega) (by omega), Option.bind_some]
    have key : ∀ t : List UInt8, t = (fcfg p a b c d f).data.toList → (⟨t.toArray⟩ : ByteArray) = fcfg p a b c d f := fun t ht => by subst ht; exact bs_data _
    have hsz : (fcfg p a b c d f).data.toList.length ≤ 1000 := by
      rw [Array.length_toList]
      show (fcfg p a b c d f).size ≤ 1000
      unfold fcfg
      simp only [ByteArray.size_append, l0, l1, l2, l3, l4]
      omega
    have hj : Lib.join (([p, (⟨#[116, 104, 114, 101, 97, 100, 115]⟩ : ByteArray), dec a, (⟨#[107, 101, 121, 115]⟩ : ByteArray), dec b, (⟨#[99, 97, 112, 97, 99, 105, 116, 121]⟩ : ByteArray), dec c, (⟨#[98, 97, 116, 99, 104]⟩ : ByteArray), dec d, (⟨#[99, 108, 111, 99, 107]⟩ : ByteArray), dec f] : List ByteArray).map (·.data.toList)) (⟨#[32]⟩ : ByteArray).data.toList = (fcfg p a b c d f).data.toList := by
      unfold fcfg
      simp only [List.map_cons, List.map_nil, join_cons2, join_one, ByteArray.data_append, Array.toList_append, List.append_assoc]
      rfl
    unfold strings_Join.f
    rw [hj, if_pos ⟨by simp, by omega⟩]
    exact congrArg some (key _ rfl)
  · rw [if_neg h, if_neg h]
theorem pu_append (a b : List UInt8) : ∀ (acc u : Nat), Lib.parseUint10 acc a = .ok u → Lib.parseUint10 acc (a ++ b) = Lib.parseUint10 u b := by
  induction a with
  | nil =>
    intro acc u h
    simp only [Lib.parseUint10] at h
    injection h with h
    rw [List.nil_append, h]
  | cons c a ih =>
    intro acc u h
    rw [List.cons_append]
    simp only [Lib.parseUint10] at h ⊢
    split at h
    · rename_i h1
      rw [if_pos h1]
      split at h
      · cases h
      · rename_i h2
        rw [if_neg h2]
        split at h
        · cases h
        · rename_i h3
          rw [if_neg h3]
          exact ih _ _ h
    · cases h
theorem pu_dg (f : Nat) (hf : f ≤ 10) : ∀ m : Nat, m < 10 ^ f → Lib.parseUint10 0 (dg m) = .ok m := by
  induction f with
  | zero =>
    intro m h
    have : m = 0 := by omega
    subst this
    rfl
  | succ f ih =>
    intro m h
    have hp : 10 ^ (f + 1) ≤ 10 ^ 10 := Nat.pow_le_pow_right (by decide) hf
    rcases Nat.eq_zero_or_pos m with h0 | h0
    · subst h0
      rfl
    · rw [dg_step m h0, pu_append _ _ _ _ (ih (by omega) (m / 10) (by rw [Nat.pow_succ] at h; omega))]
      simp only [Lib.parseUint10, UInt8.toNat_ofNat']
      rw [if_pos (by omega), if_neg (by omega), if_neg (by omega)]
      congr 1
      omega
theorem mag_decD (m : Nat) (h : m ≤ 999999999) : Lib.parseMag (Lib.decDigits m) = .ok m := by
  unfold Lib.parseMag
  rw [if_neg (decD_ne m)]
  rcases Nat.eq_zero_or_pos m with h0 | h0
  · subst h0
    rw [decD_step]
    rfl
  · have hd : dg m = Lib.decDigits m := by unfold dg; rw [if_neg (by omega)]
    rw [← hd]
    exact pu_dg 9 (by omega) m (by omega)
theorem atoi_dec (v : Int) (h : -999999999 ≤ v) (h2 : v ≤ 999999999) : Lib.atoiAll (Lib.itoa v) = .ok v := by
  unfold Lib.itoa
  by_cases hn : v < 0
  · rw [if_pos hn]
    unfold Lib.atoiAll
    simp only
    rw [if_pos (.inr (by decide)), mag_decD _ (by omega)]
    simp only
    rw [if_neg (fun x => x.1 (by decide)), if_neg (by omega), if_pos (by decide)]
    congr 1
    omega
  · rw [if_neg hn]
    obtain ⟨c, r, hcr⟩ : ∃ c r, Lib.decDigits v.toNat = c :: r := by
      cases hd : Lib.decDigits v.toNat with
      | nil => exact absurd hd (decD_ne _)
      | cons c r => exact ⟨c, r, rfl⟩
    have hc := decD_digit v.toNat c (by rw [hcr]; simp)
    have hm := mag_decD v.toNat (by omega)
    rw [hcr] at hm ⊢
    unfold Lib.atoiAll
    simp only
    rw [if_neg (by omega), hm]
    simp only
    rw [if_neg (by omega), if_neg (by omega), if_neg (by omega)]
    congr 1
    omega
theorem atoi_b {l : List UInt8} {v : Int} (h : Lib.atoiAll l = .ok v) : -9223372036854775808 ≤ v ∧ v ≤ 9223372036854775807 := by
  unfold Lib.atoiAll at h
  cases l with
  | nil => cases h
  | cons c r =>
    simp only at h
    split at h
    · cases h
    · cases h
    · rename_i u hu
      split at h
      · cases h
      · split at h
        · cases h
        · injection h with h
          split at h <;> omega
theorem i_ParseInt (s : ByteArray) (hs : s.size ≤ 4194304) : impl_ParseInt.f s = some (parI s) := by
  have back : ∀ v, parI s = (v, true) → Lib.atoiAll s.data.toList = .ok v := by
    intro v hv
    obtain ⟨hd, h1, h2⟩ := parI_true hv
    rw [← hd]
    unfold dec
    rw [bs_toList]
    exact atoi_dec v h1 h2
  have none_ : (∀ v, parI s ≠ (v, true)) → parI s = (0, false) := by
    intro h
    rcases parI_or s with h0 | ⟨v, hv⟩
    · exact h0
    · exact absurd hv (h v)
  unfold impl_ParseInt.f
  rw [if_pos (by omega)]
  cases hA : Lib.atoiAll s.data.toList with
  | ok v =>
    have hb := atoi_b hA
    simp only
    unfold impl_ParseInt.of
    rw [i_FormatInt v hb.1 hb.2]
    simp only [Option.bind_some]
    by_cases hd : dec v = s
    · rw [if_pos (toList_iff.2 hd)]
      by_cases h1 : v > 999999999
      · rw [if_pos h1, none_ (fun v' hv' => by
          have := back v' hv'
          rw [hA] at this
          injection this with this
          have := (parI_true hv').2
          omega)]
      · rw [if_neg h1]
        by_cases h2 : v < -999999999
        · rw [if_pos h2, none_ (fun v' hv' => by
            have := back v' hv'
            rw [hA] at this
            injection this with this
            have := (parI_true hv').2
            omega)]
        · rw [if_neg h2, ← hd, (parI_dec v (by omega) (by omega)).1]
    · rw [if_neg (fun x => hd (toList_iff.1 x)), none_ (fun v' hv' => by
        have := back v' hv'
        rw [hA] at this
        injection this with this
        rw [← this] at hv'
        exact hd (parI_true hv').1)]
  | _ =>
    simp only
    rw [none_ (fun v' hv' => by
      have := back v' hv'
      rw [hA] at this
      cases this)]
theorem rdB_mem (L : List ByteArray) (i : Nat) (h : i < L.length) : rdOf ByteArray.empty L (i : Int) ∈ L := by
  unfold rdOf
  rw [show ((i : Int)).toNat = i by omega, List.getD_eq_getElem?_getD, List.getElem?_eq_getElem h]
  exact List.getElem_mem h
def l2n (p : ByteArray) : Int := if (parI p).2 = true then (parI p).1 else -1000
def pW : List ByteArray := [(⟨#[114, 97, 110, 103, 101]⟩ : ByteArray), (⟨#[101, 112, 111, 99, 104]⟩ : ByteArray), (⟨#[115, 116, 101, 97, 109]⟩ : ByteArray)]
def polN (e : Int) : ByteArray := if 0 ≤ e ∧ e ≤ 2 then rdOf ByteArray.empty pW e else ⟨#[]⟩
theorem polN_ (e : Int) : spec_PolicyName.f e = some (polN e) ∧ impl_PolicyName.f e = some (polN e) ∧ (polN e).size ≤ 20 := by
  obtain ⟨r, h1, h2, h3⟩ := pols e
  have h4 : spec_PolicyName.f e = some (polN e) := by
    unfold spec_PolicyName.f spec_l3Policies.f polN
    rw [l1In_]
    simp only [Option.bind_some, decide_eq_true_eq]
    by_cases h : 0 ≤ e ∧ e ≤ 2
    · rw [if_pos h, if_pos h, if_pos h.1, if_pos (show e < _ by simp; omega)]
      rfl
    · rw [if_neg h, if_neg h]
  have : r = polN e := Option.some.inj (h1.symm.trans h4)
  subst this
  exact ⟨h1, h2, h3⟩
def fc6 (a b c d e f : Int) : ByteArray := if isC a b c d e f then fcfg (polN e) a b c d f else ⟨#[]⟩
def ansC (s : ByteArray) (a b c d e f : Int) : Int × Int × Int × Int × Int × Int × Bool := if fc6 a b c d e f = s then (a, b, c, d, e, f, true) else (0, 0, 0, 0, 0, 0, false)
def kpF (p : ByteArray) : Nat → Nat → Int → Int
  | 0, _, cur => cur
  | d + 1, i, cur => kpF p d (i + 1) (if rdOf ByteArray.empty pW (i : Int) = p then (i : Int) else cur)
theorem s_cfin (s : ByteArray) (a b c d e f : Int) : Ev (fun k => (spec_FormatConfig.f k a b c d e f).bind fun t => if t.toList = s.toList then some (a, b, c, d, e, f, true) else some (0, 0, 0, 0, 0, 0, false)) (ansC s a b c d e f) := by
  refine Ev.bind (s_FormatConfig a b c d e f (polN e) (polN_ e).1 (polN_ e).2.2) ⟨0, fun _ _ => ?_⟩
  unfold ansC fc6
  generalize (if isC a b c d e f then fcfg (polN e) a b c d f else ⟨#[]⟩) = t
  by_cases h : t = s
  · rw [if_pos (toList_iff.2 h), if_pos h]
  · rw [if_neg (fun x => h (toList_iff.1 x)), if_neg h]
def lop (s : ByteArray) : List ByteArray := cutL 32 [] (bs []) s.data.toList
def sC (s : ByteArray) : Int × Int × Int × Int × Int × Int × Bool := if (lop s).length = 11 then ansC s (l2n (rdOf ByteArray.empty (lop s) 2)) (l2n (rdOf ByteArray.empty (lop s) 4)) (l2n (rdOf ByteArray.empty (lop s) 6)) (l2n (rdOf ByteArray.empty (lop s) 8)) (kpF (rdOf ByteArray.empty (lop s) 0) 3 0 (-1)) (l2n (rdOf ByteArray.empty (lop s) 10)) else (0, 0, 0, 0, 0, 0, false)
def ipol (p : ByteArray) : Int := if polN 0 = p then 0 else if polN 1 = p then 1 else 2
theorem i_pol (p : ByteArray) : impl_ParseConfig.pol 3 0 p = some (ipol p) := by
  unfold ipol
  simp only [impl_ParseConfig.pol, (polN_ _).2.1, Option.bind_some, toList_iff]
  rw [if_pos (by decide)]
  by_cases h0 : polN 0 = p
  · rw [if_pos h0, if_pos h0]
  · rw [if_neg h0, if_neg h0, if_pos (by decide)]
    by_cases h1 : polN 1 = p
    · rw [if_pos (show polN (0 + 1) = p from h1), if_pos h1]; rfl
    · rw [if_neg (show ¬ polN (0 + 1) = p from h1), if_neg h1, if_neg (by decide)]; rfl
def iC (s : ByteArray) : Int × Int × Int × Int × Int × Int × Bool := if (lop s).length = 11 then ansC s (parI (rdOf ByteArray.empty (lop s) 2)).1 (parI (rdOf ByteArray.empty (lop s) 4)).1 (parI (rdOf ByteArray.empty (lop s) 6)).1 (parI (rdOf ByteArray.empty (lop s) 8)).1 (ipol (rdOf ByteArray.empty (lop s) 0)) (parI (rdOf ByteArray.empty (lop s) 10)).1 else (0, 0, 0, 0, 0, 0, false)
theorem i_ParseConfig (s : ByteArray) (hs : s.size ≤ 4194304) : impl_ParseConfig.f s = some (iC s) := by
  unfold impl_ParseConfig.f iC
  have hsp : strings_Split.f s (⟨#[32]⟩ : ByteArray) = some (lop s) := i_Split s hs 32 32 (by decide)
  simp only [hsp, Option.bind_some]
  by_cases h : (lop s).length = 11
  · have hL := cutL_small s hs 32
    have hp : ∀ j : Nat, j < 11 → impl_ParseInt.f (rdOf ByteArray.empty (lop s) (j : Int)) = some (parI (rdOf ByteArray.empty (lop s) (j : Int))) := fun j hj => i_ParseInt _ (hL _ (rdB_mem (lop s) j (by omega)))
    rw [if_pos h, if_pos h]
    have h2 : impl_ParseInt.f (rdOf ByteArray.empty (lop s) 2) = some (parI (rdOf ByteArray.empty (lop s) 2)) := hp 2 (by omega)
    have h4 : impl_ParseInt.f (rdOf ByteArray.empty (lop s) 4) = some (parI (rdOf ByteArray.empty (lop s) 4)) := hp 4 (by omega)
    have h6 : impl_ParseInt.f (rdOf ByteArray.empty (lop s) 6) = some (parI (rdOf ByteArray.empty (lop s) 6)) := hp 6 (by omega)
    have h8 : impl_ParseInt.f (rdOf ByteArray.empty (lop s) 8) = some (parI (rdOf ByteArray.empty (lop s) 8)) := hp 8 (by omega)
    have h10 : impl_ParseInt.f (rdOf ByteArray.empty (lop s) 10) = some (parI (rdOf ByteArray.empty (lop s) 10)) := hp 10 (by omega)
    simp only [h2, h4, h6, h8, h10, i_pol, Option.bind_some]
    generalize (parI (rdOf ByteArray.empty (lop s) 2)).1 = a
    generalize (parI (rdOf ByteArray.empty (lop s) 4)).1 = b
    generalize (parI (rdOf ByteArray.empty (lop s) 6)).1 = c
    generalize (parI (rdOf ByteArray.empty (lop s) 8)).1 = d
    generalize ipol (rdOf ByteArray.empty (lop s) 0) = e
    generalize (parI (rdOf ByteArray.empty (lop s) 10)).1 = f
    rw [i_FormatConfig a b c d e f (polN e) (polN_ e).2.1 (polN_ e).2.2, Option.bind_some]
    unfold ansC fc6
    generalize (if isC a b c d e f then fcfg (polN e) a b c d f else ⟨#[]⟩) = t
    by_cases h : t = s
    · rw [if_pos (toList_iff.2 h), if_pos h]
    · rw [if_neg (fun x => h (toList_iff.1 x)), if_neg h]
  · rw [if_neg h, if_neg h]
theorem nd32 (m : Nat) : ∀ b ∈ Lib.decDigits m, (b.toNat : Int) ≠ 32 := by
  intro b hb
  have := decD_digit m b hb
  omega
theorem l2n_dec (v : Int) (h : -999999999 ≤ v) (h2 : v ≤ 999999999) : l2n (dec v) = v ∧ (parI (dec v)).1 = v := by
  have := (parI_dec v h h2).1
  unfold l2n
  rw [this]
  exact ⟨rfl, rfl⟩
theorem polN_nd (e : Int) (h : 0 ≤ e ∧ e ≤ 2) : (∀ b ∈ (polN e).data.toList, (b.toNat : Int) ≠ 32) ∧ kpF (polN e) 3 0 (-1) = e ∧ ipol (polN e) = e := by
  rcases (show e = 0 ∨ e = 1 ∨ e = 2 by omega) with rfl | rfl | rfl <;> exact ⟨by decide +kernel, by decide +kernel, by decide +kernel⟩
theorem cfg_cut (a b c d e f : Int) (h : isC a b c d e f) : lop (fc6 a b c d e f) = [polN e, (⟨#[116, 104, 114, 101, 97, 100, 115]⟩ : ByteArray), dec a, (⟨#[107, 101, 121, 115]⟩ : ByteArray), dec b, (⟨#[99, 97, 112, 97, 99, 105, 116, 121]⟩ : ByteArray), dec c, (⟨#[98, 97, 116, 99, 104]⟩ : ByteArray), dec d, (⟨#[99, 108, 111, 99, 107]⟩ : ByteArray), dec f] := by
  have h' := h
  unfold isC at h'
  have hp := (polN_nd e (by omega)).1
  have hl : (fc6 a b c d e f).data.toList = (polN e).data.toList ++ 32 :: (([116, 104, 114, 101, 97, 100, 115] : List UInt8) ++ 32 :: (Lib.decDigits a.toNat ++ 32 :: (([107, 101, 121, 115] : List UInt8) ++ 32 :: (Lib.decDigits b.toNat ++ 32 :: (([99, 97, 112, 97, 99, 105, 116, 121] : List UInt8) ++ 32 :: (Lib.decDigits c.toNat ++ 32 :: (([98, 97, 116, 99, 104] : List UInt8) ++ 32 :: (Lib.decDigits d.toNat ++ 32 :: (([99, 108, 111, 99, 107] : List UInt8) ++ 32 :: Lib.decDigits f.toNat))))))))) := by
    unfold fc6
    rw [if_pos h]
    unfold fcfg
    rw [dec_pos a (by omega), dec_pos b (by omega), dec_pos c (by omega), dec_pos d (by omega), dec_pos f (by omega)]
    simp only [ByteArray.data_append, Array.toList_append, bs_toList, List.append_assoc]
    rfl
  unfold lop
  rw [hl, cutL_step 32 32 (by decide) _ _ hp, cutL_step 32 32 (by decide) _ _ (by decide), cutL_step 32 32 (by decide) _ _ (nd32 _), cutL_step 32 32 (by decide) _ _ (by decide), cutL_step 32 32 (by decide) _ _ (nd32 _), cutL_step 32 32 (by decide) _ _ (by decide), cutL_step 32 32 (by decide) _ _ (nd32 _), cutL_step 32 32 (by decide) _ _ (by decide), cutL_step 32 32 (by decide) _ _ (nd32 _), cutL_step 32 32 (by decide) _ _ (by decide), cutL_end 32 _ (nd32 _), bs_data,
    dec_pos a (by omega), dec_pos b (by omega), dec_pos c (by omega), dec_pos d (by omega), dec_pos f (by omega)]
  rfl
theorem cfg_C (s : ByteArray) (h0 : (lop s).length = 11) (a b c d e f : Int) (h : fc6 a b c d e f = s) : isC a b c d e f := by
  by_cases x : isC a b c d e f
  · exact x
  · exfalso
    unfold fc6 at h
    rw [if_neg x] at h
    rw [← h] at h0
    exact absurd h0 (by decide +kernel)
theorem cfg_back (s : ByteArray) (h0 : (lop s).length = 11) (a b c d e f : Int) (h : fc6 a b c d e f = s) :
    (l2n (rdOf ByteArray.empty (lop s) 2) = a ∧ (parI (rdOf ByteArray.empty (lop s) 2)).1 = a) ∧ (l2n (rdOf ByteArray.empty (lop s) 4) = b ∧ (parI (rdOf ByteArray.empty (lop s) 4)).1 = b) ∧ (l2n (rdOf ByteArray.empty (lop s) 6) = c ∧ (parI (rdOf ByteArray.empty (lop s) 6)).1 = c) ∧ (l2n (rdOf ByteArray.empty (lop s) 8) = d ∧ (parI (rdOf ByteArray.empty (lop s) 8)).1 = d) ∧ (kpF (rdOf ByteArray.empty (lop s) 0) 3 0 (-1) = e ∧ ipol (rdOf ByteArray.empty (lop s) 0) = e) ∧ (l2n (rdOf ByteArray.empty (lop s) 10) = f ∧ (parI (rdOf ByteArray.empty (lop s) 10)).1 = f) := by
  have hC := cfg_C s h0 a b c d e f h
  have hcut := cfg_cut a b c d e f hC
  rw [h] at hcut
  have h' := hC
  unfold isC at h'
  rw [hcut]
  exact ⟨l2n_dec a (by omega) (by omega), l2n_dec b (by omega) (by omega), l2n_dec c (by omega) (by omega), l2n_dec d (by omega) (by omega), (polN_nd e (by omega)).2, l2n_dec f (by omega) (by omega)⟩
theorem cfg_same (s : ByteArray) : iC s = sC s := by
  unfold iC sC
  by_cases h0 : (lop s).length = 11
  · rw [if_pos h0, if_pos h0]
    have go := cfg_back s h0
    generalize l2n (rdOf ByteArray.empty (lop s) 2) = a1 at go ⊢
    generalize l2n (rdOf ByteArray.empty (lop s) 4) = b1 at go ⊢
    generalize l2n (rdOf ByteArray.empty (lop s) 6) = c1 at go ⊢
    generalize l2n (rdOf ByteArray.empty (lop s) 8) = d1 at go ⊢
    generalize kpF (rdOf ByteArray.empty (lop s) 0) 3 0 (-1) = e1 at go ⊢
    generalize l2n (rdOf ByteArray.empty (lop s) 10) = f1 at go ⊢
    generalize (parI (rdOf ByteArray.empty (lop s) 2)).1 = a2 at go ⊢
    generalize (parI (rdOf ByteArray.empty (lop s) 4)).1 = b2 at go ⊢
    generalize (parI (rdOf ByteArray.empty (lop s) 6)).1 = c2 at go ⊢
    generalize (parI (rdOf ByteArray.empty (lop s) 8)).1 = d2 at go ⊢
    generalize ipol (rdOf ByteArray.empty (lop s) 0) = e2 at go ⊢
    generalize (parI (rdOf ByteArray.empty (lop s) 10)).1 = f2 at go ⊢
    by_cases h1 : fc6 a1 b1 c1 d1 e1 f1 = s
    · obtain ⟨⟨_, q1⟩, ⟨_, q2⟩, ⟨_, q3⟩, ⟨_, q4⟩, ⟨_, q5⟩, ⟨_, q6⟩⟩ := go _ _ _ _ _ _ h1
      rw [q1, q2, q3, q4, q5, q6]
    · by_cases h2 : fc6 a2 b2 c2 d2 e2 f2 = s
      · obtain ⟨⟨q1, _⟩, ⟨q2, _⟩, ⟨q3, _⟩, ⟨q4, _⟩, ⟨q5, _⟩, ⟨q6, _⟩⟩ := go _ _ _ _ _ _ h2
        rw [q1, q2, q3, q4, q5, q6]
      · unfold ansC
        rw [if_neg h1, if_neg h2]
  · rw [if_neg h0, if_neg h0]
theorem and_255 (y : Int) : 0 ≤ Go.bits .and .i64 y 255 ∧ Go.bits .and .i64 y 255 ≤ 255 := by
  have e : Go.bits .and .i64 y 255 = IntKind.i64.wrap (((BitVec.ofInt 64 y).toNat &&& 255 : Nat) : Int) := by
    show IntKind.i64.wrap _ = _
    congr 1
  have h : (BitVec.ofInt 64 y).toNat &&& 255 ≤ 255 := Nat.and_le_right
  rw [e, IntKind.wrap_i64]
  omega
theorem l1New_l (l : List Int) (hl : l.length ≤ maxLen) (d : Nat) : ∀ (i : Nat) (h : Int), i + d = 4000 → ∃ h', Ev (fun k => spec_l1New.l0 k l h i) (l, 0, h') := by
  induction d with
  | zero =>
    intro i h hi
    refine ⟨h, Ev.step (f := fun _ => some _) (fun k => ?_) (Ev.now _)⟩
    simp only [spec_l1New.l0]
    rw [if_neg (show ¬ (i : Int) < 4000 by omega)]
    first | done | (split <;> rfl)
  | succ d ih =>
    intro i h hi
    by_cases h1 : (i : Int) < l.length
    · obtain ⟨h', hh⟩ := ih (i + 1) (Go.bits .and .i64 (wrap64 ((wrap64 ((wrap64 (h * 131)) + (wrap64 (rd l i)))) + 7)) 1073741823) (by omega)
      refine ⟨h', Ev.step (fun k => ?_) hh⟩
      simp only [spec_l1New.l0]
      rw [if_pos h1, if_pos (by omega), if_pos (by omega), w64 (x := (i : Int) + 1) (by omega) (by omega)]
      rfl
    · refine ⟨h, Ev.step (f := fun _ => some _) (fun k => ?_) (Ev.now _)⟩
      simp only [spec_l1New.l0]
      rw [if_neg h1]
theorem l1New (l : List Int) (hl : l.length ≤ maxLen) : ∃ h, Ev (fun k => spec_l1New.f k l) (l, 0, h) := l1New_l l hl 4000 0 _ rfl
theorem l1Byte (b : List Int) (i h : Int) (hb : b.length ≤ maxLen) (hi : 0 ≤ i) : ∃ x i' h', spec_l1Byte.f b i h = some (x, i', h') ∧ 0 ≤ x ∧ x ≤ 255 ∧ 0 ≤ i' := by
  unfold maxLen at hb
  unfold spec_l1Byte.f
  by_cases h1 : i < b.length
  · rw [if_pos h1, if_pos hi]
    refine ⟨_, _, _, rfl, (and_255 _).1, (and_255 _).2, ?_⟩
    rw [w64 (by omega) (by omega)]
    omega
  · rw [if_neg h1]
    exact ⟨_, _, _, rfl, (and_255 _).1, (and_255 _).2, hi⟩
theorem l1Below (b : List Int) (i h n : Int) (hb : b.length ≤ maxLen) (hi : 0 ≤ i) (hn : n ≤ 4294967296) : ∃ x i' h', spec_l1Below.f b i h n = some (x, i', h') ∧ 0 ≤ x ∧ (0 < n → x < n) ∧ (n ≤ 0 → x = 0) ∧ x ≤ 4294967296 ∧ 0 ≤ i' := by
  unfold spec_l1Below.f
  by_cases h1 : n ≤ 0
  · rw [if_pos h1]
    exact ⟨_, _, _, rfl, by omega, by omega, fun _ => rfl, by omega, hi⟩
  · rw [if_neg h1]
    by_cases h2 : n ≤ 256
    · rw [if_pos h2]
      obtain ⟨x, i', h', e, x0, x1, hi'⟩ := l1Byte b i h hb hi
      rw [e]
      simp only [Option.bind_some]
      rw [if_neg (by omega), tmod_pos x0]
      exact ⟨_, _, _, rfl, Int.emod_nonneg _ (by omega), fun _ => Int.emod_lt_of_pos _ (by omega), by omega, by have := Int.emod_lt_of_pos x (show 0 < n by omega); omega, hi'⟩
    · rw [if_neg h2]
      obtain ⟨x, i1, h1', e1, x0, x1, hi1⟩ := l1Byte b i h hb hi
      obtain ⟨y, i2, h2', e2, y0, y1, hi2⟩ := l1Byte b i1 h1' hb hi1
      obtain ⟨z, i3, h3', e3, z0, z1, hi3⟩ := l1Byte b i2 h2' hb hi2
      obtain ⟨u, i4, h4', e4, u0, u1, hi4⟩ := l1Byte b i3 h3' hb hi3
      rw [e1]
      simp only [Option.bind_some]
      rw [e2]
      simp only [Option.bind_some]
      rw [e3]
      simp only [Option.bind_some]
      rw [e4]
      simp only [Option.bind_some]
      rw [if_neg (by omega), w64 (x := x * 16777216) (by omega) (by omega), w64 (x := y * 65536) (by omega) (by omega), w64 (x := z * 256) (by omega) (by omega), w64 (x := x * 16777216 + y * 65536) (by omega) (by omega), w64 (x := x * 16777216 + y * 65536 + z * 256) (by omega) (by omega), w64 (x := x * 16777216 + y * 65536 + z * 256 + u) (by omega) (by omega), tmod_pos (by omega)]
      exact ⟨_, _, _, rfl, Int.emod_nonneg _ (by omega), fun _ => Int.emod_lt_of_pos _ (by omega), by omega, by have := Int.emod_lt_of_pos (x * 16777216 + y * 65536 + z * 256 + u) (show 0 < n by omega); omega, hi4⟩
theorem l1PickInt (b : List Int) (i h : Int) (l : List Int) (hb : b.length ≤ maxLen) (hi : 0 ≤ i) (h0 : 0 < l.length) (h1 : l.length ≤ 256) : ∃ x i' h', spec_l1PickInt.f b i h l = some (x, i', h') ∧ x ∈ l ∧ 0 ≤ i' := by
  obtain ⟨x, i', h', e, x0, x1, _, _, hi'⟩ := l1Below b i h (l.length : Int) hb hi (by omega)
  have hx := x1 (by omega)
  unfold spec_l1PickInt.f
  rw [e]
  simp only [Option.bind_some]
  rw [if_pos x0, if_pos hx]
  refine ⟨_, _, _, rfl, ?_, hi'⟩
  unfold rd
  rw [List.getD_eq_getElem?_getD, List.getElem?_eq_getElem (show x.toNat < l.length by omega)]
  exact List.getElem_mem _
theorem l3Config (b : List Int) (i h : Int) (hb : b.length ≤ maxLen) (hi : 0 ≤ i) : ∃ x1 x2 x3 x4 x5 x6 i' h', spec_l3Config.f b i h = some (x1, x2, x3, x4, x5, x6, i', h') ∧ 0 ≤ i' := by
  unfold spec_l3Config.f
  obtain ⟨y1, i1, h1, e1, _, _, _, _, hi1⟩ := l1Below b i h 3 hb hi (by omega)
  rw [e1]
  simp only [Option.bind_some]
  obtain ⟨y2, i2, h2, e2, _, _, _, _, hi2⟩ := l1Below b i1 h1 2 hb hi1 (by omega)
  rw [e2]
  simp only [Option.bind_some]
  obtain ⟨y3, i3, h3, e3, _, hi3⟩ := l1PickInt b i2 h2 [3, 6, 8, 12] hb hi2 (by simp) (by simp)
  rw [e3]
  simp only [Option.bind_some]
  obtain ⟨y4, i4, h4, e4, _, _, _, _, hi4⟩ := l1Below b i3 h3 3 hb hi3 (by omega)
  rw [e4]
  simp only [Option.bind_some]
  obtain ⟨y5, i5, h5, e5, _, _, _, _, hi5⟩ := l1Below b i4 h4 3 hb hi4 (by omega)
  rw [e5]
  simp only [Option.bind_some]
  obtain ⟨y6, i6, h6, e6, _, hi6⟩ := l1PickInt b i5 h5 [99, 99, 99, 4] hb hi5 (by simp) (by simp)
  rw [e6]
  simp only [Option.bind_some]
  exact ⟨_, _, _, _, _, _, _, _, rfl, hi6⟩
theorem l3Any (b : List Int) (i h : Int) (hb : b.length ≤ maxLen) (hi : 0 ≤ i) : ∃ x1 x2 x3 x4 x5 x6 i' h', spec_l3Any.f b i h = some (x1, x2, x3, x4, x5, x6, i', h') := by
  unfold spec_l3Any.f
  obtain ⟨x1, x2, x3, x4, x5, x6, i1, h1, e1, hi1⟩ := l3Config b i h hb hi
  rw [e1]
  simp only [Option.bind_some]
  obtain ⟨c, i2, h2, e2, _, _, _, _, hi2⟩ := l1Below b i1 h1 14 hb hi1 (by omega)
  rw [e2]
  simp only [Option.bind_some]
  by_cases c0 : c = 0
  · rw [if_pos c0]
    obtain ⟨y, i3, h3, e3, _⟩ := l1PickInt b i2 h2 [0, 4, 5] hb hi2 (by simp) (by simp)
    rw [e3]
    exact ⟨_, _, _, _, _, _, _, _, rfl⟩
  · rw [if_neg c0]
    by_cases c1 : c = 1
    · rw [if_pos c1]
      obtain ⟨y, i3, h3, e3, _⟩ := l1PickInt b i2 h2 [0, 4, 5] hb hi2 (by simp) (by simp)
      rw [e3]
      exact ⟨_, _, _, _, _, _, _, _, rfl⟩
    · rw [if_neg c1]
      by_cases c2 : c = 2
      · rw [if_pos c2]
        obtain ⟨y, i3, h3, e3, _⟩ := l1PickInt b i2 h2 [0, 1, 24, 25] hb hi2 (by simp) (by simp)
        rw [e3]
        exact ⟨_, _, _, _, _, _, _, _, rfl⟩
      · rw [if_neg c2]
        by_cases c3 : c = 3
        · rw [if_pos c3]
          obtain ⟨y, i3, h3, e3, _⟩ := l1PickInt b i2 h2 [0, 4, 5] hb hi2 (by simp) (by simp)
          rw [e3]
          exact ⟨_, _, _, _, _, _, _, _, rfl⟩
        · rw [if_neg c3]
          by_cases c4 : c = 4
          · rw [if_pos c4]
            obtain ⟨y, i3, h3, e3, _⟩ := l1PickInt b i2 h2 [(-1), 3] hb hi2 (by simp) (by simp)
            rw [e3]
            exact ⟨_, _, _, _, _, _, _, _, rfl⟩
          · rw [if_neg c4]
            by_cases c5 : c = 5
            · rw [if_pos c5]
              obtain ⟨y, i3, h3, e3, _⟩ := l1PickInt b i2 h2 [0, 1, 100] hb hi2 (by simp) (by simp)
              rw [e3]
              exact ⟨_, _, _, _, _, _, _, _, rfl⟩
            · rw [if_neg c5]
              exact ⟨_, _, _, _, _, _, _, _, rfl⟩
theorem drawCellCount (c : List Int) (hc : c.length ≤ maxLen) : ∃ x1 x2 x3 x4 x5 x6, Ev (fun k => spec_DrawCellCount.f k c) (x1, x2, x3, x4, x5, x6) := by
  obtain ⟨h, hn⟩ := l1New c hc
  obtain ⟨x1, x2, x3, x4, x5, x6, i1, h1, e1⟩ := l3Any c 0 h hc (by omega)
  refine ⟨x1, x2, x3, x4, x5, x6, ?_⟩
  unfold spec_DrawCellCount.f
  refine Ev.bind hn ?_
  simp only [e1, Option.bind_some]
  exact Ev.now _
def cntC (a b c d e f : Int) : Int := if isC a b c d e f then 2 + 3 * a + b + 3 * c else 0
theorem s_CellCount (a b c d e f : Int) : spec_CellCount.f a b c d e f = some (cntC a b c d e f) := by
  unfold spec_CellCount.f cntC
  simp only [s_IsConfig, l1In_, Option.bind_some, decide_eq_true_eq]
  by_cases h : isC a b c d e f
  · have h' := h
    unfold isC at h'
    rw [if_pos h, if_pos h]
    congr 1
    unfold wrap64
    omega
  · rw [if_neg h, if_neg h]
theorem i_CellCount (a b c d e f : Int) : impl_CellCount.f a b c d e f = some (cntC a b c d e f) := by
  unfold impl_CellCount.f cntC
  simp only [i_IsConfig, in_, Option.bind_some, decide_eq_true_eq]
  by_cases h : isC a b c d e f
  · have h' := h
    unfold isC at h'
    rw [if_pos h, if_pos h]
    congr 1
    unfold wrap64
    omega
  · rw [if_neg h, if_neg h]
def newC (a b c d e f : Int) : List Int := if isC a b c d e f then (List.replicate (cntC a b c d e f).toNat 0).set 0 1 else []
theorem cntC_b (a b c d e f : Int) (h : isC a b c d e f) : 2 ≤ cntC a b c d e f ∧ cntC a b c d e f ≤ 90 := by
  unfold cntC
  rw [if_pos h]
  unfold isC at h
  omega
theorem newC_len (a b c d e f : Int) : (newC a b c d e f).length = (cntC a b c d e f).toNat := by
  unfold newC
  by_cases h : isC a b c d e f
  · rw [if_pos h]; simp
  · rw [if_neg h]
    unfold cntC
    rw [if_neg h]
    rfl
theorem newC_small (a b c d e f : Int) : (newC a b c d e f).length ≤ 90 := by
  rw [newC_len]
  by_cases h : isC a b c d e f
  · have := cntC_b a b c d e f h
    omega
  · unfold cntC
    rw [if_neg h]
    simp
theorem s_NewCells (a b c d e f : Int) : spec_NewCells.f a b c d e f = some (newC a b c d e f) := by
  unfold spec_NewCells.f newC
  simp only [s_IsConfig, s_CellCount, Option.bind_some, decide_eq_true_eq, spec_ClockCell.f]
  by_cases h : isC a b c d e f
  · have hb := cntC_b a b c d e f h
    rw [if_pos h, if_pos h, if_pos (by omega), if_pos (by omega), if_pos (by omega), if_pos (by simp; omega)]
    rfl
  · rw [if_neg h, if_neg h]
theorem i_NewCells (a b c d e f : Int) : impl_NewCells.f a b c d e f = some (newC a b c d e f) := by
  unfold impl_NewCells.f newC
  simp only [i_IsConfig, i_CellCount, Option.bind_some, decide_eq_true_eq, impl_ClockCell.f]
  by_cases h : isC a b c d e f
  · have hb := cntC_b a b c d e f h
    rw [if_pos h, if_pos h, if_pos (by omega), if_pos (by omega), if_pos (by omega), if_pos (by simp; omega)]
    rfl
  · rw [if_neg h, if_neg h]
def annC (a b c d e f t : Int) : Int := if isC a b c d e f ∧ (0 ≤ t ∧ t ≤ a - 1) then 2 + t else -1
theorem i_AnnounceCell (a b c d e f t : Int) : impl_AnnounceCell.f a b c d e f t = some (annC a b c d e f t) := by
  unfold impl_AnnounceCell.f annC
  simp only [i_IsConfig, in_, Option.bind_some, decide_eq_true_eq]
  by_cases h : isC a b c d e f
  · have h' := h
    unfold isC at h'
    rw [if_pos h, w64 (x := a - 1) (by omega) (by omega)]
    by_cases h2 : 0 ≤ t ∧ t ≤ a - 1
    · rw [if_pos h2, if_pos ⟨h, h2⟩]
      congr 1
      unfold wrap64
      omega
    · rw [if_neg h2, if_neg (fun x => h2 x.2)]
  · rw [if_neg h, if_neg (fun x => h x.1)]
def hazC (a b c d e f t u : Int) : Int := if isC a b c d e f ∧ (0 ≤ t ∧ t ≤ a - 1) ∧ (0 ≤ u ∧ u ≤ 1) then 2 + a + 2 * t + u else -1
theorem i_HazardCell (a b c d e f t u : Int) : impl_HazardCell.f a b c d e f t u = some (hazC a b c d e f t u) := by
  unfold impl_HazardCell.f hazC
  simp only [i_IsConfig, in_, Option.bind_some, decide_eq_true_eq]
  by_cases h : isC a b c d e f
  · have h' := h
    unfold isC at h'
    rw [if_pos h, w64 (x := a - 1) (by omega) (by omega)]
    by_cases h2 : 0 ≤ t ∧ t ≤ a - 1
    · by_cases h3 : 0 ≤ u ∧ u ≤ 1
      · rw [if_pos h2, if_pos h3, if_pos ⟨h, h2, h3⟩]
        congr 1
        unfold wrap64
        omega
      · rw [if_pos h2, if_neg h3, if_neg (fun x => h3 x.2.2)]
    · rw [if_neg h2, if_neg (fun x => h2 x.2.1)]
  · rw [if_neg h, if_neg (fun x => h x.1)]
def headC (a b c d e f t : Int) : Int := if isC a b c d e f ∧ (0 ≤ t ∧ t ≤ b - 1) then 2 + 3 * a + t else -1
theorem i_HeadCell (a b c d e f t : Int) : impl_HeadCell.f a b c d e f t = some (headC a b c d e f t) := by
  unfold impl_HeadCell.f headC
  simp only [i_IsConfig, in_, Option.bind_some, decide_eq_true_eq]
  by_cases h : isC a b c d e f
  · have h' := h
    unfold isC at h'
    rw [if_pos h, w64 (x := b - 1) (by omega) (by omega)]
    by_cases h2 : 0 ≤ t ∧ t ≤ b - 1
    · rw [if_pos h2, if_pos ⟨h, h2⟩]
      congr 1
      unfold wrap64
      omega
    · rw [if_neg h2, if_neg (fun x => h2 x.2)]
  · rw [if_neg h, if_neg (fun x => h x.1)]
def nodeC (a b c d e f t u : Int) : Int := if isC a b c d e f ∧ (0 ≤ t ∧ t ≤ c - 1) ∧ (0 ≤ u ∧ u ≤ 2) then 2 + 3 * a + b + 3 * t + u else -1
theorem i_NodeCell (a b c d e f t u : Int) : impl_NodeCell.f a b c d e f t u = some (nodeC a b c d e f t u) := by
  unfold impl_NodeCell.f nodeC
  simp only [i_IsConfig, in_, Option.bind_some, decide_eq_true_eq]
  by_cases h : isC a b c d e f
  · have h' := h
    unfold isC at h'
    rw [if_pos h, w64 (x := c - 1) (by omega) (by omega)]
    by_cases h2 : 0 ≤ t ∧ t ≤ c - 1
    · by_cases h3 : 0 ≤ u ∧ u ≤ 2
      · rw [if_pos h2, if_pos h3, if_pos ⟨h, h2, h3⟩]
        congr 1
        unfold wrap64
        omega
      · rw [if_pos h2, if_neg h3, if_neg (fun x => h3 x.2.2)]
    · rw [if_neg h2, if_neg (fun x => h2 x.2.1)]
  · rw [if_neg h, if_neg (fun x => h x.1)]
theorem sameInts_l (l : List Int) (hl : l.length ≤ 1048576) (d : Nat) : ∀ i : Nat, i + d = l.length → Ev (fun k => laws_sameInts.l0 k l l i) true := by
  induction d with
  | zero =>
    intro i hi
    refine Ev.step (f := fun _ => some true) (fun k => ?_) (Ev.now _)
    simp only [laws_sameInts.l0]
    rw [if_neg (by omega)]
  | succ d ih =>
    intro i hi
    refine Ev.step (fun k => ?_) (ih (i + 1) (by omega))
    simp only [laws_sameInts.l0, if_true]
    rw [if_pos (by omega), if_pos (by omega), w64 (by omega) (by omega), if_pos (by omega)]
    rfl
theorem sameInts_refl (l : List Int) (hl : l.length ≤ 1048576) : Ev (fun k => laws_sameInts.f k l l) true := by
  unfold laws_sameInts.f
  simp only [if_true]
  exact sameInts_l l hl l.length 0 (by omega)

theorem has_l (l : List Int) (hl : l.length ≤ 1048576) (x : Int) (d : Nat) : ∀ i : Nat, i + d = l.length → x ∈ l.drop i → Ev (fun k => laws_has.l0 k l x (i : Int)) true := by
  induction d with
  | zero =>
    intro i hi h
    rw [List.drop_eq_nil_of_le (by omega)] at h
    cases h
  | succ d ih =>
    intro i hi h
    have hr := rd_eq l i (by omega)
    by_cases e : l[i] = x
    · refine Ev.step (f := fun _ => some true) (fun k => ?_) (Ev.now _)
      simp only [laws_has.l0]
      rw [if_pos (by omega), if_pos (by omega), hr, if_pos e]
    · rw [List.drop_eq_getElem_cons (by omega)] at h
      rcases List.mem_cons.1 h with h1 | h1
      · exact absurd h1.symm e
      · refine Ev.step (fun k => ?_) (ih (i + 1) (by omega) h1)
        simp only [laws_has.l0]
        rw [if_pos (by omega), if_pos (by omega), hr, if_neg e, w64 (by omega) (by omega)]
        rfl
theorem has_ (l : List Int) (hl : l.length ≤ 1048576) (x : Int) (h : x ∈ l) : Ev (fun k => laws_has.f k l x) true := has_l l hl x l.length 0 (by omega) (by simpa using h)
section
variable (a b c d e f : Int)
theorem ly_l3 (h : isC a b c d e f) (l : List Int) (hl : (l.length : Int) = cntC a b c d e f) (hm : ∀ j : Int, 0 ≤ j → j < cntC a b c d e f → j ∈ l) (q : Nat) : ∀ i : Nat, (i : Int) + q = cntC a b c d e f →
    Ev (fun k => laws_FnLayout.l3 k (cntC a b c d e f) true l (i : Int) a b c d e f) true := by
  have hb := cntC_b a b c d e f h
  have hnl := newC_len a b c d e f
  induction q with
  | zero =>
    intro i hi
    refine Ev.step (f := fun k => (laws_sameInts.f k (newC a b c d e f) (newC a b c d e f)).bind fun t => some t) (fun k => ?_) (Ev.bind (sameInts_refl _ (by have := newC_small a b c d e f; omega)) (Ev.now _))
    simp only [laws_FnLayout.l3, i_NewCells, s_NewCells, Option.bind_some, if_true]
    rw [if_neg (by omega), if_pos hl, if_pos (by omega)]
  | succ q ih =>
    intro i hi
    refine Ev.step (f := fun k => (laws_has.f k l (i : Int)).bind fun t => if t = true then laws_FnLayout.l3 k (cntC a b c d e f) true l ((i + 1 : Nat) : Int) a b c d e f else none) (fun k => ?_) ?_
    · simp only [laws_FnLayout.l3]
      rw [if_pos (by omega), w64 (by omega) (by omega)]
      rfl
    · refine Ev.bind (has_ l (by omega) (i : Int) (hm _ (by omega) (by omega))) ?_
      simp only [if_true]
      exact ih (i + 1) (by omega)
theorem ly_l2 (h : isC a b c d e f) (q : Nat) : ∀ (i : Nat) (l : List Int), (i : Int) + q = c → (l.length : Int) = 2 + 3 * a + b + 3 * i → (∀ j : Int, 0 ≤ j → j < 2 + 3 * a + b + 3 * i → j ∈ l) →
    Ev (fun k => laws_FnLayout.l2 k (cntC a b c d e f) true l (i : Int) a b c d e f) true := by
  have h' := h
  unfold isC at h'
  have hcnt : cntC a b c d e f = 2 + 3 * a + b + 3 * c := by unfold cntC; rw [if_pos h]
  induction q with
  | zero =>
    intro i l hi hl hm
    have key := ly_l3 a b c d e f h l (by omega) (fun j j0 j1 => hm j j0 (by omega)) (cntC a b c d e f).toNat 0 (by omega)
    refine Ev.step (f := fun k => laws_FnLayout.j6 k (cntC a b c d e f) true l (i : Int) false a b c d e f) (fun k => ?_) (Ev.step (fun k => ?_) key)
    · simp only [laws_FnLayout.l2]
      rw [if_neg (by omega)]
    · simp only [laws_FnLayout.j6]
      rw [if_neg (by decide)]
      rfl
  | succ q ih =>
    intro i l hi hl hm
    have n0 : nodeC a b c d e f (i : Int) 0 = 2 + 3 * a + b + 3 * i := by unfold nodeC; rw [if_pos ⟨h, by omega, by omega⟩]; omega
    have n1 : nodeC a b c d e f (i : Int) 1 = 2 + 3 * a + b + 3 * i + 1 := by unfold nodeC; rw [if_pos ⟨h, by omega, by omega⟩]
    have n2 : nodeC a b c d e f (i : Int) 2 = 2 + 3 * a + b + 3 * i + 2 := by unfold nodeC; rw [if_pos ⟨h, by omega, by omega⟩]
    have key := ih (i + 1) (l ++ [2 + 3 * a + b + 3 * (i : Int), 2 + 3 * a + b + 3 * (i : Int) + 1, 2 + 3 * a + b + 3 * (i : Int) + 2]) (by omega) (by rw [List.length_append]; simp; omega) (fun j j0 j1 => by
      rw [List.mem_append]
      by_cases hj : j < 2 + 3 * a + b + 3 * (i : Int)
      · exact .inl (hm j j0 hj)
      · right
        simp
        omega)
    refine Ev.step (f := fun k => laws_FnLayout.j6 k (cntC a b c d e f) true l (i : Int) true a b c d e f) (fun k => ?_) (Ev.step (fun k => ?_) key)
    · simp only [laws_FnLayout.l2]
      rw [if_pos (by omega)]
    · simp only [laws_FnLayout.j6, i_NodeCell, Option.bind_some, n0, n1, n2, if_true]
      rw [if_pos (by simp; omega), w64 (by omega) (by omega)]
      rfl
theorem ly_l1 (h : isC a b c d e f) (q : Nat) : ∀ (i : Nat) (l : List Int), (i : Int) + q = b → (l.length : Int) = 2 + 3 * a + i → (∀ j : Int, 0 ≤ j → j < 2 + 3 * a + i → j ∈ l) →
    Ev (fun k => laws_FnLayout.l1 k (cntC a b c d e f) true l (i : Int) a b c d e f) true := by
  have h' := h
  unfold isC at h'
  induction q with
  | zero =>
    intro i l hi hl hm
    have key := ly_l2 a b c d e f h c.toNat 0 l (by omega) (by omega) (fun j j0 j1 => hm j j0 (by omega))
    refine Ev.step (f := fun k => laws_FnLayout.j4 k (cntC a b c d e f) true l a b c d e f) (fun k => ?_) (Ev.step (fun k => ?_) key)
    · simp only [laws_FnLayout.l1]
      rw [if_neg (by omega)]
    · simp only [laws_FnLayout.j4]
      rfl
  | succ q ih =>
    intro i l hi hl hm
    have n0 : headC a b c d e f (i : Int) = 2 + 3 * a + i := by unfold headC; rw [if_pos ⟨h, by omega⟩]
    have key := ih (i + 1) (l ++ [2 + 3 * a + (i : Int)]) (by omega) (by rw [List.length_append]; simp; omega) (fun j j0 j1 => by
      rw [List.mem_append]
      by_cases hj : j < 2 + 3 * a + (i : Int)
      · exact .inl (hm j j0 hj)
      · right
        simp
        omega)
    refine Ev.step (fun k => ?_) key
    simp only [laws_FnLayout.l1, i_HeadCell, Option.bind_some, n0, if_true]
    rw [if_pos (by omega), if_pos (by omega), w64 (by omega) (by omega)]
    rfl
theorem ly_l0 (h : isC a b c d e f) (q : Nat) : ∀ (i : Nat) (l : List Int), (i : Int) + q = a → (l.length : Int) = 2 + 3 * i → (∀ j : Int, (0 ≤ j ∧ j ≤ 1) ∨ (2 ≤ j ∧ j < 2 + i) ∨ (2 + a ≤ j ∧ j < 2 + a + 2 * i) → j ∈ l) →
    Ev (fun k => laws_FnLayout.l0 k (cntC a b c d e f) true l (i : Int) a b c d e f) true := by
  have h' := h
  unfold isC at h'
  induction q with
  | zero =>
    intro i l hi hl hm
    have key := ly_l1 a b c d e f h b.toNat 0 l (by omega) (by omega) (fun j j0 j1 => hm j (by omega))
    refine Ev.step (f := fun k => laws_FnLayout.j2 k (cntC a b c d e f) true l (i : Int) false a b c d e f) (fun k => ?_) (Ev.step (fun k => ?_) key)
    · simp only [laws_FnLayout.l0]
      rw [if_neg (by omega)]
    · simp only [laws_FnLayout.j2]
      rw [if_neg (by decide)]
      rfl
  | succ q ih =>
    intro i l hi hl hm
    have n0 : annC a b c d e f (i : Int) = 2 + i := by unfold annC; rw [if_pos ⟨h, by omega⟩]
    have n1 : hazC a b c d e f (i : Int) 0 = 2 + a + 2 * i := by unfold hazC; rw [if_pos ⟨h, by omega, by omega⟩]; omega
    have n2 : hazC a b c d e f (i : Int) 1 = 2 + a + 2 * i + 1 := by unfold hazC; rw [if_pos ⟨h, by omega, by omega⟩]
    have key := ih (i + 1) (l ++ [2 + (i : Int), 2 + a + 2 * (i : Int), 2 + a + 2 * (i : Int) + 1]) (by omega) (by rw [List.length_append]; simp; omega) (fun j hj => by
      rw [List.mem_append]
      by_cases hj2 : (0 ≤ j ∧ j ≤ 1) ∨ (2 ≤ j ∧ j < 2 + (i : Int)) ∨ (2 + a ≤ j ∧ j < 2 + a + 2 * (i : Int))
      · exact .inl (hm j hj2)
      · right
        simp
        omega)
    refine Ev.step (f := fun k => laws_FnLayout.j2 k (cntC a b c d e f) true l (i : Int) true a b c d e f) (fun k => ?_) (Ev.step (fun k => ?_) key)
    · simp only [laws_FnLayout.l0]
      rw [if_pos (by omega)]
    · simp only [laws_FnLayout.j2, i_AnnounceCell, i_HazardCell, Option.bind_some, n0, n1, n2, if_true]
      rw [if_pos (by simp; omega), w64 (by omega) (by omega)]
      rfl
theorem ly_no (h : ¬ isC a b c d e f) : Ev (fun k => laws_FnLayout.l0 k (cntC a b c d e f) false [0, 1] 0 a b c d e f) true := by
  have hcnt : cntC a b c d e f = 0 := by unfold cntC; rw [if_neg h]
  have hnew : newC a b c d e f = [] := by unfold newC; rw [if_neg h]
  rw [hcnt]
  have k3 : Ev (fun k => laws_FnLayout.l3 k 0 false [0, 1] 0 a b c d e f) true := by
    refine Ev.step (f := fun k => (laws_sameInts.f k [] []).bind fun t => some t) (fun k => ?_) (Ev.bind (sameInts_refl [] (by simp)) (Ev.now _))
    simp only [laws_FnLayout.l3, i_NewCells, s_NewCells, Option.bind_some, hnew]
    rw [if_neg (by omega), if_neg (by decide), if_pos (by simp)]
  have k6 : Ev (fun k => laws_FnLayout.j6 k 0 false [0, 1] 0 false a b c d e f) true := by
    refine Ev.step (fun k => ?_) k3
    simp only [laws_FnLayout.j6]
    rw [if_neg (by decide)]
  have k2 : Ev (fun k => laws_FnLayout.l2 k 0 false [0, 1] 0 a b c d e f) true := by
    refine Ev.step (fun k => ?_) k6
    simp only [laws_FnLayout.l2]
    split <;> rfl
  have k4 : Ev (fun k => laws_FnLayout.j4 k 0 false [0, 1] a b c d e f) true := by
    refine Ev.step (fun k => ?_) k2
    simp only [laws_FnLayout.j4]
  have k1 : Ev (fun k => laws_FnLayout.l1 k 0 false [0, 1] 0 a b c d e f) true := by
    refine Ev.step (fun k => ?_) k4
    simp only [laws_FnLayout.l1, Bool.false_eq_true, if_false]
    split <;> rfl
  have kj : Ev (fun k => laws_FnLayout.j2 k 0 false [0, 1] 0 false a b c d e f) true := by
    refine Ev.step (fun k => ?_) k1
    simp only [laws_FnLayout.j2]
    rw [if_neg (by decide)]
  refine Ev.step (fun k => ?_) kj
  simp only [laws_FnLayout.l0]
  split <;> rfl
theorem ly_j0 : Ev (fun k => laws_FnLayout.j0 k (cntC a b c d e f) (decide (isC a b c d e f)) false a b c d e f) true := by
  have key : Ev (fun k => laws_FnLayout.l0 k (cntC a b c d e f) (decide (isC a b c d e f)) [0, 1] 0 a b c d e f) true := by
    by_cases h : isC a b c d e f
    · rw [decide_eq_true h]
      have h' := h
      unfold isC at h'
      exact ly_l0 a b c d e f h a.toNat 0 [0, 1] (by omega) (by simp) (fun j hj => by simp; omega)
    · rw [decide_eq_false h]
      exact ly_no a b c d e f h
  refine Ev.step (fun k => ?_) key
  simp only [laws_FnLayout.j0, impl_ClockCell.f, impl_ArenaCell.f, Option.bind_some]
  rw [if_neg (by decide)]
theorem ly_read : iC (fc6 a b c d e f) = if isC a b c d e f then (a, b, c, d, e, f, true) else (0, 0, 0, 0, 0, 0, false) := by
  by_cases h : isC a b c d e f
  · rw [if_pos h]
    have hcut := cfg_cut a b c d e f h
    have h11 : (lop (fc6 a b c d e f)).length = 11 := by rw [hcut]; rfl
    obtain ⟨⟨_, q1⟩, ⟨_, q2⟩, ⟨_, q3⟩, ⟨_, q4⟩, ⟨_, q5⟩, ⟨_, q6⟩⟩ := cfg_back (fc6 a b c d e f) h11 a b c d e f rfl
    unfold iC
    rw [if_pos h11, q1, q2, q3, q4, q5, q6]
    unfold ansC
    rw [if_pos rfl]
  · rw [if_neg h]
    have e0 : fc6 a b c d e f = ⟨#[]⟩ := by unfold fc6; rw [if_neg h]
    rw [e0]
    unfold iC
    rw [if_neg (by decide +kernel)]
theorem fc6_size : (fc6 a b c d e f).size ≤ 1000 := by
  unfold fc6
  by_cases h : isC a b c d e f
  · rw [if_pos h]
    have h' := h
    unfold isC at h'
    have da := dec30 (n := a) (by omega) (by omega)
    have db := dec30 (n := b) (by omega) (by omega)
    have dc := dec30 (n := c) (by omega) (by omega)
    have dd := dec30 (n := d) (by omega) (by omega)
    have df := dec30 (n := f) (by omega) (by omega)
    have hp := (polN_ e).2.2
    have l0 : (⟨#[32, 116, 104, 114, 101, 97, 100, 115, 32]⟩ : ByteArray).size = 9 := rfl
    have l1 : (⟨#[32, 107, 101, 121, 115, 32]⟩ : ByteArray).size = 6 := rfl
    have l2 : (⟨#[32, 99, 97, 112, 97, 99, 105, 116, 121, 32]⟩ : ByteArray).size = 10 := rfl
    have l3 : (⟨#[32, 98, 97, 116, 99, 104, 32]⟩ : ByteArray).size = 7 := rfl
    have l4 : (⟨#[32, 99, 108, 111, 99, 107, 32]⟩ : ByteArray).size = 7 := rfl
    unfold fcfg
    simp only [ByteArray.size_append, l0, l1, l2, l3, l4]
    omega
  · rw [if_neg h]
    exact Nat.zero_le _
end
theorem FnLayout : laws_FnLayout.Pure := by
  intro l hl _ _
  unfold laws_FnLayout.f laws_big.f
  simp only [Option.bind_some, decide_eq_true_eq]
  by_cases hbig : (l.length : Int) > 1048576
  · exact ⟨0, by rw [if_pos hbig]⟩
  · simp only [if_neg hbig]
    obtain ⟨a, b, c, d, e, f, hd⟩ := drawCellCount l hl
    refine (Ev.bind hd ?_).rounds
    have hF : impl_FormatConfig.f a b c d e f = some (fc6 a b c d e f) := i_FormatConfig a b c d e f (polN e) (polN_ e).2.1 (polN_ e).2.2
    have hS : Ev (fun k => spec_FormatConfig.f k a b c d e f) (fc6 a b c d e f) := s_FormatConfig a b c d e f (polN e) (polN_ e).1 (polN_ e).2.2
    have hP := i_ParseConfig (fc6 a b c d e f) (by have := fc6_size a b c d e f; omega)
    rw [ly_read a b c d e f] at hP
    have hj := ly_j0 a b c d e f
    simp only [i_CellCount, s_CellCount, s_IsConfig, hF, hP, Option.bind_some, if_true]
    refine Ev.bind hS ?_
    simp only [if_true]
    by_cases h : isC a b c d e f
    · rw [decide_eq_true h] at hj
      simp only [if_pos h, decide_eq_true h, bne_self_eq_false, Bool.false_eq_true, if_false, if_true, beq_self_eq_true, Bool.not_true, Bool.or_self]
      exact hj
    · rw [decide_eq_false h] at hj
      simp only [if_neg h, decide_eq_false h, bne_self_eq_false, Bool.false_eq_true, if_false]
      exact hj

end Go.Proofs.YtbenihcaleiacabDoor.Pure
