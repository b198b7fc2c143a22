/- The pure side of FnExactParseProgram: the program's ParseProgram answers what the reference's does, in a list of its own, for every string (the law itself answers true past 1048576 bytes). No condition. -/
import Derived.Test.YtbenihcaleiacabDoorGFnExactParseProgramx7
import Derived.OpenShut
import Derived.Laws.BitsLemmas
set_option linter.unusedVariables false
set_option linter.unusedSimpArgs false
namespace Go.Proofs.YtbenihcaleiacabDoor.Pure
open Go.RowKit Go.Proofs.YtbenihcaleiacabDoor.GFnExactParseProgram Go.Proofs.YtbenihcaleiacabDoorW.PrintWords Go.Proofs.YtbenihcaleiacabDoorW.PrintLast

theorem w64 {x : Int} (h : -9223372036854775808 ≤ x) (h' : x ≤ 9223372036854775807) : wrap64 x = x := by unfold wrap64; omega
theorem tdiv_pos {x y : Int} (h : 0 ≤ x) : Int.tdiv x y = x / y := Int.tdiv_eq_ediv_of_nonneg h
theorem tmod_pos {x y : Int} (h : 0 ≤ x) : Int.tmod x y = x % y := Int.tmod_eq_emod_of_nonneg h
theorem eq_strs {g w : Option ByteArray} {r : ByteArray} (h1 : w = some r) (h2 : g = some r) : (w.bind fun t => g.bind fun u => if u.toList = t.toList then some true else some false) = some true := by
  subst h1; subst h2; simp
theorem eq_ints {g w : Option Int} {r : Int} (h1 : w = some r) (h2 : g = some r) : (w.bind fun t => g.bind fun u => if u = t then some true else some false) = some true := by
  subst h1; subst h2; simp
theorem eq_bools {g w : Option Bool} {r : Bool} (h1 : w = some r) (h2 : g = some r) : (w.bind fun t => g.bind fun u => if (u != t) = true then some false else some true) = some true := by
  subst h1; subst h2; simp
theorem ev_strs {g w : Nat → Option ByteArray} {r : ByteArray} (h1 : Ev w r) (h2 : Ev g r) : ∃ k, ((w k).bind fun t => (g k).bind fun u => if u.toList = t.toList then some true else some false) = some true := by
  obtain ⟨K, h1⟩ := h1
  obtain ⟨L, h2⟩ := h2
  exact ⟨max K L, eq_strs (h1 _ (by omega)) (h2 _ (by omega))⟩
theorem ev2 {α β : Type} {g : Nat → Option α} {f : Nat → Option β} {a : α} {b : β} {F : α → β → Option Bool} (hg : Ev g a) (hf : Ev f b) (h : F a b = some true) : ∃ k, ((g k).bind fun t => (f k).bind fun u => F t u) = some true :=
  (Ev.bind hg (Ev.bind hf ⟨0, fun _ _ => h⟩)).rounds
theorem rd_eq (l : List Int) (i : Nat) (h : i < l.length) : rd l (i : Int) = l[i] := by
  unfold rd
  rw [show ((i : Int)).toNat = i by omega, List.getD_eq_getElem?_getD, List.getElem?_eq_getElem h]
  rfl

def bs (l : List UInt8) : ByteArray := ⟨l.toArray⟩
theorem bs_append (a b : List UInt8) : bs (a ++ b) = bs a ++ bs b := by
  apply ByteArray.ext
  rw [ByteArray.data_append]
  simp [bs]
theorem bs_nil : bs [] = ByteArray.empty := rfl
theorem bs_data (s : ByteArray) : bs s.data.toList = s := by
  apply ByteArray.ext
  simp [bs]
theorem bs_toList (l : List UInt8) : (bs l).data.toList = l := by simp [bs]
theorem bs_size (l : List UInt8) : (bs l).size = l.length := by
  show l.toArray.size = l.length
  simp
theorem bs_inj {a b : List UInt8} (h : bs a = bs b) : a = b := by rw [← bs_toList a, ← bs_toList b, h]
def dec (n : Int) : ByteArray := bs (Lib.itoa n)
def dg (m : Nat) : List UInt8 := if m = 0 then [] else Lib.decDigits m
theorem decD_step (m : Nat) : Lib.decDigits m = dg (m / 10) ++ [UInt8.ofNat (48 + m % 10)] := by
  rw [Lib.decDigits]
  unfold dg
  by_cases h : m < 10
  · rw [dif_pos h, if_pos (by omega), show m % 10 = m by omega]
    rfl
  · rw [dif_neg h, if_neg (by omega)]
theorem dg_step (m : Nat) (h : 0 < m) : dg m = dg (m / 10) ++ [UInt8.ofNat (48 + m % 10)] := by
  rw [← decD_step]
  unfold dg
  rw [if_neg (by omega)]
theorem dg_len (f : Nat) : ∀ m : Nat, m < 10 ^ f → (dg m).length ≤ f := by
  induction f with
  | zero =>
    intro m h
    have : m = 0 := by omega
    subst this
    simp [dg]
  | succ f ih =>
    intro m h
    rcases Nat.eq_zero_or_pos m with h0 | h0
    · subst h0
      simp [dg]
    · rw [dg_step m h0, List.length_append]
      have := ih (m / 10) (by rw [Nat.pow_succ] at h; omega)
      simp
      omega
theorem decD_digit (m : Nat) : ∀ c ∈ Lib.decDigits m, 48 ≤ c.toNat ∧ c.toNat ≤ 57 := by
  induction m using Nat.strongRecOn with
  | ind m ih =>
    intro c hc
    rw [decD_step] at hc
    rcases List.mem_append.1 hc with h | h
    · unfold dg at h
      by_cases h0 : m / 10 = 0
      · rw [if_pos h0] at h
        cases h
      · rw [if_neg h0] at h
        exact ih (m / 10) (by omega) c h
    · rw [List.mem_singleton] at h
      subst h
      simp only [UInt8.toNat_ofNat']
      omega
theorem decD_ne (m : Nat) : Lib.decDigits m ≠ [] := by rw [decD_step]; simp
theorem dec_neg (n : Int) (h : n < 0) : dec n = bs (45 :: Lib.decDigits n.natAbs) := by unfold dec Lib.itoa; rw [if_pos h]
theorem dec_pos (n : Int) (h : ¬ n < 0) : dec n = bs (Lib.decDigits n.toNat) := by unfold dec Lib.itoa; rw [if_neg h]
theorem dec_small (n : Int) (h : -9223372036854775808 ≤ n) (h2 : n ≤ 9223372036854775807) : (dec n).size ≤ 30 := by
  have hl : ∀ m : Nat, m ≤ 9223372036854775808 → (Lib.decDigits m).length ≤ 21 := by
    intro m hm
    rw [decD_step, List.length_append]
    have := dg_len 20 (m / 10) (by omega)
    simp
    omega
  by_cases h0 : n < 0
  · rw [dec_neg n h0, bs_size, List.length_cons]
    have := hl n.natAbs (by omega)
    omega
  · rw [dec_pos n h0, bs_size]
    have := hl n.toNat (by omega)
    omega

def pf : List UInt8 → Nat × Nat → Nat × Nat
  | [], p => p
  | c :: l, p => pf l (if 48 ≤ c.toNat ∧ c.toNat ≤ 57 then (p.1 * 10 + (c.toNat - 48), p.2 + 1) else p)
theorem pf_append (a b : List UInt8) : ∀ p, pf (a ++ b) p = pf b (pf a p) := by
  induction a with
  | nil => intro p; rfl
  | cons c a ih => intro p; rw [List.cons_append, pf, pf, ih]
theorem pf_b (l : List UInt8) : ∀ p : Nat × Nat, p.1 < 10 ^ p.2 → (pf l p).1 < 10 ^ (pf l p).2 ∧ (pf l p).2 ≤ p.2 + l.length := by
  induction l with
  | nil => intro p h; exact ⟨h, by simp [pf]⟩
  | cons c l ih =>
    intro p h
    rw [pf]
    by_cases hc : 48 ≤ c.toNat ∧ c.toNat ≤ 57
    · rw [if_pos hc]
      have := ih (p.1 * 10 + (c.toNat - 48), p.2 + 1) (by simp only [Nat.pow_succ]; omega)
      simp only at this
      rw [List.length_cons]
      exact ⟨this.1, by omega⟩
    · rw [if_neg hc]
      have := ih p h
      rw [List.length_cons]
      exact ⟨this.1, by omega⟩
theorem pf_dg (f : Nat) : ∀ m : Nat, m < 10 ^ f → ∃ k, pf (dg m) (0, 0) = (m, k) ∧ k = (dg m).length := by
  induction f with
  | zero =>
    intro m h
    have : m = 0 := by omega
    subst this
    exact ⟨0, rfl, rfl⟩
  | succ f ih =>
    intro m h
    rcases Nat.eq_zero_or_pos m with h0 | h0
    · subst h0
      exact ⟨0, rfl, rfl⟩
    · obtain ⟨k, hk, hl⟩ := ih (m / 10) (by rw [Nat.pow_succ] at h; omega)
      refine ⟨k + 1, ?_, ?_⟩
      · rw [dg_step m h0, pf_append, hk, pf, pf]
        simp only [UInt8.toNat_ofNat']
        rw [if_pos (by omega)]
        congr 1
        omega
      · rw [dg_step m h0, List.length_append, hl]
        rfl
theorem pf_decD (m : Nat) (h : m ≤ 999999999) : ∃ k, pf (Lib.decDigits m) (0, 0) = (m, k) ∧ k = (Lib.decDigits m).length ∧ k ≤ 9 := by
  rcases Nat.eq_zero_or_pos m with h0 | h0
  · subst h0
    refine ⟨1, ?_, ?_, by omega⟩ <;> rw [decD_step] <;> rfl
  · have hd : dg m = Lib.decDigits m := by unfold dg; rw [if_neg (by omega)]
    obtain ⟨k, hk, hl⟩ := pf_dg 9 m (by omega)
    have := dg_len 9 m (by omega)
    rw [hd] at hk hl this
    exact ⟨k, hk, hl, by omega⟩
def isNeg (s : ByteArray) : Prop := 0 < s.size ∧ bt s 0 = 45
instance (s : ByteArray) : Decidable (isNeg s) := by unfold isNeg; infer_instance
def parF (s : ByteArray) (q : Nat × Nat) : Int × Bool :=
  if 9 < q.2 then (0, false) else if 10 < s.size then (0, false) else if dec (if isNeg s then -(q.1 : Int) else (q.1 : Int)) = s then ((if isNeg s then -(q.1 : Int) else (q.1 : Int)), true) else (0, false)
def parI (s : ByteArray) : Int × Bool := parF s (pf (s.data.toList.take 11) (0, 0))
theorem bt_u8 (s : ByteArray) (i : Nat) (h : i < s.data.toList.length) : bt s (i : Int) = ((s.data.toList[i]).toNat : Int) := by
  unfold bt
  rw [dif_pos (show ((i : Int)).toNat < s.size by rw [show ((i : Int)).toNat = i by omega]; rw [Array.length_toList] at h; exact h)]
  congr 1
theorem parI_true {s : ByteArray} {v : Int} (h : parI s = (v, true)) : dec v = s ∧ -999999999 ≤ v ∧ v ≤ 999999999 := by
  unfold parI parF at h
  have hb := pf_b (s.data.toList.take 11) (0, 0) (by simp)
  generalize hq : pf (s.data.toList.take 11) (0, 0) = q at h hb
  by_cases h1 : 9 < q.2
  · rw [if_pos h1] at h; cases h
  · rw [if_neg h1] at h
    by_cases h2 : 10 < s.size
    · rw [if_pos h2] at h; cases h
    · rw [if_neg h2] at h
      have hp : 10 ^ q.2 ≤ 10 ^ 9 := Nat.pow_le_pow_right (by decide) (by omega)
      by_cases h3 : dec (if isNeg s then -(q.1 : Int) else (q.1 : Int)) = s
      · rw [if_pos h3] at h
        injection h with h4 _
        rw [h4] at h3
        refine ⟨h3, ?_⟩
        by_cases h5 : isNeg s
        · rw [if_pos h5] at h4; omega
        · rw [if_neg h5] at h4; omega
      · rw [if_neg h3] at h; cases h
theorem parI_or (s : ByteArray) : parI s = (0, false) ∨ ∃ v, parI s = (v, true) := by
  unfold parI parF
  generalize pf (s.data.toList.take 11) (0, 0) = q
  generalize (if isNeg s then -(q.1 : Int) else (q.1 : Int)) = v
  by_cases h1 : 9 < q.2
  · rw [if_pos h1]; exact .inl rfl
  · rw [if_neg h1]
    by_cases h2 : 10 < s.size
    · rw [if_pos h2]; exact .inl rfl
    · rw [if_neg h2]
      by_cases h3 : dec v = s
      · rw [if_pos h3]; exact .inr ⟨_, rfl⟩
      · rw [if_neg h3]; exact .inl rfl
theorem bt_bs (l : List UInt8) (c : UInt8) : bt (bs (c :: l)) 0 = (c.toNat : Int) := by
  have h := bt_u8 (bs (c :: l)) 0 (by rw [bs_toList]; simp)
  have e : ∀ (t : List UInt8) (ht : t = c :: l) (hh : 0 < t.length), t[0] = c := by
    intro t ht hh
    subst ht
    rfl
  rw [e _ (bs_toList _)] at h
  exact h
theorem dec_head (v : Int) : isNeg (dec v) ↔ v < 0 := by
  by_cases h : v < 0
  · rw [dec_neg v h]
    refine ⟨fun _ => h, fun _ => ⟨by rw [bs_size]; simp, ?_⟩⟩
    rw [bt_bs]
    rfl
  · rw [dec_pos v h]
    refine ⟨fun hn => ?_, fun hn => absurd hn h⟩
    exfalso
    obtain ⟨h0, h1⟩ := hn
    have hd := decD_digit v.toNat
    cases hl : Lib.decDigits v.toNat with
    | nil => exact decD_ne _ hl
    | cons c r =>
      rw [hl] at hd h1
      rw [bt_bs] at h1
      have := hd c (by simp)
      omega
theorem parI_dec (v : Int) (h : -999999999 ≤ v) (h2 : v ≤ 999999999) : parI (dec v) = (v, true) ∧ (dec v).size ≤ 10 := by
  obtain ⟨k, hk, hl, h9⟩ := pf_decD v.natAbs (by omega)
  have hpf : pf ((dec v).data.toList.take 11) (0, 0) = (v.natAbs, k) ∧ (dec v).size ≤ 10 := by
    by_cases hn : v < 0
    · rw [dec_neg v hn, bs_size, bs_toList, List.length_cons, List.take_of_length_le (by rw [List.length_cons]; omega), pf, if_neg (by decide)]
      exact ⟨hk, by omega⟩
    · rw [dec_pos v hn, bs_size, bs_toList, show v.toNat = v.natAbs by omega, List.take_of_length_le (by omega)]
      exact ⟨hk, by omega⟩
  refine ⟨?_, hpf.2⟩
  have hv : (if isNeg (dec v) then -(v.natAbs : Int) else (v.natAbs : Int)) = v := by
    by_cases hn : v < 0
    · rw [if_pos ((dec_head v).2 hn)]; omega
    · rw [if_neg (fun x => hn ((dec_head v).1 x))]; omega
  unfold parI parF
  rw [hpf.1]
  simp only [hv]
  rw [if_neg (by omega), if_neg (by omega), if_pos trivial]

theorem strOfNums_nil : strOfNums [] = ByteArray.empty := rfl
theorem strOfNums_append (xs ys : List Int) : strOfNums (xs ++ ys) = strOfNums xs ++ strOfNums ys := by
  apply ByteArray.ext
  rw [ByteArray.data_append]
  simp [strOfNums]
theorem app_nil (s : ByteArray) : s ++ (⟨#[]⟩ : ByteArray) = s := ByteArray.append_empty

def bl (s : ByteArray) : List Int := s.data.toList.map fun b => (b.toNat : Int)
theorem bl_length (s : ByteArray) : (bl s).length = s.size := by
  unfold bl
  rw [List.length_map, Array.length_toList]
  rfl
theorem bl_append (a b : ByteArray) : bl (a ++ b) = bl a ++ bl b := by simp [bl]
theorem bl_nil : bl ⟨#[]⟩ = [] := rfl
theorem bl_range (s : ByteArray) : ∀ x ∈ bl s, 0 ≤ x ∧ x ≤ 255 := by
  intro x hx
  obtain ⟨b, _, rfl⟩ := List.mem_map.1 hx
  have := b.toNat_lt
  omega
theorem strOfNums_bl (s : ByteArray) : strOfNums (bl s) = s := by
  apply ByteArray.ext
  unfold strOfNums bl
  rw [List.map_map]
  have e : ((fun n : Int => UInt8.ofNat n.toNat) ∘ fun b : UInt8 => (b.toNat : Int)) = id := by
    funext b
    simp
  rw [e, List.map_id]
theorem bl_inj {a b : ByteArray} (h : bl a = bl b) : a = b := by rw [← strOfNums_bl a, ← strOfNums_bl b, h]
theorem bl_strOfNums (xs : List Int) (h : ∀ x ∈ xs, 0 ≤ x ∧ x ≤ 255) : bl (strOfNums xs) = xs := by
  unfold bl strOfNums
  rw [List.map_map]
  conv => rhs; rw [← List.map_id xs]
  apply List.map_congr_left
  intro x hx
  have := h x hx
  simp only [Function.comp, id, UInt8.toNat_ofNat']
  omega
theorem bl_extract0 (s : ByteArray) (k : Nat) : bl (s.extract 0 k) = (bl s).take k := by
  simp [bl, ByteArray.data_extract, Array.toList_extract, List.extract_eq_take_drop]
theorem bl_extract (s : ByteArray) (i j : Nat) : bl (s.extract i j) = ((bl s).drop i).take (j - i) := by
  simp [bl, ByteArray.data_extract, Array.toList_extract, List.extract_eq_take_drop]
theorem bt_bl (s : ByteArray) (i : Int) : bt s i = (bl s).getD i.toNat 0 := by
  unfold bt bl
  by_cases h : i.toNat < s.size
  · rw [dif_pos h, List.getD_eq_getElem?_getD, List.getElem?_map, List.getElem?_eq_getElem (show i.toNat < s.data.toList.length by rw [Array.length_toList]; exact h)]
    rfl
  · rw [dif_neg h, List.getD_eq_getElem?_getD, List.getElem?_eq_none (by rw [List.length_map, Array.length_toList]; exact Nat.le_of_not_lt h)]
    rfl
theorem toList_iff {a b : ByteArray} : a.toList = b.toList ↔ a = b := by
  constructor
  · intro h
    rw [ByteArray.toList_eq, ByteArray.toList_eq] at h
    apply ByteArray.ext
    exact Array.toList_inj.1 h
  · intro h
    rw [h]

def cutL (c : Int) : List ByteArray → ByteArray → List UInt8 → List ByteArray
  | out, part, [] => out ++ [part]
  | out, part, b :: r => if (b.toNat : Int) = c then cutL c (out ++ [part]) (bs []) r else cutL c out (part ++ bs [b]) r
theorem ext1 (s : ByteArray) (i : Nat) (h : i < s.data.toList.length) : s.extract i (i + 1) = bs [s.data.toList[i]] := by
  apply bl_inj
  rw [bl_extract]
  unfold bl
  rw [← List.map_drop, ← List.map_take, bs_toList, show i + 1 - i = 1 by omega, List.drop_eq_getElem_cons h, List.take_succ_cons, List.take_zero]
theorem s_l2Cut_l (s : ByteArray) (hs : s.size ≤ 4194304) (c : Int) (d : Nat) : ∀ (i : Nat) (out : List ByteArray) (part : ByteArray), i + d = s.size → out.length ≤ i → part.size ≤ i →
    Ev (fun k => spec_l2Cut.l0 k s c out part i) (cutL c out part (s.data.toList.drop i)) := by
  have hsz : s.data.toList.length = s.size := by rw [Array.length_toList]; rfl
  induction d with
  | zero =>
    intro i out part hi h1 h2
    rw [List.drop_eq_nil_of_le (by omega), cutL]
    refine Ev.step (f := fun _ => some _) (fun k => ?_) (Ev.now _)
    simp only [spec_l2Cut.l0]
    rw [if_neg (by omega), if_pos (by omega)]
  | succ d ih =>
    intro i out part hi h1 h2
    have hlt : i < s.data.toList.length := by omega
    have hb := bt_u8 s i hlt
    have hx := ext1 s i hlt
    rw [List.drop_eq_getElem_cons hlt, cutL]
    generalize s.data.toList[i] = b at hb hx
    by_cases hc : (b.toNat : Int) = c
    · rw [if_pos hc]
      refine Ev.step (fun k => ?_) (ih (i + 1) (out ++ [part]) (bs []) (by omega) (by simp; omega) (by rw [bs_size]; simp))
      simp only [spec_l2Cut.l0]
      rw [if_pos (by omega), if_pos (by omega), hb, if_pos hc, if_pos (by omega), w64 (x := (i : Int) + 1) (by omega) (by omega)]
      rfl
    · rw [if_neg hc]
      refine Ev.step (fun k => ?_) (ih (i + 1) out (part ++ bs [b]) (by omega) (by omega) (by rw [ByteArray.size_append, bs_size]; simp; omega))
      simp only [spec_l2Cut.l0]
      rw [if_pos (by omega), if_pos (by omega), hb, if_neg hc, w64 (x := (i : Int) + 1) (by omega) (by omega), if_pos (by omega), if_pos (by omega), show ((i : Int)).toNat = i by omega, show ((i : Int) + 1).toNat = i + 1 by omega, hx, if_pos (by rw [bs_size]; simp; omega)]
      rfl
theorem s_l2Cut (s : ByteArray) (hs : s.size ≤ 4194304) (c : Int) : Ev (fun k => spec_l2Cut.f k s c) (cutL c [] (bs []) s.data.toList) := by
  have := s_l2Cut_l s hs c s.size 0 [] (bs []) (by omega) (by simp) (by rw [bs_size]; simp)
  rw [List.drop_zero] at this
  exact this
theorem cutL_size (c : Int) (l : List UInt8) : ∀ (out : List ByteArray) (part : ByteArray), ∀ p ∈ cutL c out part l, p ∈ out ∨ p.size ≤ part.size + l.length := by
  induction l with
  | nil =>
    intro out part p hp
    rw [cutL] at hp
    rcases List.mem_append.1 hp with h | h
    · exact .inl h
    · rw [List.mem_singleton] at h
      subst h
      exact .inr (by simp)
  | cons b r ih =>
    intro out part p hp
    rw [cutL] at hp
    rw [List.length_cons]
    by_cases hc : (b.toNat : Int) = c
    · rw [if_pos hc] at hp
      rcases ih _ _ p hp with h | h
      · rcases List.mem_append.1 h with h | h
        · exact .inl h
        · rw [List.mem_singleton] at h
          subst h
          exact .inr (by omega)
      · rw [bs_size] at h
        exact .inr (by simp at h; omega)
    · rw [if_neg hc] at hp
      rcases ih _ _ p hp with h | h
      · exact .inl h
      · rw [ByteArray.size_append, bs_size] at h
        exact .inr (by simp at h; omega)
theorem cutL_small (s : ByteArray) (hs : s.size ≤ 4194304) (c : Int) : ∀ p ∈ cutL c [] (bs []) s.data.toList, p.size ≤ 4194304 := by
  intro p hp
  have hsz : s.data.toList.length = s.size := by rw [Array.length_toList]; rfl
  rcases cutL_size c _ _ _ p hp with h | h
  · cases h
  · rw [bs_size] at h
    simp at h
    have : s.data.size = s.size := rfl
    omega
theorem cutL_nd (c : Int) (D r : List UInt8) : (∀ b ∈ D, (b.toNat : Int) ≠ c) → ∀ out part, cutL c out part (D ++ r) = cutL c out (part ++ bs D) r := by
  induction D with
  | nil =>
    intro _ out part
    rw [List.nil_append, bs_nil, ByteArray.append_empty]
  | cons b D ih =>
    intro h out part
    rw [List.cons_append, cutL, if_neg (h b (by simp)), ih (fun x hx => h x (by simp [hx])), ByteArray.append_assoc, ← bs_append]
    rfl
theorem cutL_two (D E : List UInt8) (hD : ∀ b ∈ D, (b.toNat : Int) ≠ 46) (hE : ∀ b ∈ E, (b.toNat : Int) ≠ 46) : cutL 46 [] (bs []) (D ++ 46 :: E) = [bs D, bs E] := by
  rw [cutL_nd 46 D _ hD, cutL, if_pos (by decide)]
  have := cutL_nd 46 E [] hE ([] ++ [bs [] ++ bs D]) (bs [])
  rw [List.append_nil] at this
  rw [this, cutL, bs_nil, ByteArray.empty_append, ByteArray.empty_append]
  rfl

theorem cutL_out (c : Int) (l : List UInt8) : ∀ out part, cutL c out part l = out ++ cutL c [] part l := by
  induction l with
  | nil => intro out part; rw [cutL, cutL]; rfl
  | cons b r ih =>
    intro out part
    rw [cutL, cutL]
    by_cases hc : (b.toNat : Int) = c
    · rw [if_pos hc, if_pos hc, ih (out ++ [part]), ih ([] ++ [part]), List.nil_append, List.append_assoc]
    · rw [if_neg hc, if_neg hc]
      exact ih out _
theorem cutL_step (u : UInt8) (c : Int) (hu : (u.toNat : Int) = c) (D r : List UInt8) (hD : ∀ b ∈ D, (b.toNat : Int) ≠ c) : cutL c [] (bs []) (D ++ u :: r) = bs D :: cutL c [] (bs []) r := by
  rw [cutL_nd c D _ hD, cutL, if_pos hu, cutL_out, bs_nil, ByteArray.empty_append]
  rfl
theorem cutL_end (c : Int) (D : List UInt8) (hD : ∀ b ∈ D, (b.toNat : Int) ≠ c) : cutL c [] (bs []) D = [bs D] := by
  have := cutL_nd c D [] hD [] (bs [])
  rw [List.append_nil] at this
  rw [this, cutL, bs_nil, ByteArray.empty_append]
  rfl
theorem cutL_pos (c : Int) (l : List UInt8) : ∀ out part, 0 < (cutL c out part l).length := by
  induction l with
  | nil => intro out part; rw [cutL]; simp
  | cons b r ih => intro out part; rw [cutL]; split <;> exact ih _ _
theorem split_at (u : UInt8) (l : List UInt8) : (∀ b ∈ l, b ≠ u) ∨ ∃ D E, l = D ++ u :: E ∧ ∀ b ∈ D, b ≠ u := by
  induction l with
  | nil => exact .inl (fun _ h => by cases h)
  | cons b r ih =>
    by_cases hb : b = u
    · exact .inr ⟨[], r, by rw [hb]; rfl, fun _ h => by cases h⟩
    · rcases ih with h | ⟨D, E, h1, h2⟩
      · left
        intro x hx
        rcases List.mem_cons.1 hx with rfl | hx
        · exact hb
        · exact h x hx
      · right
        refine ⟨b :: D, E, by rw [h1]; rfl, fun x hx => ?_⟩
        rcases List.mem_cons.1 hx with rfl | hx
        · exact hb
        · exact h2 x hx
theorem index_none1 (u : UInt8) (l : List UInt8) (h : ∀ b ∈ l, b ≠ u) : Lib.index l [u] = -1 := by
  induction l with
  | nil => rfl
  | cons b r ih =>
    have hb : b ≠ u := h b (by simp)
    rw [Lib.index, if_neg (by simp; exact fun x => hb x.symm), ih (fun x hx => h x (by simp [hx])), if_pos (by simp)]
theorem index_at1 (u : UInt8) (D E : List UInt8) (h : ∀ b ∈ D, b ≠ u) : Lib.index (D ++ u :: E) [u] = (D.length : Int) := by
  induction D with
  | nil => rw [List.nil_append, Lib.index, if_pos (by simp)]; rfl
  | cons b D ih =>
    have hb : b ≠ u := h b (by simp)
    rw [List.cons_append, Lib.index, if_neg (by simp; exact fun x => hb x.symm), ih (fun x hx => h x (by simp [hx])), if_neg (by simp <;> omega)]
    simp
theorem ext_of (s : ByteArray) (D r : List UInt8) (h : s.data.toList = D ++ r) : s.extract 0 (D.length + 0) = bs D := by
  apply bl_inj
  rw [Nat.add_zero, bl_extract0]
  unfold bl
  rw [h, ← List.map_take, bs_toList]
  simp
theorem ext_rest (s : ByteArray) (D r : List UInt8) (u : UInt8) (h : s.data.toList = D ++ u :: r) : s.extract (D.length + (bs [u]).size) s.size = bs r := by
  have hsz : s.data.toList.length = s.size := by rw [Array.length_toList]; rfl
  apply bl_inj
  rw [bl_extract, bs_size]
  unfold bl
  rw [← List.map_drop, ← List.map_take, bs_toList, ← hsz, h]
  congr 1
  rw [show D ++ u :: r = (D ++ [u]) ++ r by simp, show D.length + [u].length = (D ++ [u]).length by simp, List.drop_left]
  apply List.take_of_length_le
  simp
  omega
theorem split_cut (u : UInt8) (c : Int) (hu : (u.toNat : Int) = c) (n : Nat) : ∀ s : ByteArray, s.size ≤ n → Lib.splitB (bs [u]) 0 (Lib.countB s (bs [u])) s = cutL c [] (bs []) s.data.toList := by
  have cv : ∀ D : List UInt8, (∀ b ∈ D, b ≠ u) → ∀ b ∈ D, (b.toNat : Int) ≠ c := by
    intro D h b hb x
    apply h b hb
    rw [← hu] at x
    exact UInt8.toNat_inj.1 (by omega)
  induction n with
  | zero =>
    intro s hs
    have hsz : s.data.toList.length = s.size := by rw [Array.length_toList]; rfl
    have hnil : s.data.toList = [] := List.length_eq_zero_iff.1 (by omega)
    have hi : Lib.indexB s (bs [u]) = -1 := by
      show Lib.index s.data.toList (bs [u]).data.toList = -1
      rw [bs_toList, hnil]
      exact index_none1 u [] (fun _ h => by cases h)
    rw [Lib.splitB_miss _ _ _ _ hi, cutL_end c _ (by rw [hnil]; intro _ h; cases h), bs_data]
  | succ n ih =>
    intro s hs
    have hsz : s.data.toList.length = s.size := by rw [Array.length_toList]; rfl
    rcases split_at u s.data.toList with h | ⟨D, E, h1, h2⟩
    · have hi : Lib.indexB s (bs [u]) = -1 := by
        show Lib.index s.data.toList (bs [u]).data.toList = -1
        rw [bs_toList]
        exact index_none1 u _ h
      rw [Lib.splitB_miss _ _ _ _ hi, cutL_end c _ (cv _ h), bs_data]
    · have hi : Lib.indexB s (bs [u]) = (D.length : Int) := by
        show Lib.index s.data.toList (bs [u]).data.toList = _
        rw [bs_toList, h1]
        exact index_at1 u D E h2
      have hr := ext_rest s D E u h1
      have hl : D.length + (E.length + 1) = s.size := by rw [← hsz, h1]; simp
      rw [Lib.countB_hit s (bs [u]) D.length (by rw [bs_size]; simp) hi, Nat.add_comm 1, Lib.splitB_hit _ _ _ _ _ hi, hr, ext_of s D _ h1, ih (bs E) (by rw [bs_size]; omega), bs_toList, h1, cutL_step u c hu D E (cv D h2)]
theorem i_Split (s : ByteArray) (hs : s.size ≤ 4194304) (u : UInt8) (c : Int) (hu : (u.toNat : Int) = c) : strings_Split.f s (bs [u]) = some (cutL c [] (bs []) s.data.toList) := by
  have h1 : 1 ≤ (bs [u]).size := by rw [bs_size]; simp
  have h2 := Lib.countB_le (bs [u]) h1 s.size s (Nat.le_refl _)
  unfold strings_Split.f
  rw [if_pos ⟨by omega, h1, Lib.splitB_all (bs [u]) h1 0 _ s rfl, by omega⟩, split_cut u c hu s.size s (Nat.le_refl _)]

theorem l1In_ (x a b : Int) : spec_l1In.f x a b = some (decide (a ≤ x ∧ x ≤ b)) := by
  unfold spec_l1In.f
  by_cases h : a ≤ x <;> simp [h]

theorem in_ (x a b : Int) : impl_in.f x a b = some (decide (a ≤ x ∧ x ≤ b)) := by
  unfold impl_in.f
  by_cases h : a ≤ x <;> simp [h]

def isO (a b c : Int) : Prop := ((a = 1 ∨ a = 4 ∨ a = 5) ∧ b = 0 ∧ c = 0) ∨ (a = 2 ∧ (0 ≤ b ∧ b ≤ 9) ∧ c = 0) ∨ (a = 3 ∧ (0 ≤ b ∧ b ≤ 9) ∧ (0 ≤ c ∧ c ≤ 99))
instance (a b c : Int) : Decidable (isO a b c) := by unfold isO; infer_instance
theorem s_IsOp (a b c : Int) : Ev (fun k => spec_IsOp.f k a b c) (decide (isO a b c)) := by
  have e : ∀ k, spec_IsOp.f k a b c = spec_IsOp.j0 k a (decide (a = 1 ∨ a = 4 ∨ a = 5)) a b c := by
    intro k
    unfold spec_IsOp.f
    by_cases h1 : a = 1
    · subst h1; rfl
    · rw [if_neg h1]
      by_cases h2 : a = 4
      · subst h2; rfl
      · rw [if_neg h2]
        congr 1
        show decide (a = 5) = _
        exact decide_eq_decide.2 (by omega)
  simp only [e]
  refine Ev.step (f := fun _ => some (decide (isO a b c))) (fun k => ?_) (Ev.now _)
  simp only [spec_IsOp.j0, l1In_, Option.bind_some, decide_eq_true_eq]
  unfold isO
  repeat' split
  all_goals first
    | exact congrArg some (decide_eq_decide.2 (by omega))
    | exact congrArg some (decide_eq_true (by omega)).symm
    | exact congrArg some (decide_eq_false (by omega)).symm
    | (show some (decide (c = 0)) = _; exact congrArg some (decide_eq_decide.2 (by omega)))
theorem i_IsOp (a b c : Int) : Ev (fun k => impl_IsOp.f k a b c) (decide (isO a b c)) := by
  have e : ∀ k, impl_IsOp.f k a b c = impl_IsOp.j0 k a (decide (a = 1 ∨ a = 4 ∨ a = 5)) a b c := by
    intro k
    unfold impl_IsOp.f
    by_cases h1 : a = 1
    · subst h1; rfl
    · rw [if_neg h1]
      by_cases h2 : a = 4
      · subst h2; rfl
      · rw [if_neg h2]
        congr 1
        show decide (a = 5) = _
        exact decide_eq_decide.2 (by omega)
  simp only [e]
  refine Ev.step (f := fun _ => some (decide (isO a b c))) (fun k => ?_) (Ev.now _)
  simp only [impl_IsOp.j0, in_, Option.bind_some, decide_eq_true_eq]
  unfold isO
  repeat' split
  all_goals first
    | exact congrArg some (decide_eq_decide.2 (by omega))
    | exact congrArg some (decide_eq_true (by omega)).symm
    | exact congrArg some (decide_eq_false (by omega)).symm
    | (show some (decide (c = 0)) = _; exact congrArg some (decide_eq_decide.2 (by omega)))

theorem i_FormatInt (n : Int) (h : -9223372036854775808 ≤ n) (h2 : n ≤ 9223372036854775807) : impl_FormatInt.f n = some (dec n) := by
  unfold impl_FormatInt.f strconv_Itoa.f
  rw [if_pos ⟨h, h2⟩]
  rfl

theorem tmod_n (m : Nat) : Int.tmod (-(m : Int)) 10 = -((m % 10 : Nat) : Int) := by
  rw [Int.neg_tmod, tmod_pos (by omega)]
  omega
theorem tdiv_n (m : Nat) : Int.tdiv (-(m : Int)) 10 = -((m / 10 : Nat) : Int) := by
  rw [Int.neg_tdiv, tdiv_pos (by omega)]
  omega
theorem s_FormatInt_z (neg : Bool) (out : ByteArray) (ho : out.size ≤ 200) : Ev (fun k => spec_FormatInt.l0 k 0 out neg) ((if neg = true then bs [45] else bs []) ++ (bs (dg 0) ++ out)) := by
  have e : bs (dg 0) ++ out = out := by
    show bs [] ++ out = out
    rw [bs_nil, ByteArray.empty_append]
  rw [e]
  refine Ev.step (f := fun _ => some _) (fun k => ?_) (Ev.now _)
  simp only [spec_FormatInt.l0, if_true]
  cases neg with
  | true =>
    rw [if_pos rfl, if_pos rfl, if_pos (by omega)]
    rfl
  | false =>
    rw [if_neg (by decide), if_neg (by decide), bs_nil, ByteArray.empty_append]
theorem s_FormatInt_l (neg : Bool) (f : Nat) : ∀ (m : Nat) (x : Int) (out : ByteArray), (x = (m : Int) ∨ x = -(m : Int)) → m < 10 ^ f → m ≤ 9223372036854775808 → out.size + f ≤ 100 →
    Ev (fun k => spec_FormatInt.l0 k x out neg) ((if neg = true then bs [45] else bs []) ++ (bs (dg m) ++ out)) := by
  induction f with
  | zero =>
    intro m x out hx hm hm2 ho
    have h0 : m = 0 := by omega
    subst h0
    have hx0 : x = 0 := by omega
    subst hx0
    exact s_FormatInt_z neg out (by omega)
  | succ f ih =>
    intro m x out hx hm hm2 ho
    rcases Nat.eq_zero_or_pos m with h0 | h0
    · subst h0
      have hx0 : x = 0 := by omega
      subst hx0
      exact s_FormatInt_z neg out (by omega)
    · rw [dg_step m h0, bs_append, ByteArray.append_assoc]
      have hsz : (bs [UInt8.ofNat (48 + m % 10)] ++ out).size = 1 + out.size := by rw [ByteArray.size_append, bs_size]; rfl
      have hn : strOfNums [((48 + (m % 10 : Nat) : Nat) : Int)] = bs [UInt8.ofNat (48 + m % 10)] := by
        unfold strOfNums bs
        rfl
      have goal : ∀ x', (x' = ((m / 10 : Nat) : Int) ∨ x' = -((m / 10 : Nat) : Int)) → Ev (fun k => spec_FormatInt.l0 k x' (bs [UInt8.ofNat (48 + m % 10)] ++ out) neg) ((if neg = true then bs [45] else bs []) ++ (bs (dg (m / 10)) ++ (bs [UInt8.ofNat (48 + m % 10)] ++ out))) :=
        fun x' hx' => ih (m / 10) x' _ hx' (by rw [Nat.pow_succ] at hm; omega) (by omega) (by rw [hsz]; omega)
      rcases hx with hx | hx
      · subst hx
        refine Ev.step (fun k => ?_) (goal ((m / 10 : Nat) : Int) (.inl rfl))
        simp only [spec_FormatInt.l0, Option.bind_some]
        rw [if_neg (by omega), tmod_pos (show (0 : Int) ≤ (m : Int) by omega), tdiv_pos (show (0 : Int) ≤ (m : Int) by omega), if_neg (by omega), w64 (x := 48 + (m : Int) % 10) (by omega) (by omega), w64 (x := (m : Int) / 10) (by omega) (by omega),
          show (48 + (m : Int) % 10) % 256 = ((48 + (m % 10 : Nat) : Nat) : Int) by omega, hn, if_pos (by rw [bs_size]; simp; omega)]
        rfl
      · subst hx
        refine Ev.step (fun k => ?_) (goal (-((m / 10 : Nat) : Int)) (.inr rfl))
        simp only [spec_FormatInt.l0, Option.bind_some]
        rw [if_neg (by omega), tmod_n, tdiv_n]
        by_cases hz : m % 10 = 0
        · rw [if_neg (by omega), w64 (x := 48 + -((m % 10 : Nat) : Int)) (by omega) (by omega), w64 (x := -((m / 10 : Nat) : Int)) (by omega) (by omega),
            show (48 + -((m % 10 : Nat) : Int)) % 256 = ((48 + (m % 10 : Nat) : Nat) : Int) by omega, hn, if_pos (by rw [bs_size]; simp; omega)]
        · rw [if_pos (by omega), w64 (x := -(-((m % 10 : Nat) : Int))) (by omega) (by omega), w64 (x := 48 + -(-((m % 10 : Nat) : Int))) (by omega) (by omega), w64 (x := -((m / 10 : Nat) : Int)) (by omega) (by omega),
            show (48 + -(-((m % 10 : Nat) : Int))) % 256 = ((48 + (m % 10 : Nat) : Nat) : Int) by omega, hn, if_pos (by rw [bs_size]; simp; omega)]
theorem s_FormatInt (n : Int) (h : -9223372036854775808 ≤ n) (h2 : n ≤ 9223372036854775807) : Ev (fun k => spec_FormatInt.f k n) (dec n) := by
  unfold spec_FormatInt.f
  by_cases h0 : n = 0
  · simp only [if_pos h0]
    subst h0
    have e : dec 0 = (⟨#[48]⟩ : ByteArray) := by
      rw [dec_pos 0 (by omega), show (0 : Int).toNat = 0 by rfl, decD_step]
      rfl
    rw [e]
    exact Ev.now _
  · simp only [if_neg h0]
    have key := s_FormatInt_l (decide (n < 0)) 20 n.natAbs n ⟨#[]⟩ (by omega) (by omega) (by omega) (by simp [ByteArray.size])
    have e : (if decide (n < 0) = true then bs [45] else bs []) ++ (bs (dg n.natAbs) ++ (⟨#[]⟩ : ByteArray)) = dec n := by
      rw [show (⟨#[]⟩ : ByteArray) = bs [] from rfl, ← bs_append, List.append_nil]
      have hd : dg n.natAbs = Lib.decDigits n.natAbs := by unfold dg; rw [if_neg (by omega)]
      by_cases hn : n < 0
      · rw [if_pos (by simpa using hn), dec_neg n hn, ← bs_append, hd]
        rfl
      · rw [if_neg (by simpa using hn), dec_pos n hn, ← bs_append, hd, show n.natAbs = n.toNat by omega]
        rfl
    rw [e] at key
    exact key

theorem lsz (l : List UInt8) : (ByteArray.mk l.toArray).size = l.length := by simp [ByteArray.size]
theorem lsz0 : (⟨#[]⟩ : ByteArray).size = 0 := rfl
theorem eapp (s : ByteArray) : (⟨#[]⟩ : ByteArray) ++ s = s := ByteArray.empty_append
theorem appe (s : ByteArray) : s ++ (⟨#[]⟩ : ByteArray) = s := ByteArray.append_empty
theorem dec30 {n : Int} (h : -9223372036854775808 ≤ n) (h2 : n ≤ 9223372036854775807) : (dec n).size ≤ 30 := dec_small n h h2
theorem Ev_if {α : Type} {c : Prop} [Decidable c] {f g : Nat → Option α} {r : α} (hc : c) (h : Ev f r) : Ev (fun n => if c then f n else g n) r := by
  simp only [if_pos hc]
  exact h
theorem ifle {α : Type} {n : Nat} {x y : α} (h : n ≤ 9223372036854775807) : (if n ≤ 9223372036854775807 then x else y) = x := if_pos h

def opW : List ByteArray := [(⟨#[]⟩ : ByteArray), (⟨#[98, 101, 103, 105, 110]⟩ : ByteArray), (⟨#[114, 101, 97, 100]⟩ : ByteArray), (⟨#[119, 114, 105, 116, 101]⟩ : ByteArray), (⟨#[101, 110, 100]⟩ : ByteArray), (⟨#[99, 111, 108, 108, 101, 99, 116]⟩ : ByteArray)]
def fop (a b c : Int) : ByteArray := if isO a b c then (if a = 2 then (rdOf ByteArray.empty opW a ++ (⟨#[32]⟩ : ByteArray)) ++ dec b else if a = 3 then (((rdOf ByteArray.empty opW a ++ (⟨#[32]⟩ : ByteArray)) ++ dec b) ++ (⟨#[32]⟩ : ByteArray)) ++ dec c else rdOf ByteArray.empty opW a) else (⟨#[]⟩ : ByteArray)
theorem s_FormatOp (a b c : Int) : Ev (fun k => spec_FormatOp.f k a b c) (fop a b c) := by
  unfold spec_FormatOp.f
  refine Ev.bind (s_IsOp a b c) ?_
  have l1 : (⟨#[32]⟩ : ByteArray).size = 1 := rfl
  have hW : spec_l5Words.f = some opW := rfl
  unfold fop
  by_cases h : isO a b c
  · simp only [decide_eq_true h, if_true, if_pos h, hW, Option.bind_some]
    have h' := h
    unfold isO at h'
    rcases h' with ⟨h1, rfl, rfl⟩ | ⟨rfl, hb, rfl⟩ | ⟨rfl, hb, hc⟩
    · rcases h1 with rfl | rfl | rfl <;> exact Ev.congr (fun _ => rfl) (Ev.now _)
    · have w2 : (rdOf ByteArray.empty opW 2).size = 4 := rfl
      have db := dec30 (n := b) (by omega) (by omega)
      refine Ev_if (by decide) (Ev_if (by decide) (Ev_if rfl (Ev_if (by omega) ?_)))
      refine Ev.bind (s_FormatInt b (by omega) (by omega)) ?_
      refine Ev_if (by simp only [ByteArray.size_append, l1]; omega) ?_
      exact Ev.now _
    · have w3 : (rdOf ByteArray.empty opW 3).size = 5 := rfl
      have db := dec30 (n := b) (by omega) (by omega)
      have dc := dec30 (n := c) (by omega) (by omega)
      refine Ev_if (by decide) (Ev_if (by decide) ?_)
      simp only [if_neg (show ¬ (3 : Int) = 2 by decide), if_true]
      refine Ev_if (by omega) ?_
      refine Ev.bind (s_FormatInt b (by omega) (by omega)) ?_
      refine Ev_if (by simp only [ByteArray.size_append, l1]; omega) (Ev_if (by simp only [ByteArray.size_append, l1]; omega) ?_)
      refine Ev.bind (s_FormatInt c (by omega) (by omega)) ?_
      refine Ev_if (by simp only [ByteArray.size_append, l1]; omega) ?_
      exact Ev.now _
  · simp only [decide_eq_false h, if_neg h]
    exact Ev.congr (fun _ => rfl) (Ev.now _)
theorem i_FormatOp (a b c : Int) : Ev (fun k => impl_FormatOp.f k a b c) (fop a b c) := by
  unfold impl_FormatOp.f
  refine Ev.bind (i_IsOp a b c) ?_
  have l1 : (⟨#[32]⟩ : ByteArray).size = 1 := rfl
  have hW : impl_opNames.f = some opW := rfl
  unfold fop
  by_cases h : isO a b c
  · simp only [decide_eq_true h, if_true, if_pos h, hW, Option.bind_some]
    have h' := h
    unfold isO at h'
    rcases h' with ⟨h1, rfl, rfl⟩ | ⟨rfl, hb, rfl⟩ | ⟨rfl, hb, hc⟩
    · rcases h1 with rfl | rfl | rfl
      · exact Ev.step (f := fun _ => some (rdOf ByteArray.empty opW 1)) (fun _ => rfl) (Ev.now _)
      · exact Ev.step (f := fun _ => some (rdOf ByteArray.empty opW 4)) (fun _ => rfl) (Ev.now _)
      · exact Ev.step (f := fun _ => some (rdOf ByteArray.empty opW 5)) (fun _ => rfl) (Ev.now _)
    · have w2 : (rdOf ByteArray.empty opW 2).size = 4 := rfl
      have db := dec30 (n := b) (by omega) (by omega)
      refine Ev_if (by decide) (Ev_if (by decide) (Ev_if rfl ?_))
      refine Ev.step (f := fun _ => some _) (fun k => ?_) (Ev.now _)
      simp only [impl_FormatOp.j0, if_true, i_FormatInt b (by omega) (by omega), Option.bind_some]
      rw [if_pos (by omega), if_pos (by simp only [ByteArray.size_append, l1]; omega), if_neg (by decide), ByteArray.append_assoc]
    · have w3 : (rdOf ByteArray.empty opW 3).size = 5 := rfl
      have db := dec30 (n := b) (by omega) (by omega)
      have dc := dec30 (n := c) (by omega) (by omega)
      refine Ev_if (by decide) (Ev_if (by decide) ?_)
      simp only [if_neg (show ¬ (3 : Int) = 2 by decide)]
      refine Ev.step (f := fun _ => some _) (fun k => ?_) (Ev.now _)
      simp only [impl_FormatOp.j0, beq_self_eq_true, if_true, i_FormatInt b (by omega) (by omega), i_FormatInt c (by omega) (by omega), Option.bind_some]
      rw [if_pos (by omega), if_pos (by simp only [ByteArray.size_append, l1]; omega), if_pos (by omega), if_pos (by simp only [ByteArray.size_append, l1]; omega)]
      simp only [ByteArray.append_assoc]
  · simp only [decide_eq_false h, if_neg h]
    exact Ev.congr (fun _ => rfl) (Ev.now _)

theorem s_ParseInt_j2 (s : ByteArray) (q : Nat × Nat) (hq : q.1 < 10 ^ q.2) (h11 : q.2 ≤ 11) : Ev (fun k => spec_ParseInt.j2 k s (q.1 : Int) (q.2 : Int) (decide (isNeg s))) (parF s q) := by
  have hp : 10 ^ q.2 ≤ 10 ^ 11 := Nat.pow_le_pow_right (by decide) h11
  unfold parF
  by_cases h1 : 9 < q.2
  · rw [if_pos h1]
    refine Ev.step (f := fun _ => some (0, false)) (fun k => ?_) (Ev.now _)
    simp only [spec_ParseInt.j2]
    by_cases hn : isNeg s
    · rw [if_pos (by simpa using hn), if_pos (by omega)]
    · rw [if_neg (by simpa using hn), if_pos (by omega)]
  · rw [if_neg h1]
    by_cases h2 : 10 < s.size
    · rw [if_pos h2]
      refine Ev.step (f := fun _ => some (0, false)) (fun k => ?_) (Ev.now _)
      simp only [spec_ParseInt.j2]
      by_cases hn : isNeg s
      · rw [if_pos (by simpa using hn), if_neg (by omega), if_pos (by omega)]
      · rw [if_neg (by simpa using hn), if_neg (by omega), if_pos (by omega)]
    · rw [if_neg h2]
      have key : ∀ v : Int, -9223372036854775808 ≤ v → v ≤ 9223372036854775807 → Ev (fun k => (spec_FormatInt.f k v).bind fun t => if t.toList = s.toList then some (v, true) else some (0, false)) (if dec v = s then (v, true) else (0, false)) := by
        intro v hv hv2
        refine Ev.bind (s_FormatInt v hv hv2) ⟨0, fun _ _ => ?_⟩
        by_cases h : dec v = s
        · rw [if_pos (toList_iff.2 h), if_pos h]
        · rw [if_neg (fun x => h (toList_iff.1 x)), if_neg h]
      by_cases hn : isNeg s
      · rw [if_pos hn]
        refine Ev.step (fun k => ?_) (key (-(q.1 : Int)) (by omega) (by omega))
        simp only [spec_ParseInt.j2]
        rw [if_pos (by simpa using hn), if_neg (by omega), if_neg (by omega), w64 (x := -(q.1 : Int)) (by omega) (by omega)]
      · rw [if_neg hn]
        refine Ev.step (fun k => ?_) (key (q.1 : Int) (by omega) (by omega))
        simp only [spec_ParseInt.j2]
        rw [if_neg (by simpa using hn), if_neg (by omega), if_neg (by omega)]
theorem s_ParseInt_l (s : ByteArray) (hs : s.size ≤ 4194304) (d : Nat) : ∀ (i : Nat) (q : Nat × Nat), i + d = 11 → q.1 < 10 ^ q.2 → q.2 ≤ i →
    Ev (fun k => spec_ParseInt.l0 k s (q.1 : Int) (q.2 : Int) i) (parF s (pf ((s.data.toList.drop i).take d) q)) := by
  have hsz : s.data.toList.length = s.size := by rw [Array.length_toList]; rfl
  have stop : ∀ (i : Nat) (q : Nat × Nat), i ≤ 11 → (11 ≤ i ∨ s.size ≤ i) → q.1 < 10 ^ q.2 → q.2 ≤ i → Ev (fun k => spec_ParseInt.l0 k s (q.1 : Int) (q.2 : Int) i) (parF s q) := by
    intro i q h11 hi hq hq2
    have hj := s_ParseInt_j2 s q hq (by omega)
    refine Ev.step (f := fun k => spec_ParseInt.j1 k s (q.1 : Int) (q.2 : Int) i false) (fun k => ?_) (Ev.step (f := fun k => spec_ParseInt.j2 k s (q.1 : Int) (q.2 : Int) (decide (isNeg s))) (fun k => ?_) hj)
    · simp only [spec_ParseInt.l0]
      by_cases h1 : (i : Int) < s.size
      · rw [if_pos h1, decide_eq_false (by omega)]
      · rw [if_neg h1]
    · simp only [spec_ParseInt.j1]
      rw [if_neg (by simp)]
      by_cases h0 : (s.size : Int) > 0
      · rw [if_pos h0, if_pos h0]
        congr 1
        by_cases hn : isNeg s
        · rw [decide_eq_true hn, hn.2]; rfl
        · rw [decide_eq_false hn]
          exact beq_eq_false_iff_ne.2 (fun h45 => hn ⟨by omega, h45⟩)
      · rw [if_neg h0]
        congr 1
        exact (decide_eq_false (fun (x : isNeg s) => h0 (by have := x.1; omega))).symm
  induction d with
  | zero =>
    intro i q hi hq hq2
    rw [List.take_zero, pf]
    exact stop i q (by omega) (.inl (by omega)) hq hq2
  | succ d ih =>
    intro i q hi hq hq2
    by_cases h1 : s.size ≤ i
    · rw [List.drop_eq_nil_of_le (by omega), List.take_nil, pf]
      exact stop i q (by omega) (.inr h1) hq hq2
    · have hb := bt_u8 s i (by omega)
      have hp : 10 ^ q.2 ≤ 10 ^ 11 := Nat.pow_le_pow_right (by decide) (by omega)
      rw [List.drop_eq_getElem_cons (show i < s.data.toList.length by omega), List.take_succ_cons, pf]
      have hlt := (s.data.toList[i]'(by omega)).toNat_lt
      generalize (s.data.toList[i]'(by omega)).toNat = c at hb hlt
      refine Ev.step (f := fun k => spec_ParseInt.j1 k s (q.1 : Int) (q.2 : Int) i true) (fun k => ?_) ?_
      · simp only [spec_ParseInt.l0]
        rw [if_pos (by omega), decide_eq_true (by omega)]
      · by_cases hc : 48 ≤ c ∧ c ≤ 57
        · rw [if_pos hc]
          refine Ev.step (fun k => ?_) (ih (i + 1) (q.1 * 10 + (c - 48), q.2 + 1) (by omega) (by simp only [Nat.pow_succ]; omega) (by simp only; omega))
          simp only [spec_ParseInt.j1, if_true]
          rw [if_pos (by omega), if_pos (by omega), hb, if_pos (by omega), if_pos (by omega), w64 (x := (q.1 : Int) * 10) (by omega) (by omega), w64 (x := (q.2 : Int) + 1) (by omega) (by omega), w64 (x := (i : Int) + 1) (by omega) (by omega), show ((c : Int) - 48) % 256 = ((c - 48 : Nat) : Int) by omega, w64 (by omega) (by omega)]
          congr 1
        · rw [if_neg hc]
          refine Ev.step (fun k => ?_) (ih (i + 1) q (by omega) hq (by omega))
          simp only [spec_ParseInt.j1, if_true]
          rw [if_pos (by omega), if_pos (by omega), hb, w64 (x := (i : Int) + 1) (by omega) (by omega)]
          by_cases h48 : (c : Int) ≥ 48
          · rw [if_pos h48, if_neg (by omega)]
            rfl
          · rw [if_neg h48]
            rfl
theorem s_ParseInt (s : ByteArray) (hs : s.size ≤ 4194304) : Ev (fun k => spec_ParseInt.f k s) (parI s) := by
  have := s_ParseInt_l s hs 11 0 (0, 0) (by omega) (by simp) (by simp)
  rw [List.drop_zero] at this
  exact this

theorem pu_append (a b : List UInt8) : ∀ (acc u : Nat), Lib.parseUint10 acc a = .ok u → Lib.parseUint10 acc (a ++ b) = Lib.parseUint10 u b := by
  induction a with
  | nil =>
    intro acc u h
    simp only [Lib.parseUint10] at h
    injection h with h
    rw [List.nil_append, h]
  | cons c a ih =>
    intro acc u h
    rw [List.cons_append]
    simp only [Lib.parseUint10] at h ⊢
    split at h
    · rename_i h1
      rw [if_pos h1]
      split at h
      · cases h
      · rename_i h2
        rw [if_neg h2]
        split at h
        · cases h
        · rename_i h3
          rw [if_neg h3]
          exact ih _ _ h
    · cases h
theorem pu_dg (f : Nat) (hf : f ≤ 10) : ∀ m : Nat, m < 10 ^ f → Lib.parseUint10 0 (dg m) = .ok m := by
  induction f with
  | zero =>
    intro m h
    have : m = 0 := by omega
    subst this
    rfl
  | succ f ih =>
    intro m h
    have hp : 10 ^ (f + 1) ≤ 10 ^ 10 := Nat.pow_le_pow_right (by decide) hf
    rcases Nat.eq_zero_or_pos m with h0 | h0
    · subst h0
      rfl
    · rw [dg_step m h0, pu_append _ _ _ _ (ih (by omega) (m / 10) (by rw [Nat.pow_succ] at h; omega))]
      simp only [Lib.parseUint10, UInt8.toNat_ofNat']
      rw [if_pos (by omega), if_neg (by omega), if_neg (by omega)]
      congr 1
      omega
theorem mag_decD (m : Nat) (h : m ≤ 999999999) : Lib.parseMag (Lib.decDigits m) = .ok m := by
  unfold Lib.parseMag
  rw [if_neg (decD_ne m)]
  rcases Nat.eq_zero_or_pos m with h0 | h0
  · subst h0
    rw [decD_step]
    rfl
  · have hd : dg m = Lib.decDigits m := by unfold dg; rw [if_neg (by omega)]
    rw [← hd]
    exact pu_dg 9 (by omega) m (by omega)
theorem atoi_dec (v : Int) (h : -999999999 ≤ v) (h2 : v ≤ 999999999) : Lib.atoiAll (Lib.itoa v) = .ok v := by
  unfold Lib.itoa
  by_cases hn : v < 0
  · rw [if_pos hn]
    unfold Lib.atoiAll
    simp only
    rw [if_pos (.inr (by decide)), mag_decD _ (by omega)]
    simp only
    rw [if_neg (fun x => x.1 (by decide)), if_neg (by omega), if_pos (by decide)]
    congr 1
    omega
  · rw [if_neg hn]
    obtain ⟨c, r, hcr⟩ : ∃ c r, Lib.decDigits v.toNat = c :: r := by
      cases hd : Lib.decDigits v.toNat with
      | nil => exact absurd hd (decD_ne _)
      | cons c r => exact ⟨c, r, rfl⟩
    have hc := decD_digit v.toNat c (by rw [hcr]; simp)
    have hm := mag_decD v.toNat (by omega)
    rw [hcr] at hm ⊢
    unfold Lib.atoiAll
    simp only
    rw [if_neg (by omega), hm]
    simp only
    rw [if_neg (by omega), if_neg (by omega), if_neg (by omega)]
    congr 1
    omega
theorem atoi_b {l : List UInt8} {v : Int} (h : Lib.atoiAll l = .ok v) : -9223372036854775808 ≤ v ∧ v ≤ 9223372036854775807 := by
  unfold Lib.atoiAll at h
  cases l with
  | nil => cases h
  | cons c r =>
    simp only at h
    split at h
    · cases h
    · cases h
    · rename_i u hu
      split at h
      · cases h
      · split at h
        · cases h
        · injection h with h
          split at h <;> omega
theorem i_ParseInt (s : ByteArray) (hs : s.size ≤ 4194304) : impl_ParseInt.f s = some (parI s) := by
  have back : ∀ v, parI s = (v, true) → Lib.atoiAll s.data.toList = .ok v := by
    intro v hv
    obtain ⟨hd, h1, h2⟩ := parI_true hv
    rw [← hd]
    unfold dec
    rw [bs_toList]
    exact atoi_dec v h1 h2
  have none_ : (∀ v, parI s ≠ (v, true)) → parI s = (0, false) := by
    intro h
    rcases parI_or s with h0 | ⟨v, hv⟩
    · exact h0
    · exact absurd hv (h v)
  unfold impl_ParseInt.f
  rw [if_pos (by omega)]
  cases hA : Lib.atoiAll s.data.toList with
  | ok v =>
    have hb := atoi_b hA
    simp only
    unfold impl_ParseInt.of
    rw [i_FormatInt v hb.1 hb.2]
    simp only [Option.bind_some]
    by_cases hd : dec v = s
    · rw [if_pos (toList_iff.2 hd)]
      by_cases h1 : v > 999999999
      · rw [if_pos h1, none_ (fun v' hv' => by
          have := back v' hv'
          rw [hA] at this
          injection this with this
          have := (parI_true hv').2
          omega)]
      · rw [if_neg h1]
        by_cases h2 : v < -999999999
        · rw [if_pos h2, none_ (fun v' hv' => by
            have := back v' hv'
            rw [hA] at this
            injection this with this
            have := (parI_true hv').2
            omega)]
        · rw [if_neg h2, ← hd, (parI_dec v (by omega) (by omega)).1]
    · rw [if_neg (fun x => hd (toList_iff.1 x)), none_ (fun v' hv' => by
        have := back v' hv'
        rw [hA] at this
        injection this with this
        rw [← this] at hv'
        exact hd (parI_true hv').1)]
  | _ =>
    simp only
    rw [none_ (fun v' hv' => by
      have := back v' hv'
      rw [hA] at this
      cases this)]

theorem rdB_mem (L : List ByteArray) (i : Nat) (h : i < L.length) : rdOf ByteArray.empty L (i : Int) ∈ L := by
  unfold rdOf
  rw [show ((i : Int)).toNat = i by omega, List.getD_eq_getElem?_getD, List.getElem?_eq_getElem h]
  exact List.getElem_mem h
def l2n (p : ByteArray) : Int := if (parI p).2 = true then (parI p).1 else -1000
theorem s_l2Num (p : ByteArray) (hp : p.size ≤ 4194304) : Ev (fun k => spec_l2Num.f k p) (l2n p) := by
  unfold spec_l2Num.f l2n
  refine Ev.bind (s_ParseInt p hp) ?_
  by_cases h : (parI p).2 = true
  · simp only [if_pos h]; exact Ev.now _
  · simp only [if_neg h]; exact Ev.now _
def kdF (p : ByteArray) : Nat → Nat → Int → Int
  | 0, _, cur => cur
  | d + 1, i, cur => kdF p d (i + 1) (if rdOf ByteArray.empty opW (i : Int) = p then (i : Int) else cur)
def opAns (s : ByteArray) (a b c : Int) : Int × Int × Int × Bool := if s = bs [] then (0, 0, 0, false) else if fop a b c = s then (a, b, c, true) else (0, 0, 0, false)
theorem e_toList (s : ByteArray) : s.toList = ([] : List UInt8) ↔ s = bs [] := by
  rw [ByteArray.toList_eq]
  constructor
  · intro h
    rw [← bs_data s, h]
  · intro h
    rw [h, bs_toList]
theorem s_opfin (s : ByteArray) (a b c : Int) : Ev (fun k => if s.toList = ([] : List UInt8) then some (0, 0, 0, false) else (spec_FormatOp.f k a b c).bind fun t => if t.toList = s.toList then some (a, b, c, true) else some (0, 0, 0, false)) (opAns s a b c) := by
  unfold opAns
  by_cases h0 : s = bs []
  · simp only [if_pos ((e_toList s).2 h0), if_pos h0]
    exact Ev.now _
  · simp only [if_neg (fun x => h0 ((e_toList s).1 x)), if_neg h0]
    refine Ev.bind (s_FormatOp a b c) ⟨0, fun _ _ => ?_⟩
    by_cases h : fop a b c = s
    · rw [if_pos (toList_iff.2 h), if_pos h]
    · rw [if_neg (fun x => h (toList_iff.1 x)), if_neg h]
theorem i_opfin (s : ByteArray) (a b c : Int) : Ev (fun k => if s.toList = ([] : List UInt8) then some (0, 0, 0, false) else (impl_FormatOp.f k a b c).bind fun t => if t.toList = s.toList then some (a, b, c, true) else some (0, 0, 0, false)) (opAns s a b c) := by
  unfold opAns
  by_cases h0 : s = bs []
  · simp only [if_pos ((e_toList s).2 h0), if_pos h0]
    exact Ev.now _
  · simp only [if_neg (fun x => h0 ((e_toList s).1 x)), if_neg h0]
    refine Ev.bind (i_FormatOp a b c) ⟨0, fun _ _ => ?_⟩
    by_cases h : fop a b c = s
    · rw [if_pos (toList_iff.2 h), if_pos h]
    · rw [if_neg (fun x => h (toList_iff.1 x)), if_neg h]
def sv (L : List ByteArray) (j : Nat) : Int := if j < L.length then l2n (rdOf ByteArray.empty L (j : Int)) else 0
def iv (L : List ByteArray) (j : Nat) : Int := if j < L.length then (parI (rdOf ByteArray.empty L (j : Int))).1 else 0
theorem s_j1 (s : ByteArray) (L : List ByteArray) (hL : ∀ p ∈ L, p.size ≤ 4194304) (a b : Int) : Ev (fun k => spec_ParseOp.j1 k s L a b 0) (opAns s a b (sv L 2)) := by
  unfold sv
  by_cases h : 2 < L.length
  · rw [if_pos h]
    refine Ev.step (f := fun k => (spec_l2Num.f k (rdOf ByteArray.empty L 2)).bind fun t149 => (if s.toList = ([] : List UInt8) then (some (0, 0, 0, false)) else ((spec_FormatOp.f k a b t149).bind fun t150 => (if t150.toList = s.toList then (some (a, b, t149, true)) else (some (0, 0, 0, false)))))) (fun k => ?_) (Ev.bind (s_l2Num _ (hL _ (rdB_mem L 2 h))) (s_opfin s a b _))
    simp only [spec_ParseOp.j1]
    rw [if_pos (by omega), if_pos (by omega)]
  · rw [if_neg h]
    refine Ev.step (fun k => ?_) (s_opfin s a b 0)
    simp only [spec_ParseOp.j1]
    rw [if_neg (by omega)]
theorem i_j1 (s : ByteArray) (L : List ByteArray) (hL : ∀ p ∈ L, p.size ≤ 4194304) (a b : Int) : Ev (fun k => impl_ParseOp.j1 k s L a b 0) (opAns s a b (iv L 2)) := by
  unfold iv
  by_cases h : 2 < L.length
  · rw [if_pos h]
    refine Ev.step (fun k => ?_) (i_opfin s a b _)
    simp only [impl_ParseOp.j1]
    rw [if_pos (by omega), if_pos (by omega), show (2 : Int) = ((2 : Nat) : Int) from rfl, i_ParseInt _ (hL _ (rdB_mem L 2 h))]
    rfl
  · rw [if_neg h]
    refine Ev.step (fun k => ?_) (i_opfin s a b 0)
    simp only [impl_ParseOp.j1]
    rw [if_neg (by omega)]
theorem s_ParseOp_l (s : ByteArray) (L : List ByteArray) (h0 : 0 < L.length) (hL : ∀ p ∈ L, p.size ≤ 4194304) (d : Nat) : ∀ (i : Nat) (cur : Int), i + d = 6 →
    Ev (fun k => spec_ParseOp.l0 k s L opW i cur 0 0) (opAns s (kdF (rdOf ByteArray.empty L 0) d i cur) (sv L 1) (sv L 2)) := by
  have hW : opW.length = 6 := rfl
  induction d with
  | zero =>
    intro i cur hi
    rw [kdF]
    have hj := fun b => s_j1 s L hL cur b
    unfold sv
    by_cases h : 1 < L.length
    · rw [if_pos h]
      refine Ev.step (f := fun k => (spec_l2Num.f k (rdOf ByteArray.empty L 1)).bind fun t147 => spec_ParseOp.j1 k s L cur t147 0) (fun k => ?_) (Ev.bind (s_l2Num _ (hL _ (rdB_mem L 1 h))) (hj _))
      simp only [spec_ParseOp.l0]
      rw [if_neg (by omega), if_pos (by omega), if_pos (by omega)]
    · rw [if_neg h]
      refine Ev.step (fun k => ?_) (hj 0)
      simp only [spec_ParseOp.l0]
      rw [if_neg (by omega), if_neg (by omega)]
  | succ d ih =>
    intro i cur hi
    rw [kdF]
    refine Ev.step (fun k => ?_) (ih (i + 1) _ (by omega))
    simp only [spec_ParseOp.l0]
    rw [if_pos (by omega), if_pos (by omega), if_pos (by omega), w64 (x := (i : Int) + 1) (by omega) (by omega)]
    by_cases h : rdOf ByteArray.empty opW (i : Int) = rdOf ByteArray.empty L 0
    · rw [if_pos (toList_iff.2 h), if_pos h]; rfl
    · rw [if_neg (fun x => h (toList_iff.1 x)), if_neg h]; rfl
theorem i_ParseOp_l (s : ByteArray) (L : List ByteArray) (h0 : 0 < L.length) (hL : ∀ p ∈ L, p.size ≤ 4194304) (d : Nat) : ∀ (i : Nat) (cur : Int), i + d = 6 →
    Ev (fun k => impl_ParseOp.l0 k s L opW 6 i cur 0 0) (opAns s (kdF (rdOf ByteArray.empty L 0) d i cur) (iv L 1) (iv L 2)) := by
  have hW : opW.length = 6 := rfl
  induction d with
  | zero =>
    intro i cur hi
    rw [kdF]
    have hj := fun b => i_j1 s L hL cur b
    unfold iv
    by_cases h : 1 < L.length
    · rw [if_pos h]
      refine Ev.step (fun k => ?_) (hj _)
      simp only [impl_ParseOp.l0]
      rw [if_neg (by omega), if_pos (by omega), if_pos (by omega), show (1 : Int) = ((1 : Nat) : Int) from rfl, i_ParseInt _ (hL _ (rdB_mem L 1 h))]
      rfl
    · rw [if_neg h]
      refine Ev.step (fun k => ?_) (hj 0)
      simp only [impl_ParseOp.l0]
      rw [if_neg (by omega), if_neg (by omega)]
  | succ d ih =>
    intro i cur hi
    rw [kdF]
    refine Ev.step (fun k => ?_) (ih (i + 1) _ (by omega))
    simp only [impl_ParseOp.l0]
    rw [if_pos (by omega), if_pos (by omega), if_pos (by omega), if_pos (by omega), w64 (x := (i : Int) + 1) (by omega) (by omega)]
    by_cases h : rdOf ByteArray.empty opW (i : Int) = rdOf ByteArray.empty L 0
    · rw [if_pos (toList_iff.2 h), if_pos h]; rfl
    · rw [if_neg (fun x => h (toList_iff.1 x)), if_neg h]; rfl
def lop (s : ByteArray) : List ByteArray := cutL 32 [] (bs []) s.data.toList
def kd (L : List ByteArray) : Int := kdF (rdOf ByteArray.empty L 0) 5 1 0
theorem s_ParseOp (s : ByteArray) (hs : s.size ≤ 4194304) : Ev (fun k => spec_ParseOp.f k s) (opAns s (kd (lop s)) (sv (lop s) 1) (sv (lop s) 2)) := by
  unfold spec_ParseOp.f
  refine Ev.bind (s_l2Cut s hs 32) ?_
  have hW : spec_l5Words.f = some opW := rfl
  simp only [hW, Option.bind_some]
  exact s_ParseOp_l s (lop s) (cutL_pos _ _ _ _) (cutL_small s hs 32) 5 1 0 (by omega)
theorem i_ParseOp (s : ByteArray) (hs : s.size ≤ 4194304) : Ev (fun k => impl_ParseOp.f k s) (opAns s (kd (lop s)) (iv (lop s) 1) (iv (lop s) 2)) := by
  unfold impl_ParseOp.f
  have hsp : strings_Split.f s (⟨#[32]⟩ : ByteArray) = some (lop s) := i_Split s hs 32 32 (by decide)
  have hW : impl_opNames.f = some opW := rfl
  simp only [hsp, hW, Option.bind_some]
  have key := i_ParseOp_l s (lop s) (cutL_pos _ _ _ _) (cutL_small s hs 32) 6 0 0 (by omega)
  have e : kdF (rdOf ByteArray.empty (lop s) 0) 6 0 0 = kd (lop s) := by
    rw [kdF]
    unfold kd
    congr 1
    split <;> rfl
  rw [e] at key
  exact key
theorem nd32 (m : Nat) : ∀ b ∈ Lib.decDigits m, (b.toNat : Int) ≠ 32 := by
  intro b hb
  have := decD_digit m b hb
  omega
theorem opW_nd : ∀ i : Fin 6, ∀ b ∈ (opW[i.val]).data.toList, (b.toNat : Int) ≠ 32 := by decide +kernel
theorem l2n_dec (v : Int) (h : -999999999 ≤ v) (h2 : v ≤ 999999999) : l2n (dec v) = v ∧ (parI (dec v)).1 = v := by
  have := (parI_dec v h h2).1
  unfold l2n
  rw [this]
  exact ⟨rfl, rfl⟩
theorem op_back (a b c : Int) (h : isO a b c) : kd (lop (fop a b c)) = a ∧ (sv (lop (fop a b c)) 1 = b ∧ iv (lop (fop a b c)) 1 = b) ∧ sv (lop (fop a b c)) 2 = c ∧ iv (lop (fop a b c)) 2 = c := by
  have h' := h
  unfold isO at h'
  unfold fop
  rw [if_pos h]
  rcases h' with ⟨h1, rfl, rfl⟩ | ⟨rfl, hb, rfl⟩ | ⟨rfl, hb, hc⟩
  · rcases h1 with rfl | rfl | rfl
    · exact ⟨by decide +kernel, ⟨by decide +kernel, by decide +kernel⟩, by decide +kernel, by decide +kernel⟩
    · exact ⟨by decide +kernel, ⟨by decide +kernel, by decide +kernel⟩, by decide +kernel, by decide +kernel⟩
    · exact ⟨by decide +kernel, ⟨by decide +kernel, by decide +kernel⟩, by decide +kernel, by decide +kernel⟩
  · have e : lop ((rdOf ByteArray.empty opW 2 ++ (⟨#[32]⟩ : ByteArray)) ++ dec b) = [rdOf ByteArray.empty opW 2, dec b] := by
      unfold lop
      have hl : ((rdOf ByteArray.empty opW 2 ++ (⟨#[32]⟩ : ByteArray)) ++ dec b).data.toList = ([114, 101, 97, 100] : List UInt8) ++ 32 :: Lib.decDigits b.toNat := by
        rw [dec_pos b (by omega), ByteArray.data_append, Array.toList_append, bs_toList]
        rfl
      rw [hl, cutL_step 32 32 (by decide) _ _ (by decide), cutL_end 32 _ (nd32 _), dec_pos b (by omega)]
      rfl
    rw [if_pos rfl, e]
    have hb2 := l2n_dec b (by omega) (by omega)
    exact ⟨(by decide +kernel : kdF (rdOf ByteArray.empty opW 2) 5 1 0 = 2), ⟨hb2.1, hb2.2⟩, rfl, rfl⟩
  · have e : lop ((((rdOf ByteArray.empty opW 3 ++ (⟨#[32]⟩ : ByteArray)) ++ dec b) ++ (⟨#[32]⟩ : ByteArray)) ++ dec c) = [rdOf ByteArray.empty opW 3, dec b, dec c] := by
      unfold lop
      have hl : ((((rdOf ByteArray.empty opW 3 ++ (⟨#[32]⟩ : ByteArray)) ++ dec b) ++ (⟨#[32]⟩ : ByteArray)) ++ dec c).data.toList = ([119, 114, 105, 116, 101] : List UInt8) ++ 32 :: (Lib.decDigits b.toNat ++ 32 :: Lib.decDigits c.toNat) := by
        rw [dec_pos b (by omega), dec_pos c (by omega), ByteArray.data_append, Array.toList_append, ByteArray.data_append, Array.toList_append, ByteArray.data_append, Array.toList_append, bs_toList, bs_toList, List.append_assoc, List.append_assoc]
        rfl
      rw [hl, cutL_step 32 32 (by decide) _ _ (by decide), cutL_step 32 32 (by decide) _ _ (nd32 _), cutL_end 32 _ (nd32 _), dec_pos b (by omega), dec_pos c (by omega)]
      rfl
    rw [if_neg (by decide), if_pos rfl, e]
    have hb2 := l2n_dec b (by omega) (by omega)
    have hc2 := l2n_dec c (by omega) (by omega)
    exact ⟨(by decide +kernel : kdF (rdOf ByteArray.empty opW 3) 5 1 0 = 3), ⟨hb2.1, hb2.2⟩, hc2.1, hc2.2⟩
theorem fop_O (a b c : Int) (h : fop a b c ≠ bs []) : isO a b c := by
  by_cases x : isO a b c
  · exact x
  · exfalso
    apply h
    unfold fop
    rw [if_neg x]
    rfl
theorem op_same (s : ByteArray) : opAns s (kd (lop s)) (iv (lop s) 1) (iv (lop s) 2) = opAns s (kd (lop s)) (sv (lop s) 1) (sv (lop s) 2) := by
  by_cases h0 : s = bs []
  · unfold opAns
    rw [if_pos h0, if_pos h0]
  · have go : ∀ a b c, fop a b c = s → kd (lop s) = a ∧ (sv (lop s) 1 = b ∧ iv (lop s) 1 = b) ∧ sv (lop s) 2 = c ∧ iv (lop s) 2 = c := by
      intro a b c h
      have := op_back a b c (fop_O a b c (by rw [h]; exact h0))
      rw [h] at this
      exact this
    by_cases h1 : fop (kd (lop s)) (sv (lop s) 1) (sv (lop s) 2) = s
    · have := go _ _ _ h1
      rw [this.2.1.2, this.2.2.2]
    · by_cases h2 : fop (kd (lop s)) (iv (lop s) 1) (iv (lop s) 2) = s
      · have := go _ _ _ h2
        rw [this.2.1.1, this.2.2.1]
      · unfold opAns
        rw [if_neg h0, if_neg h0, if_neg h1, if_neg h2]

theorem rdO_eq (l : List S42) (i : Nat) (h : i < l.length) : rd_T42 l (i : Int) = l[i] := by
  unfold rd_T42
  rw [show ((i : Int)).toNat = i by omega, List.getD_eq_getElem?_getD, List.getElem?_eq_getElem h]
  rfl

def isOx (x : S42) : Prop := isO x.f0 x.f1 x.f2
instance (x : S42) : Decidable (isOx x) := by unfold isOx; infer_instance
def fo (x : S42) : ByteArray := fop x.f0 x.f1 x.f2
theorem rdW (a : Int) : (rdOf ByteArray.empty opW a).size ≤ 7 := by
  unfold rdOf
  have : ∀ n : Nat, (opW.getD n ByteArray.empty).size ≤ 7 := by
    intro n
    match n with
    | 0 => decide
    | 1 => decide
    | 2 => decide
    | 3 => decide
    | 4 => decide
    | 5 => decide
    | n + 6 => exact Nat.zero_le _
  exact this _
theorem fop_size (a b c : Int) : (fop a b c).size ≤ 100 := by
  have l1 : (⟨#[32]⟩ : ByteArray).size = 1 := rfl
  have l0 : (⟨#[]⟩ : ByteArray).size = 0 := rfl
  have w := rdW a
  unfold fop
  by_cases h : isO a b c
  · have h' := h
    unfold isO at h'
    have db := dec30 (n := b) (by omega) (by omega)
    have dc := dec30 (n := c) (by omega) (by omega)
    rw [if_pos h]
    by_cases h2 : a = 2
    · rw [if_pos h2]; simp only [ByteArray.size_append, l1]; omega
    · rw [if_neg h2]
      by_cases h3 : a = 3
      · rw [if_pos h3]; simp only [ByteArray.size_append, l1]; omega
      · rw [if_neg h3]; omega
  · rw [if_neg h, l0]; omega
theorem fop_ne (a b c : Int) (h : isO a b c) : (fop a b c).size ≠ 0 := by
  have l1 : (⟨#[32]⟩ : ByteArray).size = 1 := rfl
  unfold fop
  have h' := h
  unfold isO at h'
  rw [if_pos h]
  rcases h' with ⟨h1, rfl, rfl⟩ | ⟨rfl, hb, rfl⟩ | ⟨rfl, hb, hc⟩
  · rcases h1 with rfl | rfl | rfl <;> decide
  · rw [if_pos rfl]; simp only [ByteArray.size_append, l1]; omega
  · rw [if_neg (by decide), if_pos rfl]; simp only [ByteArray.size_append, l1]; omega
theorem nil_toList : (⟨#[]⟩ : ByteArray).toList = ([] : List UInt8) := by
  first
  | decide
  | (unfold ByteArray.toList; rw [ByteArray.toList.loop]; rfl)
  | simp [ByteArray.toList]
theorem fo_nil (x : S42) : (fo x).toList = ([] : List UInt8) ↔ ¬ isOx x := by
  have e : (fo x).toList = ([] : List UInt8) ↔ (fo x).size = 0 := by
    constructor
    · intro h
      have h2 : (fo x).toList = (⟨#[]⟩ : ByteArray).toList := h.trans nil_toList.symm
      have := toList_iff.1 h2
      rw [this]; rfl
    · intro h
      have : fo x = (⟨#[]⟩ : ByteArray) := by
        apply ByteArray.ext
        exact Array.eq_empty_of_size_eq_zero h
      rw [this]; exact nil_toList
  rw [e]
  constructor
  · intro h hO
    exact fop_ne _ _ _ hO h
  · intro h
    unfold fo fop
    have h' : ¬ isO x.f0 x.f1 x.f2 := h
    rw [if_neg h']
    rfl
def allO : List S42 → Bool
  | [] => true
  | x :: xs => decide (isOx x) && allO xs
def cs2 : ByteArray := (⟨#[44, 32]⟩ : ByteArray)
def goS (long : Bool) : Nat → ByteArray → List S42 → ByteArray
  | _, out, [] => if long = true then (⟨#[]⟩ : ByteArray) else out
  | i, out, x :: xs => if isOx x then goS long (i + 1) (if i = 0 then out ++ fo x else (out ++ cs2) ++ fo x) xs else (⟨#[]⟩ : ByteArray)
theorem goS_long (xs : List S42) : ∀ i out, goS true i out xs = (⟨#[]⟩ : ByteArray) := by
  induction xs with
  | nil => intro i out; rfl
  | cons x xs ih => intro i out; rw [goS, ih]; split <;> rfl
theorem goS_bad (xs : List S42) : allO xs = false → ∀ i out, goS false i out xs = (⟨#[]⟩ : ByteArray) := by
  induction xs with
  | nil => intro h; cases h
  | cons x xs ih =>
    intro h i out
    rw [goS]
    by_cases hx : isOx x
    · rw [if_pos hx]
      exact ih (by simpa [allO, hx] using h) _ _
    · rw [if_neg hx]
theorem goS_good (xs : List S42) : allO xs = true → ∀ i out, goS false (i + 1) out xs = bs (out.data.toList ++ Lib.joinTail [44, 32] (xs.map fun x => (fo x).data.toList)) := by
  induction xs with
  | nil => intro _ i out; rw [goS, if_neg (by decide)]; simp [Lib.joinTail, bs_data]
  | cons x xs ih =>
    intro h i out
    have hx : isOx x ∧ allO xs = true := by simpa [allO] using h
    rw [goS, if_pos hx.1, if_neg (by omega), ih hx.2]
    congr 1
    simp only [Lib.joinTail, List.map_cons, List.flatten_cons, ByteArray.data_append, Array.toList_append, List.append_assoc]
    rfl
theorem s_FormatProgram_l (L : List S42) (hL : L.length ≤ 2097152) (d : Nat) : ∀ (i : Nat) (out : ByteArray), i + d = min L.length 20 → out.size ≤ 200 * i →
    Ev (fun k => spec_FormatProgram.l0 k L out i) (goS (decide (20 < L.length)) i out ((L.take 20).drop i)) := by
  induction d with
  | zero =>
    intro i out hi ho
    rw [List.drop_eq_nil_of_le (by rw [List.length_take]; omega), goS]
    refine Ev.step (f := fun k => spec_FormatProgram.j1 k L out i false) (fun k => ?_) (Ev.step (f := fun _ => some _) (fun k => ?_) (Ev.now _))
    · simp only [spec_FormatProgram.l0]
      by_cases h : (i : Int) < L.length
      · rw [if_pos h, decide_eq_false (by omega)]
      · rw [if_neg h]
    · simp only [spec_FormatProgram.j1, decide_eq_true_eq]
      rw [if_neg (by decide)]
      by_cases h : 20 < L.length
      · rw [if_pos (by omega), if_pos h]
      · rw [if_neg (by omega), if_neg h]
  | succ d ih =>
    intro i out hi ho
    have hlt : i < (L.take 20).length := by rw [List.length_take]; omega
    rw [List.drop_eq_getElem_cons hlt, goS]
    have hx : (L.take 20)[i] = L[i]'(by omega) := by rw [List.getElem_take]
    rw [hx]
    have hf := s_FormatOp (L[i]'(by omega)).f0 (L[i]'(by omega)).f1 (L[i]'(by omega)).f2
    have hs := fop_size (L[i]'(by omega)).f0 (L[i]'(by omega)).f1 (L[i]'(by omega)).f2
    have hn := fo_nil (L[i]'(by omega))
    have l2 : (⟨#[44, 32]⟩ : ByteArray).size = 2 := rfl
    refine Ev.step (f := fun k => spec_FormatProgram.j1 k L out i true) (fun k => ?_) ?_
    · simp only [spec_FormatProgram.l0]
      rw [if_pos (by omega), decide_eq_true (by omega)]
    · refine Ev.step (f := fun k => (spec_FormatOp.f k (L[i]'(by omega)).f0 (L[i]'(by omega)).f1 (L[i]'(by omega)).f2).bind fun t124 => (if t124.toList = ([] : List UInt8) then (some (⟨#[]⟩ : ByteArray)) else (if (i : Int) > 0 then (if out.size + 2 ≤ 9223372036854775807 then (if (out ++ (⟨#[44, 32]⟩ : ByteArray)).size + t124.size ≤ 9223372036854775807 then (spec_FormatProgram.l0 k L ((out ++ (⟨#[44, 32]⟩ : ByteArray)) ++ t124) (wrap64 ((i : Int) + 1))) else (none)) else (none)) else (if out.size + t124.size ≤ 9223372036854775807 then (spec_FormatProgram.l0 k L (out ++ t124) (wrap64 ((i : Int) + 1))) else (none))))) (fun k => ?_) (Ev.bind hf ?_)
      · simp only [spec_FormatProgram.j1, if_true]
        rw [if_pos (by omega), if_pos (by omega), rdO_eq L i (by omega)]
      · rw [show (L[i]'(by omega) : S42) = L[i]'(by omega) from rfl] at hn
        by_cases hO : isOx (L[i]'(by omega))
        · have hne : ¬ (fop (L[i]'(by omega)).f0 (L[i]'(by omega)).f1 (L[i]'(by omega)).f2).toList = ([] : List UInt8) := fun x => hn.1 x hO
          simp only [if_neg hne, if_pos hO, w64 (x := (i : Int) + 1) (by omega) (by omega)]
          by_cases h0 : i = 0
          · subst h0
            simp only [if_neg (show ¬ ((0 : Nat) : Int) > 0 by omega), if_true]
            refine Ev_if (by omega) ?_
            exact ih 1 _ (by omega) (by simp only [ByteArray.size_append]; omega)
          · simp only [if_pos (show (i : Int) > 0 by omega), if_neg h0]
            refine Ev_if (by omega) (Ev_if (by rw [ByteArray.size_append, l2]; omega) ?_)
            exact ih (i + 1) _ (by omega) (by simp only [ByteArray.size_append, l2]; omega)
        · have he : (fop (L[i]'(by omega)).f0 (L[i]'(by omega)).f1 (L[i]'(by omega)).f2).toList = ([] : List UInt8) := hn.2 hO
          simp only [if_pos he, if_neg hO]
          exact Ev.now _
def fprog (L : List S42) : ByteArray := if L = [] then (⟨#[110, 111, 110, 101]⟩ : ByteArray) else if allO L = true ∧ L.length ≤ 20 then bs (Lib.join (L.map fun x => (fo x).data.toList) [44, 32]) else (⟨#[]⟩ : ByteArray)
theorem s_FormatProgram (L : List S42) (hL : L.length ≤ 2097152) : Ev (fun k => spec_FormatProgram.f k L) (fprog L) := by
  unfold spec_FormatProgram.f fprog
  by_cases h0 : L = []
  · subst h0
    exact Ev.congr (fun _ => rfl) (Ev.now _)
  · have hlen : L.length ≠ 0 := fun h => h0 (List.length_eq_zero_iff.1 h)
    simp only [if_neg h0, if_neg (show ¬ (L.length : Int) = 0 by omega)]
    have key := s_FormatProgram_l L hL (min L.length 20) 0 ⟨#[]⟩ (by omega) (by simp [ByteArray.size])
    have e : goS (decide (20 < L.length)) 0 ⟨#[]⟩ ((L.take 20).drop 0) = (if allO L = true ∧ L.length ≤ 20 then bs (Lib.join (L.map fun x => (fo x).data.toList) [44, 32]) else (⟨#[]⟩ : ByteArray)) := by
      rw [List.drop_zero]
      by_cases hl : 20 < L.length
      · rw [decide_eq_true hl, goS_long, if_neg (by omega)]
      · rw [decide_eq_false hl, List.take_of_length_le (by omega)]
        by_cases hg : allO L = true
        · rw [if_pos ⟨hg, by omega⟩]
          cases L with
          | nil => exact absurd rfl h0
          | cons x xs =>
            have hx : isOx x ∧ allO xs = true := by simpa [allO] using hg
            rw [goS, if_pos hx.1, if_pos rfl, goS_good xs hx.2, List.map_cons, Lib.join_cons]
            congr 2
        · rw [goS_bad L (by simpa using hg), if_neg (fun h => hg h.1)]
    rw [e] at key
    exact key

theorem eqOpS_l (l : List S42) (hl : l.length ≤ 2097152) (d : Nat) : ∀ i : Nat, i + d = l.length → Ev (fun k => laws_eqOpS.l0 k l l i) true := by
  induction d with
  | zero =>
    intro i hi
    refine Ev.step (f := fun _ => some true) (fun k => ?_) (Ev.now _)
    simp only [laws_eqOpS.l0]
    rw [if_neg (by omega)]
  | succ d ih =>
    intro i hi
    refine Ev.step (fun k => ?_) (ih (i + 1) (by omega))
    simp only [laws_eqOpS.l0, laws_eqOp.f, if_true, Option.bind_some]
    rw [if_pos (by omega), if_pos (by omega), w64 (by omega) (by omega), if_pos (by omega)]
    rfl
theorem eqOpS_refl (l : List S42) (hl : l.length ≤ 2097152) : Ev (fun k => laws_eqOpS.f k l l) true := by
  unfold laws_eqOpS.f
  simp only [if_true]
  exact eqOpS_l l hl l.length 0 (by omega)

def seqO (a : Int) (n : Nat) : List S42 := (List.range n).map fun (j : Nat) => ⟨a + 3 * (j : Int), a + 3 * (j : Int) + 1, a + 3 * (j : Int) + 2⟩
theorem seqO_len (a : Int) (n : Nat) : (seqO a n).length = n := by simp [seqO]
theorem seqO_succ (a : Int) (n : Nat) : seqO a (n + 1) = seqO a n ++ [⟨a + 3 * (n : Int), a + 3 * (n : Int) + 1, a + 3 * (n : Int) + 2⟩] := by simp [seqO, List.range_succ]
theorem rd_seqO (a : Int) (n i : Nat) (h : i < n) : rd_T42 (seqO a n) (i : Int) = ⟨a + 3 * (i : Int), a + 3 * (i : Int) + 1, a + 3 * (i : Int) + 2⟩ := by
  rw [rdO_eq _ _ (by rw [seqO_len]; exact h)]
  simp [seqO]
theorem rd_setO (l : List S42) (i : Nat) (h : i < l.length) (x : S42) : rd_T42 (l.set i x) (i : Int) = x := by
  rw [rdO_eq _ _ (by simpa using h)]
  simp
theorem markOpS_l (l : List S42) (hl : l.length ≤ 2097152) (a : Int) (h0 : 0 ≤ a) (h1 : a ≤ 4611686018427387904) (d : Nat) : ∀ i : Nat, i + d = l.length →
    Ev (fun k => laws_markOpS.l0 k (seqO a i ++ l.drop i) (a + 3 * (i : Int)) i) (a + 3 * (l.length : Int), seqO a l.length) := by
  induction d with
  | zero =>
    intro i hi
    refine Ev.step (f := fun _ => some _) (fun k => ?_) (Ev.now _)
    simp only [laws_markOpS.l0]
    rw [if_neg (by rw [List.length_append, seqO_len, List.length_drop]; omega), List.drop_eq_nil_of_le (by omega), List.append_nil, show i = l.length by omega]
  | succ d ih =>
    intro i hi
    refine Ev.step (fun k => ?_) (ih (i + 1) (by omega))
    have hlen : i < (seqO a i ++ l.drop i).length := by rw [List.length_append, seqO_len, List.length_drop]; omega
    have hst : ∀ x : S42, (seqO a i ++ l.drop i).set i x = seqO a i ++ (x :: l.drop (i + 1)) := by
      intro x
      rw [List.set_append_right _ _ (by rw [seqO_len]; omega), seqO_len, Nat.sub_self, List.drop_eq_getElem_cons (by omega), List.set_cons_zero]
    simp only [laws_markOpS.l0, Option.bind_some, show ((i : Int)).toNat = i by omega, List.set_set, rd_setO _ _ hlen]
    rw [if_pos (by rw [List.length_append, seqO_len, List.length_drop]; omega), if_pos (by omega)]
    have e1 : wrap64 (a + 3 * (i : Int) + 1) = a + 3 * (i : Int) + 1 := w64 (by omega) (by omega)
    have e2 : wrap64 (a + 3 * (i : Int) + 1 + 1) = a + 3 * (i : Int) + 2 := by rw [w64 (by omega) (by omega)]; omega
    have e4 : wrap64 (a + 3 * (i : Int) + 2 + 1) = a + 3 * ((i + 1 : Nat) : Int) := by rw [w64 (by omega) (by omega)]; omega
    have e5 : wrap64 ((i : Int) + 1) = ((i + 1 : Nat) : Int) := by rw [w64 (by omega) (by omega)]; rfl
    simp only [e1, e2, e4, e5, hst, seqO_succ, List.append_assoc]
    rfl
theorem markOpS (l : List S42) (hl : l.length ≤ 2097152) (a : Int) (h0 : 0 ≤ a) (h1 : a ≤ 4611686018427387904) : Ev (fun k => laws_markOpS.f k l a) (a + 3 * (l.length : Int), seqO a l.length) := by
  have := markOpS_l l hl a h0 h1 l.length 0 (by omega)
  simpa [laws_markOpS.f, seqO] using this
theorem heldOpS_l (n : Nat) (hl : n ≤ 2097152) (a : Int) (h0 : 0 ≤ a) (h1 : a ≤ 4611686018427387904) (d : Nat) : ∀ i : Nat, i + d = n →
    Ev (fun k => laws_heldOpS.l0 k (seqO a n) (a + 3 * (i : Int)) i) (a + 3 * (n : Int)) := by
  induction d with
  | zero =>
    intro i hi
    refine Ev.step (f := fun _ => some _) (fun k => ?_) (Ev.now _)
    simp only [laws_heldOpS.l0]
    rw [if_neg (by rw [seqO_len]; omega), show i = n by omega]
  | succ d ih =>
    intro i hi
    refine Ev.step (fun k => ?_) (ih (i + 1) (by omega))
    have e1 : wrap64 (a + 3 * (i : Int) + 1) = a + 3 * (i : Int) + 1 := w64 (by omega) (by omega)
    have e2 : wrap64 (a + 3 * (i : Int) + 1 + 1) = a + 3 * (i : Int) + 2 := by rw [w64 (by omega) (by omega)]; omega
    have e4 : wrap64 (a + 3 * (i : Int) + 2 + 1) = a + 3 * ((i + 1 : Nat) : Int) := by rw [w64 (by omega) (by omega)]; omega
    have e5 : wrap64 ((i : Int) + 1) = ((i + 1 : Nat) : Int) := by rw [w64 (by omega) (by omega)]; rfl
    simp only [laws_heldOpS.l0, rd_seqO a n i (by omega), e1, e2, e4, e5, if_true]
    rw [if_pos (by rw [seqO_len]; omega), if_pos (by omega)]
theorem heldOpS (n : Nat) (hl : n ≤ 2097152) (a : Int) (h0 : 0 ≤ a) (h1 : a ≤ 4611686018427387904) : Ev (fun k => laws_heldOpS.f k (seqO a n) a) (a + 3 * (n : Int)) := by
  have := heldOpS_l n hl a h0 h1 n 0 (by omega)
  simpa [laws_heldOpS.f] using this

def prs (s : ByteArray) : Int × Int × Int × Bool := opAns s (kd (lop s)) (sv (lop s) 1) (sv (lop s) 2)
def mk3 (r : Int × Int × Int × Bool) : S42 := ⟨r.1, r.2.1, r.2.2.1⟩
theorem i_ParseOp' (s : ByteArray) (hs : s.size ≤ 4194304) : Ev (fun k => impl_ParseOp.f k s) (prs s) := by
  have := i_ParseOp s hs
  rw [op_same s] at this
  exact this
theorem prs_fo (x : S42) (h : isOx x) : prs (fo x) = (x.f0, x.f1, x.f2, true) := by
  have hb := op_back x.f0 x.f1 x.f2 h
  have hn : fop x.f0 x.f1 x.f2 ≠ bs [] := fun e => fop_ne _ _ _ h (by rw [e]; rfl)
  unfold prs fo opAns
  rw [hb.1, hb.2.1.1, hb.2.2.1, if_neg hn, if_pos rfl]
theorem prs_ok (s : ByteArray) (h : (prs s).2.2.2 = true) : fo (mk3 (prs s)) = s ∧ isOx (mk3 (prs s)) := by
  unfold prs opAns at h ⊢
  by_cases h0 : s = bs []
  · rw [if_pos h0] at h; cases h
  · rw [if_neg h0] at h ⊢
    by_cases h1 : fop (kd (lop s)) (sv (lop s) 1) (sv (lop s) 2) = s
    · rw [if_pos h1]
      refine ⟨h1, ?_⟩
      have : isO (kd (lop s)) (sv (lop s) 1) (sv (lop s) 2) := fop_O _ _ _ (by rw [h1]; exact h0)
      exact this
    · rw [if_neg h1] at h; cases h
def tl (i : Nat) (p : ByteArray) : ByteArray := if 0 < i ∧ 0 < p.size then p.extract 1 p.size else p
def goP : Nat → List S42 → List ByteArray → Option (List S42)
  | _, out, [] => some out
  | i, out, p :: ps => if (prs (tl i p)).2.2.2 = true then goP (i + 1) (out ++ [mk3 (prs (tl i p))]) ps else none
def spR (s : ByteArray) : Option (List S42) → List S42 × Bool
  | some out => if fprog out = s then (out, true) else ([], false)
  | none => ([], false)
theorem spR_some (s : ByteArray) (out : List S42) : spR s (some out) = if fprog out = s then (out, true) else ([], false) := rfl
theorem s_ParseProgram_l (s : ByteArray) (L : List ByteArray) (hn : L.length ≤ 2097152) (hL : ∀ p ∈ L, p.size ≤ 4194304) (d : Nat) : ∀ (i : Nat) (out : List S42), i + d = L.length → out.length ≤ i →
    Ev (fun k => spec_ParseProgram.l0 k s L out i) (spR s (goP i out (L.drop i))) := by
  induction d with
  | zero =>
    intro i out hi ho
    rw [List.drop_eq_nil_of_le (by omega), goP]
    refine Ev.step (f := fun k => (spec_FormatProgram.f k out).bind fun t163 => (if t163.toList = s.toList then (some (out, true)) else (some ([], false)))) (fun k => ?_) (Ev.bind (s_FormatProgram out (by omega)) ⟨0, fun _ _ => ?_⟩)
    · simp only [spec_ParseProgram.l0]
      rw [if_neg (by omega)]
    · rw [spR_some]
      by_cases h : fprog out = s
      · rw [if_pos (toList_iff.2 h), if_pos h]
      · rw [if_neg (fun x => h (toList_iff.1 x)), if_neg h]
  | succ d ih =>
    intro i out hi ho
    have hlt : i < L.length := by omega
    have hm := hL _ (List.getElem_mem hlt)
    have hrd : rdOf ByteArray.empty L (i : Int) = L[i] := by
      unfold rdOf
      rw [show ((i : Int)).toNat = i by omega, List.getD_eq_getElem?_getD, List.getElem?_eq_getElem hlt]
      rfl
    have ihn := fun o ho => ih (i + 1) o (by omega) ho
    rw [List.drop_eq_getElem_cons hlt, goP]
    generalize L[i] = p at hm hrd
    have hq : (tl i p).size ≤ 4194304 := by
      unfold tl
      split
      · rw [ByteArray.size_extract]; omega
      · exact hm
    have fin : Ev (fun k => (spec_ParseOp.f k (tl i p)).bind fun bt => (if bt.2.2.2 = true then (if out.length < 5864062014805 then (spec_ParseProgram.l0 k s L (out ++ [(⟨bt.1, bt.2.1, bt.2.2.1⟩ : S42)]) (wrap64 ((i : Int) + 1))) else (none)) else (some ((([] : List (S42))), false)))) (spR s (if (prs (tl i p)).2.2.2 = true then goP (i + 1) (out ++ [mk3 (prs (tl i p))]) (L.drop (i + 1)) else none)) := by
      refine Ev.bind (s_ParseOp (tl i p) hq) ?_
      show Ev (fun k => if (prs (tl i p)).2.2.2 = true then _ else _) _
      by_cases h : (prs (tl i p)).2.2.2 = true
      · simp only [if_pos h, w64 (x := (i : Int) + 1) (by omega) (by omega)]
        refine Ev_if (by omega) ?_
        exact ihn _ (by simp; omega)
      · simp only [if_neg h]
        exact Ev.now _
    refine Ev.step (f := fun k => spec_ParseProgram.j1 k s L out i p (decide (0 < i ∧ 0 < p.size))) (fun k => ?_) (Ev.step (fun k => ?_) fin)
    · simp only [spec_ParseProgram.l0, hrd]
      rw [if_pos (by omega), if_pos (by omega)]
      by_cases h0 : 0 < i
      · rw [if_pos (by omega)]
        congr 1
        exact decide_eq_decide.2 (by omega)
      · rw [if_neg (by omega), decide_eq_false (by omega)]
    · simp only [spec_ParseProgram.j1, decide_eq_true_eq]
      unfold tl
      by_cases h : 0 < i ∧ 0 < p.size
      · rw [if_pos h, if_pos h, if_pos (by omega)]
      · rw [if_neg h, if_neg h]
theorem cutL_len (c : Int) (l : List UInt8) : ∀ out part, (cutL c out part l).length ≤ out.length + l.length + 1 := by
  induction l with
  | nil => intro out part; rw [cutL]; simp
  | cons b r ih =>
    intro out part
    rw [cutL]
    split
    · have := ih (out ++ [part]) (bs [])
      simp only [List.length_append, List.length_cons, List.length_nil] at this ⊢
      omega
    · have := ih out (part ++ bs [b])
      simp only [List.length_cons]
      omega
def lpr (s : ByteArray) : List ByteArray := cutL 44 [] (bs []) s.data.toList
def none4 : List UInt8 := [110, 111, 110, 101]
theorem none_iff (s : ByteArray) : s.toList = ([110, 111, 110, 101] : List UInt8) ↔ s = bs none4 := by
  rw [ByteArray.toList_eq]
  constructor
  · intro h
    rw [← bs_data s, h]
    rfl
  · intro h
    rw [h, bs_toList]
    rfl
theorem s_ParseProgram (s : ByteArray) (hs : s.size ≤ 1048576) : Ev (fun k => spec_ParseProgram.f k s) (if s = bs none4 then ([], true) else spR s (goP 0 [] (lpr s))) := by
  have hsz : s.data.toList.length = s.size := by rw [Array.length_toList]; rfl
  unfold spec_ParseProgram.f
  by_cases h : s = bs none4
  · simp only [if_pos ((none_iff s).2 h), if_pos h]
    exact Ev.now _
  · simp only [if_neg (fun x => h ((none_iff s).1 x)), if_neg h]
    refine Ev.bind (s_l2Cut s (by omega) 44) ?_
    have hlen := cutL_len 44 s.data.toList [] (bs [])
    have := s_ParseProgram_l s (lpr s) (by unfold lpr; simp only [List.length_nil] at hlen; omega) (cutL_small s (by omega) 44) (lpr s).length 0 [] (by omega) (by simp)
    rw [List.drop_zero] at this
    exact this
def goI : List S42 → List ByteArray → Option (List S42)
  | out, [] => some out
  | out, p :: ps => if (prs p).2.2.2 = true then (if out.length = 20 then none else goI (out ++ [mk3 (prs p)]) ps) else none
def imR : Option (List S42) → List S42 × Bool
  | some out => (out, true)
  | none => ([], false)
theorem i_ParseProgram_l (M : List ByteArray) (hn : M.length ≤ 2097152) (hM : ∀ p ∈ M, p.size ≤ 4194304) (d : Nat) : ∀ (i : Nat) (out : List S42), i + d = M.length → out.length ≤ i →
    Ev (fun k => impl_ParseProgram.l0 k out M (M.length : Int) i) (imR (goI out (M.drop i))) := by
  induction d with
  | zero =>
    intro i out hi ho
    rw [List.drop_eq_nil_of_le (by omega), goI]
    refine Ev.step (f := fun _ => some _) (fun k => ?_) (Ev.now _)
    simp only [impl_ParseProgram.l0]
    rw [if_neg (by omega)]
    rfl
  | succ d ih =>
    intro i out hi ho
    have hlt : i < M.length := by omega
    have hm := hM _ (List.getElem_mem hlt)
    have hrd : rdOf ByteArray.empty M (i : Int) = M[i] := by
      unfold rdOf
      rw [show ((i : Int)).toNat = i by omega, List.getD_eq_getElem?_getD, List.getElem?_eq_getElem hlt]
      rfl
    have ihn := fun o ho => ih (i + 1) o (by omega) ho
    rw [List.drop_eq_getElem_cons hlt, goI]
    generalize M[i] = p at hm hrd
    refine Ev.step (f := fun k => (impl_ParseOp.f k p).bind fun bt => (if bt.2.2.2 = true then (if (out.length : Int) = 20 then (some (([] : List (S42)), false)) else (if out.length < 5864062014805 then (impl_ParseProgram.l0 k (out ++ [(⟨bt.1, bt.2.1, bt.2.2.1⟩ : S42)]) M (M.length : Int) (wrap64 ((i : Int) + 1))) else (none))) else (some (([] : List (S42)), false)))) (fun k => ?_) (Ev.bind (i_ParseOp' p hm) ?_)
    · simp only [impl_ParseProgram.l0, hrd]
      rw [if_pos (by omega), if_pos (by omega), if_pos (by omega)]
    · by_cases h : (prs p).2.2.2 = true
      · simp only [if_pos h, w64 (x := (i : Int) + 1) (by omega) (by omega)]
        by_cases h20 : out.length = 20
        · simp only [if_pos h20, if_pos (show (out.length : Int) = 20 by omega)]
          exact Ev.now _
        · simp only [if_neg h20, if_neg (show ¬ (out.length : Int) = 20 by omega)]
          refine Ev_if (by omega) ?_
          exact ihn _ (by simp; omega)
      · simp only [if_neg h]
        exact Ev.now _

theorem occ_split (sub : List UInt8) : ∀ (l : List UInt8), Lib.index l sub = -1 ∨ ∃ D E, l = D ++ sub ++ E ∧ Lib.index l sub = (D.length : Int) := by
  intro l
  rcases Lib.index_spec l sub with ⟨h, _⟩ | ⟨i, h1, h2, h3, _⟩
  · exact .inl h
  · right
    have hp : sub <+: l.drop i := List.isPrefixOf_iff_prefix.1 h3
    obtain ⟨E, hE⟩ := hp
    refine ⟨l.take i, E, ?_, ?_⟩
    · rw [List.append_assoc, hE, List.take_append_drop]
    · rw [h1, List.length_take]
      congr 1
      omega
theorem ext_rest2 (s sub : ByteArray) (D E : List UInt8) (h : s.data.toList = D ++ sub.data.toList ++ E) : s.extract (D.length + sub.size) s.size = bs E := by
  have hsz : s.data.toList.length = s.size := by rw [Array.length_toList]; rfl
  have hsb : sub.data.toList.length = sub.size := by rw [Array.length_toList]; rfl
  apply bl_inj
  rw [bl_extract]
  unfold bl
  rw [← List.map_drop, ← List.map_take, bs_toList, ← hsz, h, ← hsb]
  congr 1
  rw [show D.length + sub.data.toList.length = (D ++ sub.data.toList).length by simp, List.drop_left]
  apply List.take_of_length_le
  simp
  omega
theorem join_cons2' (x y : List UInt8) (r : List (List UInt8)) (sep : List UInt8) : Lib.join (x :: y :: r) sep = x ++ sep ++ Lib.join (y :: r) sep := by
  rw [Lib.join_cons, Lib.join_cons, Lib.joinTail, List.map_cons, List.flatten_cons, Lib.joinTail]
  simp
def spl (sub s : ByteArray) : List ByteArray := Lib.splitB sub 0 (Lib.countB s sub) s
theorem spl_miss (sub s : ByteArray) (h : Lib.index s.data.toList sub.data.toList = -1) : spl sub s = [s] := Lib.splitB_miss _ _ _ _ h
theorem spl_hit (sub s : ByteArray) (h1 : 1 ≤ sub.size) (D E : List UInt8) (h : s.data.toList = D ++ sub.data.toList ++ E) (hi : Lib.index s.data.toList sub.data.toList = (D.length : Int)) : spl sub s = bs D :: spl sub (bs E) := by
  have hr := ext_rest2 s sub D E h
  unfold spl
  rw [Lib.countB_hit s sub D.length h1 hi, Nat.add_comm 1, Lib.splitB_hit _ _ _ _ _ hi, hr, ext_of s D (sub.data.toList ++ E) (by rw [h, List.append_assoc])]
theorem spl_ne (sub s : ByteArray) : spl sub s ≠ [] := by
  unfold spl
  cases hk : Lib.countB s sub with
  | zero => rw [Lib.splitB_zero]; simp
  | succ k => unfold Lib.splitB; split <;> simp
theorem join_spl (sub : ByteArray) (h1 : 1 ≤ sub.size) (n : Nat) : ∀ s : ByteArray, s.size ≤ n → Lib.join ((spl sub s).map (·.data.toList)) sub.data.toList = s.data.toList := by
  have hsb : sub.data.toList.length = sub.size := by rw [Array.length_toList]; rfl
  induction n with
  | zero =>
    intro s hs
    have hsz : s.data.toList.length = s.size := by rw [Array.length_toList]; rfl
    rcases occ_split sub.data.toList s.data.toList with h | ⟨D, E, h, hi⟩
    · rw [spl_miss _ _ h, List.map_cons, List.map_nil, Lib.join_one]
    · exfalso
      have := congrArg List.length h
      simp only [List.length_append] at this
      omega
  | succ n ih =>
    intro s hs
    have hsz : s.data.toList.length = s.size := by rw [Array.length_toList]; rfl
    rcases occ_split sub.data.toList s.data.toList with h | ⟨D, E, h, hi⟩
    · rw [spl_miss _ _ h, List.map_cons, List.map_nil, Lib.join_one]
    · have hl := congrArg List.length h
      simp only [List.length_append] at hl
      have ihE := ih (bs E) (by rw [bs_size]; omega)
      rw [spl_hit sub s h1 D E h hi, List.map_cons, bs_toList]
      cases hc : spl sub (bs E) with
      | nil => exact absurd hc (spl_ne _ _)
      | cons y r =>
        rw [hc] at ihE
        rw [List.map_cons] at ihE ⊢
        rw [join_cons2', ihE, bs_toList, h]
theorem spl_small (sub : ByteArray) (h1 : 1 ≤ sub.size) (n : Nat) : ∀ s : ByteArray, s.size ≤ n → (spl sub s).length ≤ s.size + 1 ∧ ∀ p ∈ spl sub s, p.size ≤ s.size := by
  have hsb : sub.data.toList.length = sub.size := by rw [Array.length_toList]; rfl
  induction n with
  | zero =>
    intro s hs
    have hsz : s.data.toList.length = s.size := by rw [Array.length_toList]; rfl
    rcases occ_split sub.data.toList s.data.toList with h | ⟨D, E, h, hi⟩
    · rw [spl_miss _ _ h]
      exact ⟨by simp, fun p hp => by rw [List.mem_singleton] at hp; rw [hp]; exact Nat.le_refl _⟩
    · exfalso
      have := congrArg List.length h
      simp only [List.length_append] at this
      omega
  | succ n ih =>
    intro s hs
    have hsz : s.data.toList.length = s.size := by rw [Array.length_toList]; rfl
    rcases occ_split sub.data.toList s.data.toList with h | ⟨D, E, h, hi⟩
    · rw [spl_miss _ _ h]
      exact ⟨by simp, fun p hp => by rw [List.mem_singleton] at hp; rw [hp]; exact Nat.le_refl _⟩
    · have hl := congrArg List.length h
      simp only [List.length_append] at hl
      have ihE := ih (bs E) (by rw [bs_size]; omega)
      rw [bs_size] at ihE
      rw [spl_hit sub s h1 D E h hi]
      refine ⟨by rw [List.length_cons]; omega, fun p hp => ?_⟩
      rcases List.mem_cons.1 hp with rfl | hp
      · rw [bs_size]; omega
      · have := ihE.2 p hp
        omega
theorem i_SplitN (s sub : ByteArray) (hs : s.size ≤ 4194304) (h1 : 1 ≤ sub.size) : strings_Split.f s sub = some (spl sub s) := by
  have h2 := Lib.countB_le sub h1 s.size s (Nat.le_refl _)
  unfold strings_Split.f
  rw [if_pos ⟨by omega, h1, Lib.splitB_all sub h1 0 _ s rfl, by omega⟩]
  rfl
theorem index_two_none (u v : UInt8) (l : List UInt8) (h : ∀ b ∈ l, b ≠ u) : Lib.index l [u, v] = -1 := by
  induction l with
  | nil => rfl
  | cons b r ih =>
    have hb : b ≠ u := h b (by simp)
    rw [Lib.index, if_neg (by simp; exact fun x => absurd x.symm hb), ih (fun x hx => h x (by simp [hx])), if_pos (by simp)]
theorem index_two_at (u v : UInt8) (D E : List UInt8) (h : ∀ b ∈ D, b ≠ u) : Lib.index (D ++ u :: v :: E) [u, v] = (D.length : Int) := by
  induction D with
  | nil => rw [List.nil_append, Lib.index, if_pos (by simp)]; rfl
  | cons b D ih =>
    have hb : b ≠ u := h b (by simp)
    rw [List.cons_append, Lib.index, if_neg (by simp; exact fun x => absurd x.symm hb), ih (fun x hx => h x (by simp [hx])), if_neg (by simp <;> omega)]
    simp
theorem spl_join (u v : UInt8) : ∀ (x : List UInt8) (r : List (List UInt8)), (∀ p ∈ x :: r, ∀ b ∈ p, b ≠ u) → spl (bs [u, v]) (bs (Lib.join (x :: r) [u, v])) = (x :: r).map bs := by
  intro x r
  induction r generalizing x with
  | nil =>
    intro h
    rw [Lib.join_one, spl_miss _ _ (by rw [bs_toList, bs_toList]; exact index_two_none u v x (h x (by simp)))]
    rfl
  | cons y r ih =>
    intro h
    rw [join_cons2', spl_hit (bs [u, v]) _ (by rw [bs_size]; simp) x (Lib.join (y :: r) [u, v]) (by rw [bs_toList, bs_toList]) (by rw [bs_toList, bs_toList, List.append_assoc]; exact index_two_at u v x _ (h x (by simp))), ih y (fun p hp => h p (by simp [hp]))]
    rfl
theorem cut_join (u v : UInt8) (c : Int) (hu : (u.toNat : Int) = c) (hv : (v.toNat : Int) ≠ c) : ∀ (r : List (List UInt8)) (x : List UInt8), (∀ p ∈ x :: r, ∀ b ∈ p, (b.toNat : Int) ≠ c) → cutL c [] (bs []) (Lib.join (x :: r) [u, v]) = bs x :: r.map fun p => bs (v :: p) := by
  intro r
  induction r with
  | nil =>
    intro x h
    rw [Lib.join_one, cutL_end c x (h x (by simp))]
    rfl
  | cons y r ih =>
    intro x h
    rw [join_cons2', List.append_assoc, List.cons_append, List.cons_append, List.nil_append, cutL_step u c hu x _ (h x (by simp))]
    have e : v :: Lib.join (y :: r) [u, v] = Lib.join ((v :: y) :: r) [u, v] := by rw [Lib.join_cons, Lib.join_cons]; rfl
    rw [e, ih (v :: y) (fun p hp => by
      rcases List.mem_cons.1 hp with rfl | hp
      · intro b hb
        rcases List.mem_cons.1 hb with rfl | hb
        · exact hv
        · exact h y (by simp) b hb
      · exact h p (by simp [hp]))]
    rfl

def sepB : ByteArray := bs [44, 32]
def fbs (x : S42) : List UInt8 := (fo x).data.toList
theorem fbs_nd (x : S42) (h : isOx x) : ∀ b ∈ fbs x, (b.toNat : Int) ≠ 44 := by
  have h' : isO x.f0 x.f1 x.f2 := h
  have hw : ∀ i : Fin 6, ∀ b ∈ (opW[i.val]).data.toList, (b.toNat : Int) ≠ 44 := by decide +kernel
  have hd : ∀ m : Nat, ∀ b ∈ Lib.decDigits m, (b.toNat : Int) ≠ 44 := by
    intro m b hb
    have := decD_digit m b hb
    omega
  have h32 : ∀ b ∈ (⟨#[32]⟩ : ByteArray).data.toList, (b.toNat : Int) ≠ 44 := by decide
  unfold fbs fo fop
  rw [if_pos h']
  unfold isO at h'
  generalize x.f0 = a, x.f1 = b, x.f2 = c at h'
  rcases h' with ⟨h1, rfl, rfl⟩ | ⟨rfl, hb, rfl⟩ | ⟨rfl, hb, hc⟩
  · rcases h1 with rfl | rfl | rfl
    · exact hw 1
    · exact hw 4
    · exact hw 5
  · rw [if_pos rfl, dec_pos b (by omega), ByteArray.data_append, Array.toList_append, bs_toList, ByteArray.data_append, Array.toList_append]
    intro u hu
    rcases List.mem_append.1 hu with hu | hu
    · rcases List.mem_append.1 hu with hu | hu
      · exact hw 2 u hu
      · exact h32 u hu
    · exact hd _ u hu
  · rw [if_neg (by decide), if_pos rfl, dec_pos b (by omega), dec_pos c (by omega), ByteArray.data_append, Array.toList_append, bs_toList, ByteArray.data_append, Array.toList_append, ByteArray.data_append, Array.toList_append, bs_toList, ByteArray.data_append, Array.toList_append]
    intro u hu
    rcases List.mem_append.1 hu with hu | hu
    · rcases List.mem_append.1 hu with hu | hu
      · rcases List.mem_append.1 hu with hu | hu
        · rcases List.mem_append.1 hu with hu | hu
          · exact hw 3 u hu
          · exact h32 u hu
        · exact hd _ u hu
      · exact h32 u hu
    · exact hd _ u hu
theorem allO_mem (os : List S42) : allO os = true → ∀ x ∈ os, isOx x := by
  induction os with
  | nil => intro _ _ h; cases h
  | cons y os ih =>
    intro h x hx
    have h2 : isOx y ∧ allO os = true := by simpa [allO] using h
    rcases List.mem_cons.1 hx with rfl | hx
    · exact h2.1
    · exact ih h2.2 x hx
theorem goI_spec (M : List ByteArray) : ∀ (acc out : List S42), acc.length ≤ 20 → goI acc M = some out → ∃ os, out = acc ++ os ∧ M = os.map fo ∧ allO os = true ∧ out.length ≤ 20 := by
  induction M with
  | nil =>
    intro acc out ha h
    rw [goI] at h
    injection h with h
    subst h
    exact ⟨[], by simp, rfl, rfl, ha⟩
  | cons p M ih =>
    intro acc out ha h
    rw [goI] at h
    by_cases h1 : (prs p).2.2.2 = true
    · rw [if_pos h1] at h
      by_cases h2 : acc.length = 20
      · rw [if_pos h2] at h; cases h
      · rw [if_neg h2] at h
        obtain ⟨os, e1, e2, e3, e4⟩ := ih _ out (by simp; omega) h
        have hp := prs_ok p h1
        refine ⟨mk3 (prs p) :: os, by rw [e1]; simp, by rw [List.map_cons, hp.1, ← e2], ?_, e4⟩
        rw [allO, decide_eq_true hp.2, e3]
        rfl
    · rw [if_neg h1] at h; cases h
theorem goI_back (os : List S42) : ∀ acc : List S42, allO os = true → acc.length + os.length ≤ 20 → goI acc (os.map fo) = some (acc ++ os) := by
  induction os with
  | nil => intro acc _ _; rw [List.map_nil, goI, List.append_nil]
  | cons x os ih =>
    intro acc h hl
    have hx : isOx x ∧ allO os = true := by simpa [allO] using h
    rw [List.length_cons] at hl
    rw [List.map_cons, goI, prs_fo x hx.1, if_pos rfl, if_neg (by omega)]
    have e : mk3 (x.f0, x.f1, x.f2, true) = x := rfl
    rw [e, ih (acc ++ [x]) hx.2 (by simp; omega)]
    simp
theorem tl_sp (i : Nat) (h : 0 < i) (x : S42) : tl i (bs (32 :: fbs x)) = fo x := by
  unfold tl
  rw [if_pos ⟨h, by rw [bs_size]; simp⟩]
  have hsz : (fbs x).length = (fo x).size := by unfold fbs; rw [Array.length_toList]; rfl
  apply bl_inj
  rw [bl_extract, bs_size]
  unfold bl
  rw [bs_toList, List.map_cons, List.drop_succ_cons, List.drop_zero, List.length_cons]
  apply List.take_of_length_le
  simp
theorem goP_back (os : List S42) : ∀ (i : Nat) (acc : List S42), 0 < i → allO os = true → goP i acc (os.map fun x => bs (32 :: fbs x)) = some (acc ++ os) := by
  induction os with
  | nil => intro i acc _ _; rw [List.map_nil, goP, List.append_nil]
  | cons x os ih =>
    intro i acc hi h
    have hx : isOx x ∧ allO os = true := by simpa [allO] using h
    rw [List.map_cons, goP, tl_sp i hi x, prs_fo x hx.1, if_pos rfl]
    have e : mk3 (x.f0, x.f1, x.f2, true) = x := rfl
    rw [e, ih (i + 1) (acc ++ [x]) (by omega) hx.2]
    simp
theorem fprog_good (os : List S42) (h : os ≠ []) (h1 : allO os = true) (h2 : os.length ≤ 20) : fprog os = bs (Lib.join (os.map fbs) [44, 32]) := by
  unfold fprog
  rw [if_neg h, if_pos ⟨h1, h2⟩]
  rfl
theorem cut_good (os : List S42) (h : os ≠ []) (h1 : allO os = true) : goP 0 [] (cutL 44 [] (bs []) (Lib.join (os.map fbs) [44, 32])) = some os := by
  cases os with
  | nil => exact absurd rfl h
  | cons x os =>
    have hx : isOx x ∧ allO os = true := by simpa [allO] using h1
    rw [List.map_cons, cut_join 44 32 44 (by decide) (by decide) (os.map fbs) (fbs x) (fun p hp => by
      rcases List.mem_cons.1 hp with rfl | hp
      · exact fbs_nd x hx.1
      · obtain ⟨y, hy, rfl⟩ := List.mem_map.1 hp
        exact fbs_nd y (allO_mem os hx.2 y hy)), goP]
    have e0 : tl 0 (bs (fbs x)) = fo x := by
      unfold tl
      rw [if_neg (by omega)]
      exact bs_data _
    have e : mk3 (x.f0, x.f1, x.f2, true) = x := rfl
    rw [e0, prs_fo x hx.1, if_pos rfl, e, List.map_map]
    have := goP_back os 1 [x] (by omega) hx.2
    exact this
theorem pp_same (s : ByteArray) (hn : s ≠ bs none4) : imR (goI [] (spl sepB s)) = spR s (goP 0 [] (lpr s)) := by
  have hj := join_spl sepB (by decide) s.size s (Nat.le_refl _)
  cases hI : goI [] (spl sepB s) with
  | some out =>
    obtain ⟨os, e1, e2, e3, e4⟩ := goI_spec _ [] out (by simp) hI
    rw [List.nil_append] at e1
    subst e1
    have hne : out ≠ [] := by
      intro h
      rw [h] at e2
      exact spl_ne _ _ e2
    have hs : bs (Lib.join (out.map fbs) [44, 32]) = s := by
      rw [e2, List.map_map] at hj
      have hj2 : Lib.join (out.map fbs) [44, 32] = s.data.toList := hj
      rw [hj2, bs_data]
    have hc : lpr s = cutL 44 [] (bs []) (Lib.join (out.map fbs) [44, 32]) := by
      unfold lpr
      rw [← hs, bs_toList]
    rw [hc, cut_good out hne e3]
    rw [spR_some, if_pos ((fprog_good out hne e3 e4).trans hs)]
    rfl
  | none =>
    unfold imR
    cases hP : goP 0 [] (lpr s) with
    | none => rfl
    | some out =>
      rw [spR_some]
      by_cases hf : fprog out = s
      · exfalso
        by_cases h0 : out = []
        · subst h0
          exact hn (hf.symm.trans rfl)
        · by_cases hg : allO out = true ∧ out.length ≤ 20
          · have hs := fprog_good out h0 hg.1 hg.2
            rw [hf] at hs
            have hm : spl sepB s = out.map fo := by
              rw [hs]
              cases out with
              | nil => exact absurd rfl h0
              | cons x os =>
                rw [List.map_cons]
                have := spl_join 44 32 (fbs x) (os.map fbs) (fun p hp b hb hb2 => by
                  have hq : ∀ p ∈ fbs x :: os.map fbs, ∀ b ∈ p, (b.toNat : Int) ≠ 44 := by
                    intro p hp
                    rcases List.mem_cons.1 hp with rfl | hp
                    · exact fbs_nd x (allO_mem _ hg.1 x (by simp))
                    · obtain ⟨y, hy, rfl⟩ := List.mem_map.1 hp
                      exact fbs_nd y (allO_mem _ hg.1 y (by simp [hy]))
                  exact hq p hp b hb (by rw [hb2]; rfl))
                unfold sepB
                rw [this, List.map_cons, List.map_map, List.map_cons]
                have e5 : bs (fbs x) = fo x := bs_data _
                have e6 : os.map (bs ∘ fbs) = os.map fo := List.map_congr_left (fun y _ => bs_data _)
                rw [e5, e6]
            rw [hm, goI_back out [] hg.1 (by simpa using hg.2)] at hI
            cases hI
          · have hs : s = bs [] := by
              rw [← hf]
              unfold fprog
              rw [if_neg h0, if_neg hg]
              rfl
            rw [hs] at hP
            have : goP 0 [] (lpr (bs [])) = none := by decide +kernel
            rw [this] at hP
            cases hP
      · rw [if_neg hf]
theorem i_ParseProgram (s : ByteArray) (hs : s.size ≤ 1048576) : Ev (fun k => impl_ParseProgram.f k s) (if s = bs none4 then ([], true) else spR s (goP 0 [] (lpr s))) := by
  unfold impl_ParseProgram.f
  by_cases h : s = bs none4
  · simp only [if_pos ((none_iff s).2 h), if_pos h]
    exact Ev.now _
  · simp only [if_neg (fun x => h ((none_iff s).1 x)), if_neg h]
    have hsp : strings_Split.f s (⟨#[44, 32]⟩ : ByteArray) = some (spl sepB s) := i_SplitN s sepB (by omega) (by decide)
    have hz := spl_small sepB (by decide) s.size s (Nat.le_refl _)
    simp only [hsp, Option.bind_some]
    rw [← pp_same s h]
    have := i_ParseProgram_l (spl sepB s) (by omega) (fun p hp => by have := hz.2 p hp; omega) (spl sepB s).length 0 [] (by omega) (by simp)
    rw [List.drop_zero] at this
    exact this
theorem goP_len (L : List ByteArray) : ∀ (i : Nat) (acc out : List S42), goP i acc L = some out → out.length = acc.length + L.length := by
  induction L with
  | nil =>
    intro i acc out h
    rw [goP] at h
    injection h with h
    subst h
    simp
  | cons p L ih =>
    intro i acc out h
    rw [goP] at h
    by_cases h1 : (prs (tl i p)).2.2.2 = true
    · rw [if_pos h1] at h
      have := ih _ _ _ h
      simp only [List.length_append, List.length_cons, List.length_nil] at this ⊢
      omega
    · rw [if_neg h1] at h; cases h
theorem res_len (s : ByteArray) (hs : s.size ≤ 1048576) : (if s = bs none4 then (([] : List S42), true) else spR s (goP 0 [] (lpr s))).1.length ≤ 2097152 := by
  have hsz : s.data.toList.length = s.size := by rw [Array.length_toList]; rfl
  by_cases h : s = bs none4
  · rw [if_pos h]; simp
  · rw [if_neg h]
    cases hP : goP 0 [] (lpr s) with
    | none => unfold spR; simp
    | some out =>
      have h1 := goP_len _ _ _ _ hP
      have h2 := cutL_len 44 s.data.toList [] (bs [])
      unfold lpr at h1
      simp only [List.length_nil] at h1 h2
      rw [spR_some]
      by_cases h3 : fprog out = s
      · rw [if_pos h3]
        show out.length ≤ 2097152
        omega
      · rw [if_neg h3]
        simp
theorem FnExactParseProgram : laws_FnExactParseProgram.Pure := by
  intro s _
  by_cases h : (s.size : Int) > 1048576
  · exact ⟨0, by unfold laws_FnExactParseProgram.f; rw [if_pos h]⟩
  · unfold laws_FnExactParseProgram.f
    simp only [if_neg h]
    have hs := s_ParseProgram s (by omega)
    have hi := i_ParseProgram s (by omega)
    have hl := res_len s (by omega)
    generalize (if s = bs none4 then (([] : List S42), true) else spR s (goP 0 [] (lpr s))) = R at hs hi hl
    refine (Ev.bind hs ?_).rounds
    refine Ev.bind hi ?_
    refine Ev.bind (eqOpS_refl R.1 hl) ?_
    simp only [if_true, bne_self_eq_false]
    have e1 := markOpS R.1 hl 1 (by omega) (by omega)
    have e2 := heldOpS R.1.length hl 1 (by omega) (by omega)
    have j1 : Ev (fun k => laws_FnExactParseProgram.j1 k (seqO 1 R.1.length) (1 + 3 * (R.1.length : Int)) false) true := by
      refine Ev.step (f := fun k => (laws_heldOpS.f k (seqO 1 R.1.length) 1).bind fun t268 => (if t268 < 0 then (some false) else (if t268 = 1 + 3 * (R.1.length : Int) then (some true) else (some false)))) (fun k => ?_) (Ev.bind e2 ⟨0, fun _ _ => ?_⟩)
      · simp only [laws_FnExactParseProgram.j1]
        rw [if_neg (by decide)]
      · rw [if_neg (by omega), if_pos rfl]
    refine Ev.step (f := fun k => (laws_markOpS.f k R.1 1).bind fun bt260 => ((laws_heldOpS.f k bt260.2 1).bind fun t262 => (if t262 < 0 then (some false) else (if t262 = bt260.1 then ((impl_ParseProgram.f k s).bind fun bt263 => ((laws_eqOpS.f k bt263.1 R.1).bind fun t267 => (if t267 = true then (laws_FnExactParseProgram.j1 k bt260.2 bt260.1 (bt263.2 != R.2)) else (laws_FnExactParseProgram.j1 k bt260.2 bt260.1 true)))) else (some false))))) (fun k => ?_) (Ev.bind e1 ?_)
    · simp only [laws_FnExactParseProgram.j0]
      rw [if_neg (by decide)]
    · refine Ev.bind e2 ?_
      simp only [if_neg (show ¬ 1 + 3 * (R.1.length : Int) < 0 by omega), if_true]
      refine Ev.bind hi ?_
      refine Ev.bind (eqOpS_refl R.1 hl) ?_
      simp only [if_true, bne_self_eq_false]
      exact j1

end Go.Proofs.YtbenihcaleiacabDoor.Pure
