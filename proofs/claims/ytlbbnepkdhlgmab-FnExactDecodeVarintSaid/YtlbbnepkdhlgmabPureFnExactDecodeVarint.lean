/- The pure side of FnExactDecodeVarint: the program's DecodeVarint answers what the reference's does, for every string (the law itself answers true past 1048576 bytes). No condition. -/
import Derived.Test.YtlbbnepkdhlgmabPFnExactDecodeVarintx2
import Derived.OpenShut
import Derived.Laws.BitsLemmas
set_option linter.unusedVariables false
set_option linter.unusedSimpArgs false
namespace Go.Proofs.Ytlbbnepkdhlgmab.Pure
open Go.RowKit Go.Proofs.Ytlbbnepkdhlgmab.PFnExactDecodeVarint Go.Proofs.YtlbbnepkdhlgmabW.PrintWords Go.Proofs.YtlbbnepkdhlgmabW.PrintLast

theorem w64 {x : Int} (h : -9223372036854775808 ≤ x) (h' : x ≤ 9223372036854775807) : wrap64 x = x := by unfold wrap64; omega
theorem tdiv_pos {x y : Int} (h : 0 ≤ x) : Int.tdiv x y = x / y := Int.tdiv_eq_ediv_of_nonneg h
theorem tmod_pos {x y : Int} (h : 0 ≤ x) : Int.tmod x y = x % y := Int.tmod_eq_emod_of_nonneg h
theorem eq_strs {g w : Option ByteArray} {r : ByteArray} (h1 : w = some r) (h2 : g = some r) : (w.bind fun t => g.bind fun u => if u.toList = t.toList then some true else some false) = some true := by
  subst h1; subst h2; simp
theorem eq_ints {g w : Option Int} {r : Int} (h1 : w = some r) (h2 : g = some r) : (w.bind fun t => g.bind fun u => if u = t then some true else some false) = some true := by
  subst h1; subst h2; simp
theorem eq_bools {g w : Option Bool} {r : Bool} (h1 : w = some r) (h2 : g = some r) : (w.bind fun t => g.bind fun u => if (u != t) = true then some false else some true) = some true := by
  subst h1; subst h2; simp
theorem ev_strs {g w : Nat → Option ByteArray} {r : ByteArray} (h1 : Ev w r) (h2 : Ev g r) : ∃ k, ((w k).bind fun t => (g k).bind fun u => if u.toList = t.toList then some true else some false) = some true := by
  obtain ⟨K, h1⟩ := h1
  obtain ⟨L, h2⟩ := h2
  exact ⟨max K L, eq_strs (h1 _ (by omega)) (h2 _ (by omega))⟩
theorem ev2 {α β : Type} {g : Nat → Option α} {f : Nat → Option β} {a : α} {b : β} {F : α → β → Option Bool} (hg : Ev g a) (hf : Ev f b) (h : F a b = some true) : ∃ k, ((g k).bind fun t => (f k).bind fun u => F t u) = some true :=
  (Ev.bind hg (Ev.bind hf ⟨0, fun _ _ => h⟩)).rounds
theorem rd_eq (l : List Int) (i : Nat) (h : i < l.length) : rd l (i : Int) = l[i] := by
  unfold rd
  rw [show ((i : Int)).toNat = i by omega, List.getD_eq_getElem?_getD, List.getElem?_eq_getElem h]
  rfl

theorem l1In_ (x a b : Int) : spec_l1In.f x a b = some (decide (a ≤ x ∧ x ≤ b)) := by
  unfold spec_l1In.f
  by_cases h : a ≤ x <;> simp [h]

theorem or_128 (y : Int) (h0 : 0 ≤ y) (h1 : y < 256) : Go.bits .or .u8 y 128 = 128 + y % 128 := by
  have h : ∀ n : Fin 256, Go.bits .or .u8 ((n.val : Nat) : Int) 128 = 128 + ((n.val : Nat) : Int) % 128 := by decide +kernel
  have := h ⟨y.toNat, by omega⟩
  rwa [show (((⟨y.toNat, by omega⟩ : Fin 256).val : Nat) : Int) = y by simp; omega] at this
def vencA : Nat → Int → List Int
  | 0, x => [x]
  | f + 1, x => if 128 ≤ x then (128 + x % 128) :: vencA f (x / 128) else [x]
theorem s_EncodeVarint_l (f : Nat) : ∀ (x : Int) (out : List Int), 0 ≤ x → x < ((128 ^ (f + 1) : Nat) : Int) → x ≤ 562949953421311 → out.length + f ≤ 100 →
    Ev (fun k => spec_EncodeVarint.l0 k x out) (strOfNums (out ++ vencA f x)) := by
  induction f with
  | zero =>
    intro x out h0 h1 h2 ho
    refine Ev.step (f := fun _ => some (strOfNums (out ++ [x]))) (fun k => ?_) (Ev.now _)
    simp only [spec_EncodeVarint.l0]
    rw [if_neg (by omega), if_pos (by omega), show x % 256 = x by omega]
  | succ f ih =>
    intro x out h0 h1 h2 ho
    by_cases h : 128 ≤ x
    · rw [Nat.pow_succ] at h1
      have := ih (x / 128) (out ++ [128 + x % 128]) (by omega) (by omega) (by omega) (by simp; omega)
      rw [List.append_assoc] at this
      rw [vencA, if_pos h]
      refine Ev.step (fun k => ?_) this
      simp only [spec_EncodeVarint.l0]
      rw [if_pos h, if_pos (by omega), tdiv_pos h0, tmod_pos h0, w64 (by omega) (by omega), w64 (by omega) (by omega), show (128 + x % 128) % 256 = 128 + x % 128 by omega]
    · rw [vencA, if_neg h]
      refine Ev.step (f := fun _ => some (strOfNums (out ++ [x]))) (fun k => ?_) (Ev.now _)
      simp only [spec_EncodeVarint.l0]
      rw [if_neg h, if_pos (by omega), show x % 256 = x by omega]
theorem i_EncodeVarint_l (f : Nat) : ∀ (x : Int) (out : List Int), 0 ≤ x → x < ((128 ^ (f + 1) : Nat) : Int) → x ≤ 562949953421311 → out.length + f ≤ 100 →
    Ev (fun k => impl_EncodeVarint.l0 k x out) (strOfNums (out ++ vencA f x)) := by
  induction f with
  | zero =>
    intro x out h0 h1 h2 ho
    refine Ev.step (f := fun _ => some (strOfNums (out ++ [x]))) (fun k => ?_) (Ev.now _)
    simp only [impl_EncodeVarint.l0]
    rw [if_neg (by omega), if_pos (by omega), show x % 256 = x by omega]
  | succ f ih =>
    intro x out h0 h1 h2 ho
    by_cases h : 128 ≤ x
    · rw [Nat.pow_succ] at h1
      have := ih (x / 128) (out ++ [128 + x % 128]) (by omega) (by omega) (by omega) (by simp; omega)
      rw [List.append_assoc] at this
      rw [vencA, if_pos h]
      refine Ev.step (fun k => ?_) this
      simp only [impl_EncodeVarint.l0]
      rw [if_pos h, if_pos (by omega), or_128 _ (by omega) (by omega), show x % 256 % 128 = x % 128 by omega]
    · rw [vencA, if_neg h]
      refine Ev.step (f := fun _ => some (strOfNums (out ++ [x]))) (fun k => ?_) (Ev.now _)
      simp only [impl_EncodeVarint.l0]
      rw [if_neg h, if_pos (by omega), show x % 256 = x by omega]
def venc (x : Int) : ByteArray := if 0 ≤ x ∧ x ≤ 562949953421311 then strOfNums (vencA 6 x) else ⟨#[]⟩
theorem s_EncodeVarint (x : Int) : Ev (fun k => spec_EncodeVarint.f k x) (venc x) := by
  unfold spec_EncodeVarint.f venc
  simp only [l1In_, Option.bind_some, decide_eq_true_eq]
  by_cases h : 0 ≤ x ∧ x ≤ 562949953421311
  · simp only [if_pos h]
    exact s_EncodeVarint_l 6 x [] h.1 (by omega) h.2 (by simp)
  · simp only [if_neg h]
    exact Ev.now _
theorem i_EncodeVarint (x : Int) : Ev (fun k => impl_EncodeVarint.f k x) (venc x) := by
  unfold impl_EncodeVarint.f venc
  by_cases h1 : x < 0
  · simp only [if_pos h1]
    rw [if_neg (by omega)]
    refine Ev.step (f := fun _ => some _) (fun k => ?_) (Ev.now _)
    simp only [impl_EncodeVarint.j0, if_true]
  · simp only [if_neg h1]
    by_cases h : x ≤ 562949953421311
    · rw [if_pos ⟨by omega, h⟩]
      refine Ev.step (fun k => ?_) (i_EncodeVarint_l 6 x [] (by omega) (by omega) h (by simp))
      simp only [impl_EncodeVarint.j0, decide_eq_true_eq]
      rw [if_neg (by omega)]
    · rw [if_neg (by omega)]
      refine Ev.step (f := fun _ => some _) (fun k => ?_) (Ev.now _)
      simp only [impl_EncodeVarint.j0, decide_eq_true_eq]
      rw [if_pos (by omega)]

theorem strOfNums_nil : strOfNums [] = ByteArray.empty := rfl
theorem strOfNums_append (xs ys : List Int) : strOfNums (xs ++ ys) = strOfNums xs ++ strOfNums ys := by
  apply ByteArray.ext
  rw [ByteArray.data_append]
  simp [strOfNums]
theorem app_nil (s : ByteArray) : s ++ (⟨#[]⟩ : ByteArray) = s := ByteArray.append_empty

def bl (s : ByteArray) : List Int := s.data.toList.map fun b => (b.toNat : Int)
theorem bl_length (s : ByteArray) : (bl s).length = s.size := by
  unfold bl
  rw [List.length_map, Array.length_toList]
  rfl
theorem bl_append (a b : ByteArray) : bl (a ++ b) = bl a ++ bl b := by simp [bl]
theorem bl_nil : bl ⟨#[]⟩ = [] := rfl
theorem bl_range (s : ByteArray) : ∀ x ∈ bl s, 0 ≤ x ∧ x ≤ 255 := by
  intro x hx
  obtain ⟨b, _, rfl⟩ := List.mem_map.1 hx
  have := b.toNat_lt
  omega
theorem strOfNums_bl (s : ByteArray) : strOfNums (bl s) = s := by
  apply ByteArray.ext
  unfold strOfNums bl
  rw [List.map_map]
  have e : ((fun n : Int => UInt8.ofNat n.toNat) ∘ fun b : UInt8 => (b.toNat : Int)) = id := by
    funext b
    simp
  rw [e, List.map_id]
theorem bl_inj {a b : ByteArray} (h : bl a = bl b) : a = b := by rw [← strOfNums_bl a, ← strOfNums_bl b, h]
theorem bl_strOfNums (xs : List Int) (h : ∀ x ∈ xs, 0 ≤ x ∧ x ≤ 255) : bl (strOfNums xs) = xs := by
  unfold bl strOfNums
  rw [List.map_map]
  conv => rhs; rw [← List.map_id xs]
  apply List.map_congr_left
  intro x hx
  have := h x hx
  simp only [Function.comp, id, UInt8.toNat_ofNat']
  omega
theorem bl_extract0 (s : ByteArray) (k : Nat) : bl (s.extract 0 k) = (bl s).take k := by
  simp [bl, ByteArray.data_extract, Array.toList_extract, List.extract_eq_take_drop]
theorem bl_extract (s : ByteArray) (i j : Nat) : bl (s.extract i j) = ((bl s).drop i).take (j - i) := by
  simp [bl, ByteArray.data_extract, Array.toList_extract, List.extract_eq_take_drop]
theorem bt_bl (s : ByteArray) (i : Int) : bt s i = (bl s).getD i.toNat 0 := by
  unfold bt bl
  by_cases h : i.toNat < s.size
  · rw [dif_pos h, List.getD_eq_getElem?_getD, List.getElem?_map, List.getElem?_eq_getElem (show i.toNat < s.data.toList.length by rw [Array.length_toList]; exact h)]
    rfl
  · rw [dif_neg h, List.getD_eq_getElem?_getD, List.getElem?_eq_none (by rw [List.length_map, Array.length_toList]; exact Nat.le_of_not_lt h)]
    rfl
theorem toList_iff {a b : ByteArray} : a.toList = b.toList ↔ a = b := by
  constructor
  · intro h
    rw [ByteArray.toList_eq, ByteArray.toList_eq] at h
    apply ByteArray.ext
    exact Array.toList_inj.1 h
  · intro h
    rw [h]

def accV (s : List Int) : Nat → Nat → Int
  | _, 0 => 0
  | i, d + 1 => s.getD i 0 % 128 + 128 * accV s (i + 1) d
theorem accV_lt (s : List Int) (d : Nat) : ∀ i, 0 ≤ accV s i d ∧ accV s i d < ((128 ^ d : Nat) : Int) := by
  induction d with
  | zero => intro i; simp [accV]
  | succ d ih =>
    intro i
    have := ih (i + 1)
    rw [accV, Nat.pow_succ]
    omega
theorem accV_snoc (s : List Int) (d : Nat) : ∀ i, accV s i (d + 1) = accV s i d + s.getD (i + d) 0 % 128 * ((128 ^ d : Nat) : Int) := by
  induction d with
  | zero => intro i; simp [accV]
  | succ d ih =>
    intro i
    rw [accV, ih (i + 1), accV, show i + 1 + d = i + (d + 1) by omega, Nat.pow_succ]
    have e : ((128 ^ d * 128 : Nat) : Int) = 128 * ((128 ^ d : Nat) : Int) := by omega
    rw [e, Int.mul_add, Int.mul_left_comm]
    omega
def vgood (v : List Int) : Prop := v ≠ [] ∧ (∀ x ∈ v, 0 ≤ x ∧ x ≤ 255) ∧ (∀ i, i + 1 < v.length → 128 ≤ v.getD i 0) ∧ v.getD (v.length - 1) 0 < 128
theorem vencA_good (f : Nat) : ∀ x : Int, 0 ≤ x → x < ((128 ^ (f + 1) : Nat) : Int) → vgood (vencA f x) := by
  induction f with
  | zero =>
    intro x h0 h1
    refine ⟨by simp [vencA], ?_, ?_, ?_⟩
    · intro y hy; simp [vencA] at hy; omega
    · intro i hi; simp [vencA] at hi
    · simp [vencA]; omega
  | succ f ih =>
    intro x h0 h1
    rw [vencA]
    by_cases h : 128 ≤ x
    · rw [if_pos h]
      rw [Nat.pow_succ] at h1
      obtain ⟨g1, g2, g3, g4⟩ := ih (x / 128) (by omega) (by omega)
      have hl : 0 < (vencA f (x / 128)).length := List.length_pos_iff.2 g1
      refine ⟨by simp, ?_, ?_, ?_⟩
      · intro y hy
        rcases List.mem_cons.1 hy with rfl | hy
        · omega
        · exact g2 y hy
      · intro i hi
        cases i with
        | zero => simp; omega
        | succ i =>
          rw [List.getD_cons_succ]
          exact g3 i (by simp at hi; omega)
      · rw [List.length_cons, show (vencA f (x / 128)).length + 1 - 1 = (vencA f (x / 128)).length - 1 + 1 by omega, List.getD_cons_succ]
        exact g4
    · rw [if_neg h]
      refine ⟨by simp, ?_, ?_, ?_⟩
      · intro y hy; simp at hy; omega
      · intro i hi; simp at hi
      · simp; omega
theorem venc_bl (x : Int) (h0 : 0 ≤ x) (h1 : x ≤ 562949953421311) : bl (venc x) = vencA 6 x := by
  unfold venc
  rw [if_pos ⟨h0, h1⟩]
  exact bl_strOfNums _ (vencA_good 6 x h0 (by omega)).2.1

theorem dv_or (i : Nat) (hi : i ≤ 6) (n d : Int) (h0 : 0 ≤ n) (h1 : n < ((128 ^ i : Nat) : Int)) (hd0 : 0 ≤ d) (hd1 : d < 128) :
    Go.bits .or .i64 n (shl .i64 d (wrap64 (7 * (i : Int)))) = n + d * ((128 ^ i : Nat) : Int) := by
  have wr : ∀ n : Int, 0 ≤ n → n < 2 ^ 63 → IntKind.i64.wrap n = n := by
    intro n h0 h1
    rw [IntKind.wrap_i64]; omega
  have e : shl .i64 d (wrap64 (7 * (i : Int))) = d * ((128 ^ i : Nat) : Int) := by
    unfold shl
    rw [w64 (by omega) (by omega)]
    have hm : min (7 * (i : Int)).toNat IntKind.i64.bits = 7 * i := by
      have : IntKind.i64.bits = 64 := rfl
      rw [this]
      omega
    have hp : (2 : Int) ^ (7 * i) = ((128 ^ i : Nat) : Int) := by
      rw [show (128 : Nat) = 2 ^ 7 by rfl, ← Nat.pow_mul]
      simp
    rw [hm, hp]
    have hp6 : 128 ^ i ≤ 128 ^ 6 := Nat.pow_le_pow_right (by decide) hi
    have hpp : 0 < 128 ^ i := Nat.pow_pos (by decide)
    have hb : d * ((128 ^ i : Nat) : Int) ≤ 127 * ((128 ^ i : Nat) : Int) := Int.mul_le_mul_of_nonneg_right (by omega) (by omega)
    exact wr _ (Int.mul_nonneg hd0 (by omega)) (by omega)
  rw [e]
  obtain ⟨a, rfl⟩ := Int.eq_ofNat_of_zero_le h0
  obtain ⟨b, rfl⟩ := Int.eq_ofNat_of_zero_le hd0
  have hp6 : 128 ^ i ≤ 128 ^ 6 := Nat.pow_le_pow_right (by decide) hi
  have hpp : 0 < 128 ^ i := Nat.pow_pos (by decide)
  have ha : a < 128 ^ i := by exact_mod_cast h1
  have hb : b * 128 ^ i ≤ 127 * 128 ^ i := Nat.mul_le_mul_right _ (by omega)
  have c1 : ((b : Int)) * ((128 ^ i : Nat) : Int) = ((b * 128 ^ i : Nat) : Int) := by rw [Int.natCast_mul]
  rw [c1, (Go.bits_nat .i64 63 (by decide) wr a (b * 128 ^ i) (by omega) (by omega)).2, Nat.or_comm]
  have hq : 128 ^ i = 2 ^ (7 * i) := by rw [show (128 : Nat) = 2 ^ 7 by rfl, ← Nat.pow_mul]
  rw [hq] at ha ⊢
  rw [Nat.mul_comm b, ← Nat.two_pow_add_eq_or_of_lt ha b]
  omega
theorem and_127 (y : Int) (h0 : 0 ≤ y) (h1 : y ≤ 255) : Go.bits .and .u8 y 127 = y % 128 :=
  Go.bits_mask .u8 8 (by decide) Go.wraps_u8 7 (by decide) y h0 (by omega)
def tV (s : ByteArray) (m : Nat) : Prop := venc (accV (bl s) 0 m) = s.extract 0 m
instance (s : ByteArray) (m : Nat) : Decidable (tV s m) := by unfold tV; infer_instance
theorem accV_max (s : List Int) (i m : Nat) (hm : m ≤ 7) : 0 ≤ accV s i m ∧ accV s i m ≤ 562949953421311 := by
  have h1 := accV_lt s m i
  have h2 : 128 ^ m ≤ 128 ^ 7 := Nat.pow_le_pow_right (by decide) hm
  omega
theorem tV_form (s : ByteArray) (m : Nat) (h1 : 1 ≤ m) (h7 : m ≤ 7) (hs : m ≤ s.size) (h : tV s m) : (∀ i, i + 1 < m → 128 ≤ (bl s).getD i 0) ∧ (bl s).getD (m - 1) 0 < 128 := by
  have hm := accV_max (bl s) 0 m h7
  have e := congrArg bl h
  rw [venc_bl _ hm.1 hm.2, bl_extract0] at e
  obtain ⟨g1, g2, g3, g4⟩ := vencA_good 6 (accV (bl s) 0 m) hm.1 (by omega)
  rw [e] at g3 g4
  have hl : ((bl s).take m).length = m := by rw [List.length_take, bl_length]; omega
  have ht : ∀ i, i < m → ((bl s).take m).getD i 0 = (bl s).getD i 0 := by
    intro i hi
    rw [List.getD_eq_getElem?_getD, List.getD_eq_getElem?_getD, List.getElem?_take, if_pos hi]
  rw [hl] at g3 g4
  exact ⟨fun i hi => by rw [← ht i (by omega)]; exact g3 i hi, by rw [← ht (m - 1) (by omega)]; exact g4⟩
def resV (s : ByteArray) : Nat → Nat → Int × Int
  | 0, _ => (0, 0)
  | f + 1, i => if i < s.size then (if (bl s).getD i 0 < 128 then (if tV s (i + 1) then (accV (bl s) 0 (i + 1), ((i + 1 : Nat) : Int)) else (0, 0)) else resV s f (i + 1)) else (0, 0)
theorem bt_nat (s : ByteArray) (i : Nat) : bt s (i : Int) = (bl s).getD i 0 := by
  rw [bt_bl, show ((i : Int)).toNat = i by omega]
theorem i_DecodeVarint_l (s : ByteArray) (hs : s.size ≤ 1048576) (f : Nat) : ∀ i : Nat, i + f = 7 → Ev (fun k => impl_DecodeVarint.l0 k s (accV (bl s) 0 i) i) (resV s f i) := by
  induction f with
  | zero =>
    intro i hi
    refine Ev.step (f := fun _ => some (0, 0)) (fun k => ?_) (Ev.now _)
    simp only [impl_DecodeVarint.l0]
    rw [if_neg (by unfold mn; split <;> omega)]
  | succ f ih =>
    intro i hi
    rw [resV]
    by_cases h1 : i < s.size
    · rw [if_pos h1]
      have hb := bt_range s i
      rw [bt_nat] at hb
      have hor := dv_or i (by omega) (accV (bl s) 0 i) ((bl s).getD i 0 % 128) (accV_lt _ _ _).1 (accV_lt _ _ _).2 (by omega) (by omega)
      have hsn := accV_snoc (bl s) i 0
      rw [Nat.zero_add] at hsn
      rw [← hsn] at hor
      by_cases h2 : (bl s).getD i 0 < 128
      · rw [if_pos h2]
        have key := Ev.bind (i_EncodeVarint (accV (bl s) 0 (i + 1))) (f := fun _ t => if t.toList = (s.extract 0 (i + 1)).toList then some (accV (bl s) 0 (i + 1), ((i + 1 : Nat) : Int)) else some (0, 0)) (r := if tV s (i + 1) then (accV (bl s) 0 (i + 1), ((i + 1 : Nat) : Int)) else (0, 0)) ⟨0, fun _ _ => by
          simp only [toList_iff]
          by_cases ht : tV s (i + 1)
          · rw [if_pos (show venc (accV (bl s) 0 (i + 1)) = s.extract 0 (i + 1) from ht), if_pos ht]
          · rw [if_neg (show ¬ venc (accV (bl s) 0 (i + 1)) = s.extract 0 (i + 1) from ht), if_neg ht]⟩
        refine Ev.step (fun k => ?_) key
        simp only [impl_DecodeVarint.l0]
        rw [if_pos (by unfold mn; split <;> omega), if_pos (by omega), if_pos (by omega), if_pos (by rw [w64 (by omega) (by omega)]; omega), bt_nat, if_pos h2, and_127 _ hb.1 hb.2, w64 (x := (bl s).getD i 0 % 128) (by omega) (by omega), hor, w64 (x := (i : Int) + 1) (by omega) (by omega)]
        congr 1
        funext t
        rw [if_pos (by omega), if_pos (by omega), show ((i : Int) + 1).toNat = i + 1 by omega]
        rfl
      · rw [if_neg h2]
        refine Ev.step (fun k => ?_) (ih (i + 1) (by omega))
        simp only [impl_DecodeVarint.l0]
        rw [if_pos (by unfold mn; split <;> omega), if_pos (by omega), if_pos (by omega), if_pos (by rw [w64 (by omega) (by omega)]; omega), bt_nat, if_neg h2, and_127 _ hb.1 hb.2, w64 (x := (bl s).getD i 0 % 128) (by omega) (by omega), hor, w64 (x := (i : Int) + 1) (by omega) (by omega)]
        rfl
    · rw [if_neg h1]
      refine Ev.step (f := fun _ => some (0, 0)) (fun k => ?_) (Ev.now _)
      simp only [impl_DecodeVarint.l0]
      rw [if_neg (by unfold mn; split <;> omega)]
theorem s_DecodeVarint_in (s : ByteArray) (hs : s.size ≤ 1048576) (m : Nat) (hm : 1 ≤ m) (hm7 : m ≤ 7) (hms : m ≤ s.size) (r : Int × Int)
    (hr : Ev (fun k => if tV s m then some (accV (bl s) 0 m, (m : Int)) else spec_DecodeVarint.l0 k s ((m + 1 : Nat) : Int)) r) (i : Nat) : i ≤ m → Ev (fun k => spec_DecodeVarint.l1 k s m (accV (bl s) i (m - i)) ((i : Int) - 1)) r := by
  induction i with
  | zero =>
    intro _
    have key := Ev.bind (s_EncodeVarint (accV (bl s) 0 m)) (f := fun k t => if t.toList = (s.extract 0 m).toList then some (accV (bl s) 0 m, (m : Int)) else spec_DecodeVarint.l0 k s ((m + 1 : Nat) : Int)) (r := r) (by
      refine Ev.congr (fun k => ?_) hr
      simp only [toList_iff]
      rfl)
    refine Ev.step (fun k => ?_) key
    simp only [spec_DecodeVarint.l1]
    rw [if_neg (by omega), Nat.sub_zero]
    congr 1
    funext t
    rw [if_pos (by omega), if_pos (by omega), show ((m : Int)).toNat = m by omega, w64 (by omega) (by omega)]
    rfl
  | succ i ih =>
    intro hi
    have hb := bt_range s i
    have ha := accV_max (bl s) (i + 1) (m - (i + 1)) (by omega)
    have ha2 := accV_max (bl s) i (m - i) (by omega)
    have e : accV (bl s) i (m - i) = (bl s).getD i 0 % 128 + 128 * accV (bl s) (i + 1) (m - (i + 1)) := by
      rw [show m - i = (m - (i + 1)) + 1 by omega, accV]
    refine Ev.step (fun k => ?_) (ih (by omega))
    simp only [spec_DecodeVarint.l1]
    rw [show (((i + 1 : Nat) : Int) - 1) = (i : Int) by omega, if_pos (by omega), if_pos (by omega), if_pos (by omega), w64 (x := bt s i) (by omega) (by omega), tmod_pos hb.1, w64 (x := accV (bl s) (i + 1) (m - (i + 1)) * 128) (by omega) (by omega), w64 (x := (i : Int) - 1) (by omega) (by omega), bt_nat, e]
    rw [bt_nat] at hb
    rw [w64 (by omega) (by omega), show accV (bl s) (i + 1) (m - (i + 1)) * 128 + (bl s).getD i 0 % 128 = (bl s).getD i 0 % 128 + 128 * accV (bl s) (i + 1) (m - (i + 1)) by omega]
theorem s_DecodeVarint_end (s : ByteArray) (m : Nat) (h : 7 < m ∨ s.size < m) : Ev (fun k => spec_DecodeVarint.l0 k s (m : Int)) (0, 0) := by
  refine Ev.step (f := fun k => spec_DecodeVarint.j1 k s m false) (fun k => ?_) (Ev.step (f := fun _ => some (0, 0)) (fun k => ?_) (Ev.now _))
  · simp only [spec_DecodeVarint.l0]
    by_cases h1 : (m : Int) ≤ 7
    · rw [if_pos h1, decide_eq_false (by omega)]
    · rw [if_neg h1]
  · simp only [spec_DecodeVarint.j1]
    simp
theorem s_DecodeVarint_one (s : ByteArray) (hs : s.size ≤ 1048576) (m : Nat) (hm : 1 ≤ m) (hm7 : m ≤ 7) (hms : m ≤ s.size) (r : Int × Int)
    (hr : Ev (fun k => if tV s m then some (accV (bl s) 0 m, (m : Int)) else spec_DecodeVarint.l0 k s ((m + 1 : Nat) : Int)) r) : Ev (fun k => spec_DecodeVarint.l0 k s (m : Int)) r := by
  have h1 := s_DecodeVarint_in s hs m hm hm7 hms r hr m (Nat.le_refl _)
  rw [Nat.sub_self, accV] at h1
  refine Ev.step (f := fun k => spec_DecodeVarint.j1 k s m true) (fun k => ?_) (Ev.step (fun k => ?_) h1)
  · simp only [spec_DecodeVarint.l0]
    rw [if_pos (by omega), decide_eq_true (by omega)]
  · simp only [spec_DecodeVarint.j1, if_true]
    rw [w64 (by omega) (by omega)]
theorem s_DecodeVarint_dead (s : ByteArray) (hs : s.size ≤ 1048576) (j : Nat) (hj : (bl s).getD j 0 < 128) (d : Nat) : ∀ m : Nat, m + d = 8 → j + 1 < m → Ev (fun k => spec_DecodeVarint.l0 k s (m : Int)) (0, 0) := by
  induction d with
  | zero => intro m hm _; exact s_DecodeVarint_end s m (by omega)
  | succ d ih =>
    intro m hm hjm
    by_cases h : s.size < m
    · exact s_DecodeVarint_end s m (.inr h)
    · refine s_DecodeVarint_one s hs m (by omega) (by omega) (by omega) _ ?_
      have hn : ¬ tV s m := by
        intro ht
        have := (tV_form s m (by omega) (by omega) (by omega) ht).1 j hjm
        omega
      simp only [if_neg hn]
      exact ih (m + 1) (by omega) (by omega)
theorem s_DecodeVarint_l (s : ByteArray) (hs : s.size ≤ 1048576) (f : Nat) : ∀ i : Nat, i + f = 7 → Ev (fun k => spec_DecodeVarint.l0 k s ((i + 1 : Nat) : Int)) (resV s f i) := by
  induction f with
  | zero => intro i hi; exact s_DecodeVarint_end s (i + 1) (by omega)
  | succ f ih =>
    intro i hi
    rw [resV]
    by_cases h1 : i < s.size
    · rw [if_pos h1]
      refine s_DecodeVarint_one s hs (i + 1) (by omega) (by omega) (by omega) _ ?_
      by_cases ht : tV s (i + 1)
      · have := (tV_form s (i + 1) (by omega) (by omega) (by omega) ht).2
        rw [Nat.add_sub_cancel] at this
        simp only [if_pos ht]
        rw [if_pos this]
        exact Ev.now _
      · simp only [if_neg ht]
        by_cases h2 : (bl s).getD i 0 < 128
        · rw [if_pos h2]
          cases f with
          | zero => exact s_DecodeVarint_end s _ (by omega)
          | succ f => exact s_DecodeVarint_dead s hs i h2 (f + 1) (i + 1 + 1) (by omega) (by omega)
        · rw [if_neg h2]
          exact ih (i + 1) (by omega)
    · rw [if_neg h1]
      exact s_DecodeVarint_end s (i + 1) (by omega)
theorem s_DecodeVarint (s : ByteArray) (hs : s.size ≤ 1048576) : Ev (fun k => spec_DecodeVarint.f k s) (resV s 7 0) := s_DecodeVarint_l s hs 7 0 (by omega)
theorem i_DecodeVarint (s : ByteArray) (hs : s.size ≤ 1048576) : Ev (fun k => impl_DecodeVarint.f k s) (resV s 7 0) := i_DecodeVarint_l s hs 7 0 (by omega)

theorem FnExactDecodeVarint : laws_FnExactDecodeVarint.Pure := by
  intro s _
  by_cases h : (s.size : Int) > 1048576
  · exact ⟨0, by unfold laws_FnExactDecodeVarint.f; rw [if_pos h]⟩
  · unfold laws_FnExactDecodeVarint.f
    simp only [if_neg h]
    exact ev2 (s_DecodeVarint s (by omega)) (i_DecodeVarint s (by omega)) (by simp)

end Go.Proofs.Ytlbbnepkdhlgmab.Pure
