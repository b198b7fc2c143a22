/- The pure side of FnIntegerEncodings: a number encoded as a varint, in a fixed width or as decimal digits and a string encoded as hex digits are read back, whatever follows, for every drawn list (the law itself answers true past its bound). No condition. -/
import Derived.Test.YtbenihcaleiacabDoorGFnIntegerEncodingsx5
import Derived.OpenShut
import Derived.Laws.BitsLemmas
set_option linter.unusedVariables false
set_option linter.unusedSimpArgs false
namespace Go.Proofs.YtbenihcaleiacabDoor.Pure
open Go.RowKit Go.Proofs.YtbenihcaleiacabDoor.GFnIntegerEncodings Go.Proofs.YtbenihcaleiacabDoorW.PrintWords Go.Proofs.YtbenihcaleiacabDoorW.PrintLast

theorem w64 {x : Int} (h : -9223372036854775808 ≤ x) (h' : x ≤ 9223372036854775807) : wrap64 x = x := by unfold wrap64; omega
theorem tdiv_pos {x y : Int} (h : 0 ≤ x) : Int.tdiv x y = x / y := Int.tdiv_eq_ediv_of_nonneg h
theorem tmod_pos {x y : Int} (h : 0 ≤ x) : Int.tmod x y = x % y := Int.tmod_eq_emod_of_nonneg h
theorem eq_strs {g w : Option ByteArray} {r : ByteArray} (h1 : w = some r) (h2 : g = some r) : (w.bind fun t => g.bind fun u => if u.toList = t.toList then some true else some false) = some true := by
  subst h1; subst h2; simp
theorem eq_ints {g w : Option Int} {r : Int} (h1 : w = some r) (h2 : g = some r) : (w.bind fun t => g.bind fun u => if u = t then some true else some false) = some true := by
  subst h1; subst h2; simp
theorem eq_bools {g w : Option Bool} {r : Bool} (h1 : w = some r) (h2 : g = some r) : (w.bind fun t => g.bind fun u => if (u != t) = true then some false else some true) = some true := by
  subst h1; subst h2; simp
theorem ev_strs {g w : Nat → Option ByteArray} {r : ByteArray} (h1 : Ev w r) (h2 : Ev g r) : ∃ k, ((w k).bind fun t => (g k).bind fun u => if u.toList = t.toList then some true else some false) = some true := by
  obtain ⟨K, h1⟩ := h1
  obtain ⟨L, h2⟩ := h2
  exact ⟨max K L, eq_strs (h1 _ (by omega)) (h2 _ (by omega))⟩
theorem ev2 {α β : Type} {g : Nat → Option α} {f : Nat → Option β} {a : α} {b : β} {F : α → β → Option Bool} (hg : Ev g a) (hf : Ev f b) (h : F a b = some true) : ∃ k, ((g k).bind fun t => (f k).bind fun u => F t u) = some true :=
  (Ev.bind hg (Ev.bind hf ⟨0, fun _ _ => h⟩)).rounds
theorem rd_eq (l : List Int) (i : Nat) (h : i < l.length) : rd l (i : Int) = l[i] := by
  unfold rd
  rw [show ((i : Int)).toNat = i by omega, List.getD_eq_getElem?_getD, List.getElem?_eq_getElem h]
  rfl
theorem l1In_ (x a b : Int) : spec_l1In.f x a b = some (decide (a ≤ x ∧ x ≤ b)) := by
  unfold spec_l1In.f
  by_cases h : a ≤ x <;> simp [h]
theorem or_128 (y : Int) (h0 : 0 ≤ y) (h1 : y < 256) : Go.bits .or .u8 y 128 = 128 + y % 128 := by
  have h : ∀ n : Fin 256, Go.bits .or .u8 ((n.val : Nat) : Int) 128 = 128 + ((n.val : Nat) : Int) % 128 := by decide +kernel
  have := h ⟨y.toNat, by omega⟩
  rwa [show (((⟨y.toNat, by omega⟩ : Fin 256).val : Nat) : Int) = y by simp; omega] at this
def vencA : Nat → Int → List Int
  | 0, x => [x]
  | f + 1, x => if 128 ≤ x then (128 + x % 128) :: vencA f (x / 128) else [x]
theorem i_EncodeVarint_l (f : Nat) : ∀ (x : Int) (out : List Int), 0 ≤ x → x < ((128 ^ (f + 1) : Nat) : Int) → x ≤ 562949953421311 → out.length + f ≤ 100 →
    Ev (fun k => impl_EncodeVarint.l0 k x out) (strOfNums (out ++ vencA f x)) := by
  induction f with
  | zero =>
    intro x out h0 h1 h2 ho
    refine Ev.step (f := fun _ => some (strOfNums (out ++ [x]))) (fun k => ?_) (Ev.now _)
    simp only [impl_EncodeVarint.l0]
    rw [if_neg (by omega), if_pos (by omega), show x % 256 = x by omega]
  | succ f ih =>
    intro x out h0 h1 h2 ho
    by_cases h : 128 ≤ x
    · rw [Nat.pow_succ] at h1
      have := ih (x / 128) (out ++ [128 + x % 128]) (by omega) (by omega) (by omega) (by simp; omega)
      rw [List.append_assoc] at this
      rw [vencA, if_pos h]
      refine Ev.step (fun k => ?_) this
      simp only [impl_EncodeVarint.l0]
      rw [if_pos h, if_pos (by omega), or_128 _ (by omega) (by omega), show x % 256 % 128 = x % 128 by omega]
    · rw [vencA, if_neg h]
      refine Ev.step (f := fun _ => some (strOfNums (out ++ [x]))) (fun k => ?_) (Ev.now _)
      simp only [impl_EncodeVarint.l0]
      rw [if_neg h, if_pos (by omega), show x % 256 = x by omega]
def venc (x : Int) : ByteArray := if 0 ≤ x ∧ x ≤ 562949953421311 then strOfNums (vencA 6 x) else ⟨#[]⟩
theorem i_EncodeVarint (x : Int) : Ev (fun k => impl_EncodeVarint.f k x) (venc x) := by
  unfold impl_EncodeVarint.f venc
  by_cases h1 : x < 0
  · simp only [if_pos h1]
    rw [if_neg (by omega)]
    refine Ev.step (f := fun _ => some _) (fun k => ?_) (Ev.now _)
    simp only [impl_EncodeVarint.j0, if_true]
  · simp only [if_neg h1]
    by_cases h : x ≤ 562949953421311
    · rw [if_pos ⟨by omega, h⟩]
      refine Ev.step (fun k => ?_) (i_EncodeVarint_l 6 x [] (by omega) (by omega) h (by simp))
      simp only [impl_EncodeVarint.j0, decide_eq_true_eq]
      rw [if_neg (by omega)]
    · rw [if_neg (by omega)]
      refine Ev.step (f := fun _ => some _) (fun k => ?_) (Ev.now _)
      simp only [impl_EncodeVarint.j0, decide_eq_true_eq]
      rw [if_pos (by omega)]
theorem strOfNums_nil : strOfNums [] = ByteArray.empty := rfl
theorem strOfNums_append (xs ys : List Int) : strOfNums (xs ++ ys) = strOfNums xs ++ strOfNums ys := by
  apply ByteArray.ext
  rw [ByteArray.data_append]
  simp [strOfNums]
theorem app_nil (s : ByteArray) : s ++ (⟨#[]⟩ : ByteArray) = s := ByteArray.append_empty
def bl (s : ByteArray) : List Int := s.data.toList.map fun b => (b.toNat : Int)
theorem bl_length (s : ByteArray) : (bl s).length = s.size := by
  unfold bl
  rw [List.length_map, Array.length_toList]
  rfl
theorem bl_append (a b : ByteArray) : bl (a ++ b) = bl a ++ bl b := by simp [bl]
theorem bl_nil : bl ⟨#[]⟩ = [] := rfl
theorem bl_range (s : ByteArray) : ∀ x ∈ bl s, 0 ≤ x ∧ x ≤ 255 := by
  intro x hx
  obtain ⟨b, _, rfl⟩ := List.mem_map.1 hx
  have := b.toNat_lt
  omega
theorem strOfNums_bl (s : ByteArray) : strOfNums (bl s) = s := by
  apply ByteArray.ext
  unfold strOfNums bl
  rw [List.map_map]
  have e : ((fun n : Int => UInt8.ofNat n.toNat) ∘ fun b : UInt8 => (b.toNat : Int)) = id := by
    funext b
    simp
  rw [e, List.map_id]
theorem bl_inj {a b : ByteArray} (h : bl a = bl b) : a = b := by rw [← strOfNums_bl a, ← strOfNums_bl b, h]
theorem bl_strOfNums (xs : List Int) (h : ∀ x ∈ xs, 0 ≤ x ∧ x ≤ 255) : bl (strOfNums xs) = xs := by
  unfold bl strOfNums
  rw [List.map_map]
  conv => rhs; rw [← List.map_id xs]
  apply List.map_congr_left
  intro x hx
  have := h x hx
  simp only [Function.comp, id, UInt8.toNat_ofNat']
  omega
theorem bl_extract0 (s : ByteArray) (k : Nat) : bl (s.extract 0 k) = (bl s).take k := by
  simp [bl, ByteArray.data_extract, Array.toList_extract, List.extract_eq_take_drop]
theorem bl_extract (s : ByteArray) (i j : Nat) : bl (s.extract i j) = ((bl s).drop i).take (j - i) := by
  simp [bl, ByteArray.data_extract, Array.toList_extract, List.extract_eq_take_drop]
theorem bt_bl (s : ByteArray) (i : Int) : bt s i = (bl s).getD i.toNat 0 := by
  unfold bt bl
  by_cases h : i.toNat < s.size
  · rw [dif_pos h, List.getD_eq_getElem?_getD, List.getElem?_map, List.getElem?_eq_getElem (show i.toNat < s.data.toList.length by rw [Array.length_toList]; exact h)]
    rfl
  · rw [dif_neg h, List.getD_eq_getElem?_getD, List.getElem?_eq_none (by rw [List.length_map, Array.length_toList]; exact Nat.le_of_not_lt h)]
    rfl
theorem toList_iff {a b : ByteArray} : a.toList = b.toList ↔ a = b := by
  constructor
  · intro h
    rw [ByteArray.toList_eq, ByteArray.toList_eq] at h
    apply ByteArray.ext
    exact Array.toList_inj.1 h
  · intro h
    rw [h]
def accV (s : List Int) : Nat → Nat → Int
  | _, 0 => 0
  | i, d + 1 => s.getD i 0 % 128 + 128 * accV s (i + 1) d
theorem accV_lt (s : List Int) (d : Nat) : ∀ i, 0 ≤ accV s i d ∧ accV s i d < ((128 ^ d : Nat) : Int) := by
  induction d with
  | zero => intro i; simp [accV]
  | succ d ih =>
    intro i
    have := ih (i + 1)
    rw [accV, Nat.pow_succ]
    omega
theorem accV_snoc (s : List Int) (d : Nat) : ∀ i, accV s i (d + 1) = accV s i d + s.getD (i + d) 0 % 128 * ((128 ^ d : Nat) : Int) := by
  induction d with
  | zero => intro i; simp [accV]
  | succ d ih =>
    intro i
    rw [accV, ih (i + 1), accV, show i + 1 + d = i + (d + 1) by omega, Nat.pow_succ]
    have e : ((128 ^ d * 128 : Nat) : Int) = 128 * ((128 ^ d : Nat) : Int) := by omega
    rw [e, Int.mul_add, Int.mul_left_comm]
    omega
def vgood (v : List Int) : Prop := v ≠ [] ∧ (∀ x ∈ v, 0 ≤ x ∧ x ≤ 255) ∧ (∀ i, i + 1 < v.length → 128 ≤ v.getD i 0) ∧ v.getD (v.length - 1) 0 < 128
theorem vencA_good (f : Nat) : ∀ x : Int, 0 ≤ x → x < ((128 ^ (f + 1) : Nat) : Int) → vgood (vencA f x) := by
  induction f with
  | zero =>
    intro x h0 h1
    refine ⟨by simp [vencA], ?_, ?_, ?_⟩
    · intro y hy; simp [vencA] at hy; omega
    · intro i hi; simp [vencA] at hi
    · simp [vencA]; omega
  | succ f ih =>
    intro x h0 h1
    rw [vencA]
    by_cases h : 128 ≤ x
    · rw [if_pos h]
      rw [Nat.pow_succ] at h1
      obtain ⟨g1, g2, g3, g4⟩ := ih (x / 128) (by omega) (by omega)
      have hl : 0 < (vencA f (x / 128)).length := List.length_pos_iff.2 g1
      refine ⟨by simp, ?_, ?_, ?_⟩
      · intro y hy
        rcases List.mem_cons.1 hy with rfl | hy
        · omega
        · exact g2 y hy
      · intro i hi
        cases i with
        | zero => simp; omega
        | succ i =>
          rw [List.getD_cons_succ]
          exact g3 i (by simp at hi; omega)
      · rw [List.length_cons, show (vencA f (x / 128)).length + 1 - 1 = (vencA f (x / 128)).length - 1 + 1 by omega, List.getD_cons_succ]
        exact g4
    · rw [if_neg h]
      refine ⟨by simp, ?_, ?_, ?_⟩
      · intro y hy; simp at hy; omega
      · intro i hi; simp at hi
      · simp; omega
theorem venc_bl (x : Int) (h0 : 0 ≤ x) (h1 : x ≤ 562949953421311) : bl (venc x) = vencA 6 x := by
  unfold venc
  rw [if_pos ⟨h0, h1⟩]
  exact bl_strOfNums _ (vencA_good 6 x h0 (by omega)).2.1
theorem dv_or (i : Nat) (hi : i ≤ 6) (n d : Int) (h0 : 0 ≤ n) (h1 : n < ((128 ^ i : Nat) : Int)) (hd0 : 0 ≤ d) (hd1 : d < 128) :
    Go.bits .or .i64 n (shl .i64 d (wrap64 (7 * (i : Int)))) = n + d * ((128 ^ i : Nat) : Int) := by
  have wr : ∀ n : Int, 0 ≤ n → n < 2 ^ 63 → IntKind.i64.wrap n = n := by
    intro n h0 h1
    rw [IntKind.wrap_i64]; omega
  have e : shl .i64 d (wrap64 (7 * (i : Int))) = d * ((128 ^ i : Nat) : Int) := by
    unfold shl
    rw [w64 (by omega) (by omega)]
    have hm : min (7 * (i : Int)).toNat IntKind.i64.bits = 7 * i := by
      have : IntKind.i64.bits = 64 := rfl
      rw [this]
      omega
    have hp : (2 : Int) ^ (7 * i) = ((128 ^ i : Nat) : Int) := by
      rw [show (128 : Nat) = 2 ^ 7 by rfl, ← Nat.pow_mul]
      simp
    rw [hm, hp]
    have hp6 : 128 ^ i ≤ 128 ^ 6 := Nat.pow_le_pow_right (by decide) hi
    have hpp : 0 < 128 ^ i := Nat.pow_pos (by decide)
    have hb : d * ((128 ^ i : Nat) : Int) ≤ 127 * ((128 ^ i : Nat) : Int) := Int.mul_le_mul_of_nonneg_right (by omega) (by omega)
    exact wr _ (Int.mul_nonneg hd0 (by omega)) (by omega)
  rw [e]
  obtain ⟨a, rfl⟩ := Int.eq_ofNat_of_zero_le h0
  obtain ⟨b, rfl⟩ := Int.eq_ofNat_of_zero_le hd0
  have hp6 : 128 ^ i ≤ 128 ^ 6 := Nat.pow_le_pow_right (by decide) hi
  have hpp : 0 < 128 ^ i := Nat.pow_pos (by decide)
  have ha : a < 128 ^ i := by exact_mod_cast h1
  have hb : b * 128 ^ i ≤ 127 * 128 ^ i := Nat.mul_le_mul_right _ (by omega)
  have c1 : ((b : Int)) * ((128 ^ i : Nat) : Int) = ((b * 128 ^ i : Nat) : Int) := by rw [Int.natCast_mul]
  rw [c1, (Go.bits_nat .i64 63 (by decide) wr a (b * 128 ^ i) (by omega) (by omega)).2, Nat.or_comm]
  have hq : 128 ^ i = 2 ^ (7 * i) := by rw [show (128 : Nat) = 2 ^ 7 by rfl, ← Nat.pow_mul]
  rw [hq] at ha ⊢
  rw [Nat.mul_comm b, ← Nat.two_pow_add_eq_or_of_lt ha b]
  omega
theorem and_127 (y : Int) (h0 : 0 ≤ y) (h1 : y ≤ 255) : Go.bits .and .u8 y 127 = y % 128 :=
  Go.bits_mask .u8 8 (by decide) Go.wraps_u8 7 (by decide) y h0 (by omega)
def tV (s : ByteArray) (m : Nat) : Prop := venc (accV (bl s) 0 m) = s.extract 0 m
instance (s : ByteArray) (m : Nat) : Decidable (tV s m) := by unfold tV; infer_instance
theorem accV_max (s : List Int) (i m : Nat) (hm : m ≤ 7) : 0 ≤ accV s i m ∧ accV s i m ≤ 562949953421311 := by
  have h1 := accV_lt s m i
  have h2 : 128 ^ m ≤ 128 ^ 7 := Nat.pow_le_pow_right (by decide) hm
  omega
theorem tV_form (s : ByteArray) (m : Nat) (h1 : 1 ≤ m) (h7 : m ≤ 7) (hs : m ≤ s.size) (h : tV s m) : (∀ i, i + 1 < m → 128 ≤ (bl s).getD i 0) ∧ (bl s).getD (m - 1) 0 < 128 := by
  have hm := accV_max (bl s) 0 m h7
  have e := congrArg bl h
  rw [venc_bl _ hm.1 hm.2, bl_extract0] at e
  obtain ⟨g1, g2, g3, g4⟩ := vencA_good 6 (accV (bl s) 0 m) hm.1 (by omega)
  rw [e] at g3 g4
  have hl : ((bl s).take m).length = m := by rw [List.length_take, bl_length]; omega
  have ht : ∀ i, i < m → ((bl s).take m).getD i 0 = (bl s).getD i 0 := by
    intro i hi
    rw [List.getD_eq_getElem?_getD, List.getD_eq_getElem?_getD, List.getElem?_take, if_pos hi]
  rw [hl] at g3 g4
  exact ⟨fun i hi => by rw [← ht i (by omega)]; exact g3 i hi, by rw [← ht (m - 1) (by omega)]; exact g4⟩
def resV (s : ByteArray) : Nat → Nat → Int × Int
  | 0, _ => (0, 0)
  | f + 1, i => if i < s.size then (if (bl s).getD i 0 < 128 then (if tV s (i + 1) then (accV (bl s) 0 (i + 1), ((i + 1 : Nat) : Int)) else (0, 0)) else resV s f (i + 1)) else (0, 0)
theorem bt_nat (s : ByteArray) (i : Nat) : bt s (i : Int) = (bl s).getD i 0 := by
  rw [bt_bl, show ((i : Int)).toNat = i by omega]
theorem i_DecodeVarint_l (s : ByteArray) (hs : s.size ≤ 1048576) (f : Nat) : ∀ i : Nat, i + f = 7 → Ev (fun k => impl_DecodeVarint.l0 k s (accV (bl s) 0 i) i) (resV s f i) := by
  induction f with
  | zero =>
    intro i hi
    refine Ev.step (f := fun _ => some (0, 0)) (fun k => ?_) (Ev.now _)
    simp only [impl_DecodeVarint.l0]
    rw [if_neg (by unfold mn; split <;> omega)]
  | succ f ih =>
    intro i hi
    rw [resV]
    by_cases h1 : i < s.size
    · rw [if_pos h1]
      have hb := bt_range s i
      rw [bt_nat] at hb
      have hor := dv_or i (by omega) (accV (bl s) 0 i) ((bl s).getD i 0 % 128) (accV_lt _ _ _).1 (accV_lt _ _ _).2 (by omega) (by omega)
      have hsn := accV_snoc (bl s) i 0
      rw [Nat.zero_add] at hsn
      rw [← hsn] at hor
      by_cases h2 : (bl s).getD i 0 < 128
      · rw [if_pos h2]
        have key := Ev.bind (i_EncodeVarint (accV (bl s) 0 (i + 1))) (f := fun _ t => if t.toList = (s.extract 0 (i + 1)).toList then some (accV (bl s) 0 (i + 1), ((i + 1 : Nat) : Int)) else some (0, 0)) (r := if tV s (i + 1) then (accV (bl s) 0 (i + 1), ((i + 1 : Nat) : Int)) else (0, 0)) ⟨0, fun _ _ => by
          simp only [toList_iff]
          by_cases ht : tV s (i + 1)
          · rw [if_pos (show venc (accV (bl s) 0 (i + 1)) = s.extract 0 (i + 1) from ht), if_pos ht]
          · rw [if_neg (show ¬ venc (accV (bl s) 0 (i + 1)) = s.extract 0 (i + 1) from ht), if_neg ht]⟩
        refine Ev.step (fun k => ?_) key
        simp only [impl_DecodeVarint.l0]
        rw [if_pos (by unfold mn; split <;> omega), if_pos (by omega), if_pos (by omega), if_pos (by rw [w64 (by omega) (by omega)]; omega), bt_nat, if_pos h2, and_127 _ hb.1 hb.2, w64 (x := (bl s).getD i 0 % 128) (by omega) (by omega), hor, w64 (x := (i : Int) + 1) (by omega) (by omega)]
        congr 1
        funext t
        rw [if_pos (by omega), if_pos (by omega), show ((i : Int) + 1).toNat = i + 1 by omega]
        rfl
      · rw [if_neg h2]
        refine Ev.step (fun k => ?_) (ih (i + 1) (by omega))
        simp only [impl_DecodeVarint.l0]
        rw [if_pos (by unfold mn; split <;> omega), if_pos (by omega), if_pos (by omega), if_pos (by rw [w64 (by omega) (by omega)]; omega), bt_nat, if_neg h2, and_127 _ hb.1 hb.2, w64 (x := (bl s).getD i 0 % 128) (by omega) (by omega), hor, w64 (x := (i : Int) + 1) (by omega) (by omega)]
        rfl
    · rw [if_neg h1]
      refine Ev.step (f := fun _ => some (0, 0)) (fun k => ?_) (Ev.now _)
      simp only [impl_DecodeVarint.l0]
      rw [if_neg (by unfold mn; split <;> omega)]
theorem i_DecodeVarint (s : ByteArray) (hs : s.size ≤ 1048576) : Ev (fun k => impl_DecodeVarint.f k s) (resV s 7 0) := i_DecodeVarint_l s hs 7 0 (by omega)
def efL : Nat → Int → List Int
  | 0, _ => []
  | w + 1, n => efL w (n / 256) ++ [n % 256]
theorem efL_length (w : Nat) : ∀ n, (efL w n).length = w := by
  induction w with
  | zero => intro n; rfl
  | succ w ih => intro n; rw [efL, List.length_append, ih]; rfl
theorem s_EncodeFixed_l (w : Nat) (hw : w ≤ 7) (d : Nat) : ∀ (i : Nat) (n : Int) (out : ByteArray), i + d = w → 0 ≤ n → n ≤ 9223372036854775807 → out.size ≤ 100 - d →
    Ev (fun k => spec_EncodeFixed.l0 k n w out i) (if ((256 ^ d : Nat) : Int) ≤ n then ⟨#[]⟩ else strOfNums (efL d n) ++ out) := by
  induction d with
  | zero =>
    intro i n out hi h0 h1 ho
    refine Ev.step (f := fun _ => some _) (fun k => ?_) (Ev.now _)
    simp only [spec_EncodeFixed.l0]
    rw [if_neg (by omega)]
    by_cases h : n > 0
    · rw [if_pos h, if_pos (by simp; omega)]
    · rw [if_neg h, if_neg (by simp; omega), efL, strOfNums_nil, ByteArray.empty_append]
  | succ d ih =>
    intro i n out hi h0 h1 ho
    have := ih (i + 1) (n / 256) (strOfNums [n % 256] ++ out) (by omega) (by omega) (by omega) (by rw [ByteArray.size_append, strOfNums_size]; simp; omega)
    have e : (if ((256 ^ (d + 1) : Nat) : Int) ≤ n then (⟨#[]⟩ : ByteArray) else strOfNums (efL (d + 1) n) ++ out) = (if ((256 ^ d : Nat) : Int) ≤ n / 256 then ⟨#[]⟩ else strOfNums (efL d (n / 256)) ++ (strOfNums [n % 256] ++ out)) := by
      by_cases h : ((256 ^ d : Nat) : Int) ≤ n / 256
      · rw [if_pos h, if_pos (by rw [Nat.pow_succ]; omega)]
      · rw [if_neg h, if_neg (by rw [Nat.pow_succ]; omega), efL, strOfNums_append, ByteArray.append_assoc]
    rw [e]
    refine Ev.step (fun k => ?_) this
    simp only [spec_EncodeFixed.l0, Option.bind_some]
    rw [if_pos (by omega), tmod_pos h0, tdiv_pos h0, w64 (x := n / 256) (by omega) (by omega), w64 (x := (i : Int) + 1) (by omega) (by omega), show n % 256 % 256 = n % 256 by omega, if_pos (by rw [strOfNums_size]; simp; omega)]
    rfl
theorem i_EncodeFixed_l (m : Nat) : ∀ (n : Int) (tail : List Int), 0 ≤ n → m ≤ 7 →
    Ev (fun k => impl_EncodeFixed.l0 k n (List.replicate m 0 ++ tail) ((m : Int) - 1)) (strOfNums (efL m n ++ tail)) := by
  induction m with
  | zero =>
    intro n tail h0 hm
    refine Ev.step (f := fun _ => some _) (fun k => ?_) (Ev.now _)
    simp only [impl_EncodeFixed.l0]
    rw [if_neg (by omega)]
    rfl
  | succ m ih =>
    intro n tail h0 hm
    have := ih (n / 256) ([n % 256] ++ tail) (by omega) (by omega)
    rw [efL, List.append_assoc]
    refine Ev.step (fun k => ?_) this
    simp only [impl_EncodeFixed.l0]
    rw [if_pos (by omega), if_pos (by omega), if_pos (by simp; omega), w64 (by omega) (by omega), show (((m + 1 : Nat) : Int) - 1).toNat = m by omega, List.replicate_succ', List.append_assoc, List.set_append_right _ _ (by simp)]
    simp
def encF (n w : Int) : ByteArray := if (1 ≤ w ∧ w ≤ 7) ∧ 0 ≤ n ∧ n < ((256 ^ w.toNat : Nat) : Int) then strOfNums (efL w.toNat n) else ⟨#[]⟩
theorem s_EncodeFixed (n w : Int) (hn : n ≤ 9223372036854775807) : Ev (fun k => spec_EncodeFixed.f k n w) (encF n w) := by
  unfold spec_EncodeFixed.f encF
  simp only [l1In_, Option.bind_some, decide_eq_true_eq]
  by_cases h : 1 ≤ w ∧ w ≤ 7
  · simp only [if_pos h]
    by_cases h2 : n < 0
    · rw [if_neg (by omega)]
      refine Ev.step (f := fun _ => some _) (fun k => ?_) (Ev.now _)
      simp only [spec_EncodeFixed.j0, decide_eq_true_eq]
      rw [if_pos h2]
    · obtain ⟨m, rfl⟩ := Int.eq_ofNat_of_zero_le (show 0 ≤ w by omega)
      have := s_EncodeFixed_l m (by omega) m 0 n ⟨#[]⟩ (by omega) (by omega) hn (by simp [ByteArray.size])
      have e : (if (1 ≤ (m : Int) ∧ (m : Int) ≤ 7) ∧ 0 ≤ n ∧ n < ((256 ^ (m : Int).toNat : Nat) : Int) then strOfNums (efL (m : Int).toNat n) else ⟨#[]⟩) = (if ((256 ^ m : Nat) : Int) ≤ n then ⟨#[]⟩ else strOfNums (efL m n) ++ (⟨#[]⟩ : ByteArray)) := by
        rw [show (m : Int).toNat = m by omega]
        by_cases h3 : ((256 ^ m : Nat) : Int) ≤ n
        · rw [if_pos h3, if_neg (by omega)]
        · rw [if_neg h3, if_pos (by omega), app_nil]
      rw [e]
      refine Ev.step (fun k => ?_) this
      simp only [spec_EncodeFixed.j0, decide_eq_true_eq]
      rw [if_neg h2]
      rfl
  · simp only [if_neg h]
    rw [if_neg (by omega)]
    refine Ev.step (f := fun _ => some _) (fun k => ?_) (Ev.now _)
    simp only [spec_EncodeFixed.j0, if_true]
theorem shl_8 (w : Int) (h : 1 ≤ w) (h2 : w ≤ 7) : 0 ≤ wrap64 (8 * w) ∧ shl .i64 1 (wrap64 (8 * w)) = ((256 ^ w.toNat : Nat) : Int) := by
  rcases (show w = 1 ∨ w = 2 ∨ w = 3 ∨ w = 4 ∨ w = 5 ∨ w = 6 ∨ w = 7 by omega) with rfl | rfl | rfl | rfl | rfl | rfl | rfl <;> exact ⟨by unfold wrap64; omega, by rw [w64 (by omega) (by omega)]; decide +kernel⟩
theorem i_EncodeFixed (n w : Int) : Ev (fun k => impl_EncodeFixed.f k n w) (encF n w) := by
  unfold impl_EncodeFixed.f encF
  have none_ : Ev (fun k => impl_EncodeFixed.j0 k n w true) (⟨#[]⟩ : ByteArray) := by
    refine Ev.step (f := fun _ => some _) (fun k => ?_) (Ev.now _)
    simp only [impl_EncodeFixed.j0, if_true]
  by_cases h1 : w < 1
  · simp only [if_pos h1]
    rw [if_neg (by omega)]
    exact none_
  · by_cases h2 : w > 7
    · simp only [if_neg h1, if_pos h2]
      rw [if_neg (by omega)]
      exact none_
    · by_cases h3 : n < 0
      · simp only [if_neg h1, if_neg h2, if_pos h3]
        rw [if_neg (by omega)]
        exact none_
      · obtain ⟨h4, h5⟩ := shl_8 w (by omega) (by omega)
        simp only [if_neg h1, if_neg h2, if_neg h3, if_pos h4, h5]
        by_cases h6 : n ≥ ((256 ^ w.toNat : Nat) : Int)
        · simp only [decide_eq_true h6]
          rw [if_neg (by omega)]
          exact none_
        · simp only [decide_eq_false h6]
          rw [if_pos (by omega)]
          have := i_EncodeFixed_l w.toNat n [] (by omega) (by omega)
          rw [List.append_nil, List.append_nil] at this
          refine Ev.step (fun k => ?_) this
          simp only [impl_EncodeFixed.j0]
          rw [if_neg (by simp), if_pos (by omega), if_pos (by omega), w64 (by omega) (by omega), show ((w.toNat : Nat) : Int) = w by omega]
theorem wraps_i64 (n : Int) (h0 : 0 ≤ n) (h1 : n < 2 ^ 63) : IntKind.i64.wrap n = n := by
  rw [IntKind.wrap_i64]; omega
theorem or_256 (x b : Int) (h0 : 0 ≤ x) (h1 : x < 36028797018963968) (hb : 0 ≤ b) (hb1 : b ≤ 255) : Go.bits .or .i64 (x * 256) b = x * 256 + b :=
  Go.bits_join .i64 63 (by decide) wraps_i64 8 (x * 256) b (by omega) (by omega) (by omega) hb (by omega) (by omega)
def decF (s : ByteArray) : Nat → Int
  | 0 => 0
  | i + 1 => decF s i * 256 + bt s i
theorem decF_lt (s : ByteArray) (i : Nat) : 0 ≤ decF s i ∧ decF s i < ((256 ^ i : Nat) : Int) := by
  induction i with
  | zero => simp [decF]
  | succ i ih =>
    have := bt_range s i
    rw [decF, Nat.pow_succ]
    omega
theorem decF_small (s : ByteArray) (i : Nat) (h : i ≤ 6) : 0 ≤ decF s i ∧ decF s i < 281474976710656 := by
  have h1 := decF_lt s i
  have h2 : 256 ^ i ≤ 256 ^ 6 := Nat.pow_le_pow_right (by decide) h
  omega
theorem i_DecodeFixed_l (s : ByteArray) (w : Nat) (hw : w ≤ 7) (hs : w ≤ s.size) (d : Nat) : ∀ i : Nat, i + d = w →
    Ev (fun k => impl_DecodeFixed.l0 k s (decF s i) w i) (decF s w, true) := by
  induction d with
  | zero =>
    intro i hi
    obtain rfl : i = w := by omega
    refine Ev.step (f := fun _ => some (decF s i, true)) (fun k => ?_) (Ev.now _)
    simp only [impl_DecodeFixed.l0]; rw [if_neg (by omega)]
  | succ d ih =>
    intro i hi
    have hb := bt_range s i
    have hd := decF_small s i (by omega)
    refine Ev.step (fun k => ?_) (ih (i + 1) (by omega))
    simp only [impl_DecodeFixed.l0]
    rw [if_pos (by omega), if_pos (by omega), if_pos (by omega), w64 (x := decF s i * 256) (by omega) (by omega), w64 (x := bt s i) (by omega) (by omega), or_256 _ _ hd.1 (by omega) hb.1 hb.2, w64 (by omega) (by omega)]
    rfl
def decFx (s : ByteArray) (w : Int) : Int × Bool := if 1 ≤ w ∧ w ≤ 7 ∧ w ≤ s.size then (decF s w.toNat, true) else (0, false)
theorem i_DecodeFixed (s : ByteArray) (w : Int) : Ev (fun k => impl_DecodeFixed.f k s w) (decFx s w) := by
  unfold impl_DecodeFixed.f decFx
  by_cases h1 : w < 1
  · simp only [if_pos h1]
    rw [if_neg (by omega)]
    refine Ev.step (f := fun _ => some (0, false)) (fun k => ?_) (Ev.now _)
    simp only [impl_DecodeFixed.j0, if_true]
  · simp only [if_neg h1]
    by_cases h2 : w > 7
    · simp only [if_pos h2]
      rw [if_neg (by omega)]
      refine Ev.step (f := fun _ => some (0, false)) (fun k => ?_) (Ev.now _)
      simp only [impl_DecodeFixed.j0, if_true]
    · simp only [if_neg h2]
      by_cases h3 : w ≤ s.size
      · rw [if_pos ⟨by omega, by omega, h3⟩]
        obtain ⟨n, rfl⟩ := Int.eq_ofNat_of_zero_le (show 0 ≤ w by omega)
        refine Ev.step (fun k => ?_) (i_DecodeFixed_l s n (by omega) (by omega) n 0 (by omega))
        simp only [impl_DecodeFixed.j0, decide_eq_true_eq]
        rw [if_neg (by omega)]
        rfl
      · rw [if_neg (by omega)]
        refine Ev.step (f := fun _ => some (0, false)) (fun k => ?_) (Ev.now _)
        simp only [impl_DecodeFixed.j0, decide_eq_true_eq]
        rw [if_pos (by omega)]
def hexdig : ByteArray := ⟨#[48, 49, 50, 51, 52, 53, 54, 55, 56, 57, 97, 98, 99, 100, 101, 102]⟩
def hexA (s : ByteArray) : Nat → Nat → List Int
  | 0, _ => []
  | d + 1, i => bt hexdig (bt s i / 16) :: bt hexdig (bt s i % 16) :: hexA s d (i + 1)
theorem i_EncodeHex_l (s : ByteArray) (hs : s.size ≤ 1048576) (d : Nat) : ∀ (i : Nat) (out : List Int), i + d = s.size → out.length = 2 * i →
    Ev (fun k => impl_EncodeHex.l0 k s out s.size i) (strOfNums (out ++ hexA s d i)) := by
  induction d with
  | zero =>
    intro i out hi ho
    refine Ev.step (f := fun _ => some (strOfNums out)) (fun k => ?_) (by rw [hexA, List.append_nil]; exact Ev.now _)
    simp only [impl_EncodeHex.l0]; rw [if_neg (by omega)]
  | succ d ih =>
    intro i out hi ho
    have hb := bt_range s i
    refine Ev.step (f := fun k => impl_EncodeHex.l0 k s (out ++ [bt hexdig (bt s i / 16), bt hexdig (bt s i % 16)]) s.size ((i + 1 : Nat) : Int)) (fun k => ?_) ?_
    · simp only [impl_EncodeHex.l0]
      rw [if_pos (by omega), if_pos (by omega), if_pos (by omega), if_pos (by omega), if_pos (by omega), Go.u8_and15 (x := bt s i) (by omega) (by omega), if_pos (by omega), if_pos (by omega)]
      simp only [Option.bind_some]
      rw [if_pos (by simp; omega), w64 (by omega) (by omega)]
      rfl
    · have := ih (i + 1) (out ++ [bt hexdig (bt s i / 16), bt hexdig (bt s i % 16)]) (by omega) (by simp; omega)
      rw [List.append_assoc] at this
      exact this
def hexS (s : ByteArray) : ByteArray := strOfNums (hexA s s.size 0)
theorem i_EncodeHex (s : ByteArray) (hs : s.size ≤ 1048576) : Ev (fun k => impl_EncodeHex.f k s) (hexS s) := i_EncodeHex_l s hs s.size 0 [] (by omega) rfl
def hexdig2 : ByteArray := ⟨#[48, 49, 50, 51, 52, 53, 54, 55, 56, 57, 97, 98, 99, 100, 101, 102]⟩
def hexv (b : Int) : Int := Lib.indexByte hexdig2.data.toList b.toNat.toUInt8
def hexF (b : Int) : Nat → Nat → Int
  | 0, _ => -1
  | d + 1, i => if bt hexdig2 i = b then (i : Int) else hexF b d (i + 1)
theorem hexF_v (b : Int) (h0 : 0 ≤ b) (h1 : b ≤ 255) : hexF b 16 0 = hexv b := by
  have h : ∀ n : Fin 256, hexF ((n.val : Nat) : Int) 16 0 = hexv ((n.val : Nat) : Int) := by decide +kernel
  have := h ⟨b.toNat, by omega⟩
  rwa [show (((⟨b.toNat, by omega⟩ : Fin 256).val : Nat) : Int) = b by simp; omega] at this
theorem hexv_b (b : Int) (h0 : 0 ≤ b) (h1 : b ≤ 255) : -1 ≤ hexv b ∧ hexv b < 16 := by
  have h : ∀ n : Fin 256, -1 ≤ hexv ((n.val : Nat) : Int) ∧ hexv ((n.val : Nat) : Int) < 16 := by decide +kernel
  have := h ⟨b.toNat, by omega⟩
  rwa [show (((⟨b.toNat, by omega⟩ : Fin 256).val : Nat) : Int) = b by simp; omega] at this
theorem i_IndexByte (b : Int) : strings_IndexByte.f (⟨#[48, 49, 50, 51, 52, 53, 54, 55, 56, 57, 97, 98, 99, 100, 101, 102]⟩ : ByteArray) b = some (hexv b) := rfl
def dhex (s : ByteArray) : Nat → Nat → List Int → ByteArray × Bool
  | 0, _, out => (strOfNums out, true)
  | d + 1, i, out => if hexv (bt s i) < 0 then (⟨#[]⟩, false) else if hexv (bt s ((i + 1 : Nat) : Int)) < 0 then (⟨#[]⟩, false) else dhex s d (i + 2) (out ++ [16 * hexv (bt s i) + hexv (bt s ((i + 1 : Nat) : Int))])
theorem or_16 (x b : Int) (h0 : 0 ≤ x) (h1 : x < 1000) (hb : 0 ≤ b) (hb1 : b < 16) : Go.bits .or .i64 (x * 16) b = 16 * x + b := by
  have wr : ∀ n : Int, 0 ≤ n → n < 2 ^ 63 → IntKind.i64.wrap n = n := by
    intro n h0 h1
    rw [IntKind.wrap_i64]; omega
  rw [Go.bits_join .i64 63 (by decide) wr 4 (x * 16) b (by omega) (by omega) (by omega) hb (by omega) (by omega)]
  omega
theorem i_DecodeHex_l (s : ByteArray) (hs : s.size ≤ 4194304) (d : Nat) : ∀ (i : Nat) (out : List Int), i + 2 * d = s.size → out.length ≤ i → Ev (fun k => impl_DecodeHex.l0 k s out i) (dhex s d i out) := by
  induction d with
  | zero =>
    intro i out hi ho
    refine Ev.step (f := fun _ => some (strOfNums out, true)) (fun k => ?_) (Ev.now _)
    simp only [impl_DecodeHex.l0]
    rw [if_neg (by omega)]
  | succ d ih =>
    intro i out hi ho
    have b1 := bt_range s i
    have b2 := bt_range s ((i + 1 : Nat) : Int)
    have v1 := hexv_b _ b1.1 b1.2
    have v2 := hexv_b _ b2.1 b2.2
    have e1 : wrap64 ((i : Int) + 1) = ((i + 1 : Nat) : Int) := by rw [w64 (by omega) (by omega)]; rfl
    rw [dhex]
    by_cases h1 : hexv (bt s i) < 0
    · rw [if_pos h1]
      refine Ev.step (f := fun _ => some _) (fun k => ?_) (Ev.now _)
      simp only [impl_DecodeHex.l0, i_IndexByte, Option.bind_some, e1]
      rw [if_pos (by omega), if_pos (by omega), if_pos (by omega), if_pos (by omega), if_pos h1]
    · rw [if_neg h1]
      by_cases h2 : hexv (bt s ((i + 1 : Nat) : Int)) < 0
      · rw [if_pos h2]
        refine Ev.step (f := fun _ => some _) (fun k => ?_) (Ev.now _)
        simp only [impl_DecodeHex.l0, i_IndexByte, Option.bind_some, e1]
        rw [if_pos (by omega), if_pos (by omega), if_pos (by omega), if_pos (by omega), if_neg h1, if_pos h2]
      · rw [if_neg h2]
        refine Ev.step (fun k => ?_) (ih (i + 2) _ (by omega) (by simp; omega))
        simp only [impl_DecodeHex.l0, i_IndexByte, Option.bind_some, e1]
        rw [if_pos (by omega), if_pos (by omega), if_pos (by omega), if_pos (by omega), if_neg h1, if_neg h2, if_pos (by omega), w64 (x := hexv (bt s i) * 16) (by omega) (by omega), or_16 _ _ (by omega) (by omega) (by omega) (by omega), w64 (x := (i : Int) + 2) (by omega) (by omega), show (16 * hexv (bt s i) + hexv (bt s ((i + 1 : Nat) : Int))) % 256 = 16 * hexv (bt s i) + hexv (bt s ((i + 1 : Nat) : Int)) by omega]
        rfl
def decH (s : ByteArray) : ByteArray × Bool := if s.size % 2 = 1 then (⟨#[]⟩, false) else dhex s (s.size / 2) 0 []
theorem i_DecodeHex (s : ByteArray) (hs : s.size ≤ 4194304) : Ev (fun k => impl_DecodeHex.f k s) (decH s) := by
  unfold impl_DecodeHex.f decH
  by_cases h : s.size % 2 = 1
  · simp only [if_pos h, if_neg (show ¬ ((s.size : Int)) % 2 = 0 by omega)]
    exact Ev.now _
  · simp only [if_neg h, if_pos (show ((s.size : Int)) % 2 = 0 by omega)]
    exact i_DecodeHex_l s hs (s.size / 2) 0 [] (by omega) (by simp)
def bs (l : List UInt8) : ByteArray := ⟨l.toArray⟩
theorem bs_append (a b : List UInt8) : bs (a ++ b) = bs a ++ bs b := by
  apply ByteArray.ext
  rw [ByteArray.data_append]
  simp [bs]
theorem bs_nil : bs [] = ByteArray.empty := rfl
theorem bs_data (s : ByteArray) : bs s.data.toList = s := by
  apply ByteArray.ext
  simp [bs]
theorem bs_toList (l : List UInt8) : (bs l).data.toList = l := by simp [bs]
theorem bs_size (l : List UInt8) : (bs l).size = l.length := by
  show l.toArray.size = l.length
  simp
theorem bs_inj {a b : List UInt8} (h : bs a = bs b) : a = b := by rw [← bs_toList a, ← bs_toList b, h]
def dec (n : Int) : ByteArray := bs (Lib.itoa n)
def dg (m : Nat) : List UInt8 := if m = 0 then [] else Lib.decDigits m
theorem decD_step (m : Nat) : Lib.decDigits m = dg (m / 10) ++ [UInt8.ofNat (48 + m % 10)] := by
  rw [Lib.decDigits]
  unfold dg
  by_cases h : m < 10
  · rw [dif_pos h, if_pos (by omega), show m % 10 = m by omega]
    rfl
  · rw [dif_neg h, if_neg (by omega)]
theorem dg_step (m : Nat) (h : 0 < m) : dg m = dg (m / 10) ++ [UInt8.ofNat (48 + m % 10)] := by
  rw [← decD_step]
  unfold dg
  rw [if_neg (by omega)]
theorem dg_len (f : Nat) : ∀ m : Nat, m < 10 ^ f → (dg m).length ≤ f := by
  induction f with
  | zero =>
    intro m h
    have : m = 0 := by omega
    subst this
    simp [dg]
  | succ f ih =>
    intro m h
    rcases Nat.eq_zero_or_pos m with h0 | h0
    · subst h0
      simp [dg]
    · rw [dg_step m h0, List.length_append]
      have := ih (m / 10) (by rw [Nat.pow_succ] at h; omega)
      simp
      omega
theorem decD_digit (m : Nat) : ∀ c ∈ Lib.decDigits m, 48 ≤ c.toNat ∧ c.toNat ≤ 57 := by
  induction m using Nat.strongRecOn with
  | ind m ih =>
    intro c hc
    rw [decD_step] at hc
    rcases List.mem_append.1 hc with h | h
    · unfold dg at h
      by_cases h0 : m / 10 = 0
      · rw [if_pos h0] at h
        cases h
      · rw [if_neg h0] at h
        exact ih (m / 10) (by omega) c h
    · rw [List.mem_singleton] at h
      subst h
      simp only [UInt8.toNat_ofNat']
      omega
theorem decD_ne (m : Nat) : Lib.decDigits m ≠ [] := by rw [decD_step]; simp
theorem dec_neg (n : Int) (h : n < 0) : dec n = bs (45 :: Lib.decDigits n.natAbs) := by unfold dec Lib.itoa; rw [if_pos h]
theorem dec_pos (n : Int) (h : ¬ n < 0) : dec n = bs (Lib.decDigits n.toNat) := by unfold dec Lib.itoa; rw [if_neg h]
theorem dec_small (n : Int) (h : -9223372036854775808 ≤ n) (h2 : n ≤ 9223372036854775807) : (dec n).size ≤ 30 := by
  have hl : ∀ m : Nat, m ≤ 9223372036854775808 → (Lib.decDigits m).length ≤ 21 := by
    intro m hm
    rw [decD_step, List.length_append]
    have := dg_len 20 (m / 10) (by omega)
    simp
    omega
  by_cases h0 : n < 0
  · rw [dec_neg n h0, bs_size, List.length_cons]
    have := hl n.natAbs (by omega)
    omega
  · rw [dec_pos n h0, bs_size]
    have := hl n.toNat (by omega)
    omega
def pf : List UInt8 → Nat × Nat → Nat × Nat
  | [], p => p
  | c :: l, p => pf l (if 48 ≤ c.toNat ∧ c.toNat ≤ 57 then (p.1 * 10 + (c.toNat - 48), p.2 + 1) else p)
theorem pf_append (a b : List UInt8) : ∀ p, pf (a ++ b) p = pf b (pf a p) := by
  induction a with
  | nil => intro p; rfl
  | cons c a ih => intro p; rw [List.cons_append, pf, pf, ih]
theorem pf_b (l : List UInt8) : ∀ p : Nat × Nat, p.1 < 10 ^ p.2 → (pf l p).1 < 10 ^ (pf l p).2 ∧ (pf l p).2 ≤ p.2 + l.length := by
  induction l with
  | nil => intro p h; exact ⟨h, by simp [pf]⟩
  | cons c l ih =>
    intro p h
    rw [pf]
    by_cases hc : 48 ≤ c.toNat ∧ c.toNat ≤ 57
    · rw [if_pos hc]
      have := ih (p.1 * 10 + (c.toNat - 48), p.2 + 1) (by simp only [Nat.pow_succ]; omega)
      simp only at this
      rw [List.length_cons]
      exact ⟨this.1, by omega⟩
    · rw [if_neg hc]
      have := ih p h
      rw [List.length_cons]
      exact ⟨this.1, by omega⟩
theorem pf_dg (f : Nat) : ∀ m : Nat, m < 10 ^ f → ∃ k, pf (dg m) (0, 0) = (m, k) ∧ k = (dg m).length := by
  induction f with
  | zero =>
    intro m h
    have : m = 0 := by omega
    subst this
    exact ⟨0, rfl, rfl⟩
  | succ f ih =>
    intro m h
    rcases Nat.eq_zero_or_pos m with h0 | h0
    · subst h0
      exact ⟨0, rfl, rfl⟩
    · obtain ⟨k, hk, hl⟩ := ih (m / 10) (by rw [Nat.pow_succ] at h; omega)
      refine ⟨k + 1, ?_, ?_⟩
      · rw [dg_step m h0, pf_append, hk, pf, pf]
        simp only [UInt8.toNat_ofNat']
        rw [if_pos (by omega)]
        congr 1
        omega
      · rw [dg_step m h0, List.length_append, hl]
        rfl
theorem pf_decD (m : Nat) (h : m ≤ 999999999) : ∃ k, pf (Lib.decDigits m) (0, 0) = (m, k) ∧ k = (Lib.decDigits m).length ∧ k ≤ 9 := by
  rcases Nat.eq_zero_or_pos m with h0 | h0
  · subst h0
    refine ⟨1, ?_, ?_, by omega⟩ <;> rw [decD_step] <;> rfl
  · have hd : dg m = Lib.decDigits m := by unfold dg; rw [if_neg (by omega)]
    obtain ⟨k, hk, hl⟩ := pf_dg 9 m (by omega)
    have := dg_len 9 m (by omega)
    rw [hd] at hk hl this
    exact ⟨k, hk, hl, by omega⟩
def isNeg (s : ByteArray) : Prop := 0 < s.size ∧ bt s 0 = 45
instance (s : ByteArray) : Decidable (isNeg s) := by unfold isNeg; infer_instance
def parF (s : ByteArray) (q : Nat × Nat) : Int × Bool :=
  if 9 < q.2 then (0, false) else if 10 < s.size then (0, false) else if dec (if isNeg s then -(q.1 : Int) else (q.1 : Int)) = s then ((if isNeg s then -(q.1 : Int) else (q.1 : Int)), true) else (0, false)
def parI (s : ByteArray) : Int × Bool := parF s (pf (s.data.toList.take 11) (0, 0))
theorem bt_u8 (s : ByteArray) (i : Nat) (h : i < s.data.toList.length) : bt s (i : Int) = ((s.data.toList[i]).toNat : Int) := by
  unfold bt
  rw [dif_pos (show ((i : Int)).toNat < s.size by rw [show ((i : Int)).toNat = i by omega]; rw [Array.length_toList] at h; exact h)]
  congr 1
theorem parI_true {s : ByteArray} {v : Int} (h : parI s = (v, true)) : dec v = s ∧ -999999999 ≤ v ∧ v ≤ 999999999 := by
  unfold parI parF at h
  have hb := pf_b (s.data.toList.take 11) (0, 0) (by simp)
  generalize hq : pf (s.data.toList.take 11) (0, 0) = q at h hb
  by_cases h1 : 9 < q.2
  · rw [if_pos h1] at h; cases h
  · rw [if_neg h1] at h
    by_cases h2 : 10 < s.size
    · rw [if_pos h2] at h; cases h
    · rw [if_neg h2] at h
      have hp : 10 ^ q.2 ≤ 10 ^ 9 := Nat.pow_le_pow_right (by decide) (by omega)
      by_cases h3 : dec (if isNeg s then -(q.1 : Int) else (q.1 : Int)) = s
      · rw [if_pos h3] at h
        injection h with h4 _
        rw [h4] at h3
        refine ⟨h3, ?_⟩
        by_cases h5 : isNeg s
        · rw [if_pos h5] at h4; omega
        · rw [if_neg h5] at h4; omega
      · rw [if_neg h3] at h; cases h
theorem parI_or (s : ByteArray) : parI s = (0, false) ∨ ∃ v, parI s = (v, true) := by
  unfold parI parF
  generalize pf (s.data.toList.take 11) (0, 0) = q
  generalize (if isNeg s then -(q.1 : Int) else (q.1 : Int)) = v
  by_cases h1 : 9 < q.2
  · rw [if_pos h1]; exact .inl rfl
  · rw [if_neg h1]
    by_cases h2 : 10 < s.size
    · rw [if_pos h2]; exact .inl rfl
    · rw [if_neg h2]
      by_cases h3 : dec v = s
      · rw [if_pos h3]; exact .inr ⟨_, rfl⟩
      · rw [if_neg h3]; exact .inl rfl
theorem bt_bs (l : List UInt8) (c : UInt8) : bt (bs (c :: l)) 0 = (c.toNat : Int) := by
  have h := bt_u8 (bs (c :: l)) 0 (by rw [bs_toList]; simp)
  have e : ∀ (t : List UInt8) (ht : t = c :: l) (hh : 0 < t.length), t[0] = c := by
    intro t ht hh
    subst ht
    rfl
  rw [e _ (bs_toList _)] at h
  exact h
theorem dec_head (v : Int) : isNeg (dec v) ↔ v < 0 := by
  by_cases h : v < 0
  · rw [dec_neg v h]
    refine ⟨fun _ => h, fun _ => ⟨by rw [bs_size]; simp, ?_⟩⟩
    rw [bt_bs]
    rfl
  · rw [dec_pos v h]
    refine ⟨fun hn => ?_, fun hn => absurd hn h⟩
    exfalso
    obtain ⟨h0, h1⟩ := hn
    have hd := decD_digit v.toNat
    cases hl : Lib.decDigits v.toNat with
    | nil => exact decD_ne _ hl
    | cons c r =>
      rw [hl] at hd h1
      rw [bt_bs] at h1
      have := hd c (by simp)
      omega
theorem parI_dec (v : Int) (h : -999999999 ≤ v) (h2 : v ≤ 999999999) : parI (dec v) = (v, true) ∧ (dec v).size ≤ 10 := by
  obtain ⟨k, hk, hl, h9⟩ := pf_decD v.natAbs (by omega)
  have hpf : pf ((dec v).data.toList.take 11) (0, 0) = (v.natAbs, k) ∧ (dec v).size ≤ 10 := by
    by_cases hn : v < 0
    · rw [dec_neg v hn, bs_size, bs_toList, List.length_cons, List.take_of_length_le (by rw [List.length_cons]; omega), pf, if_neg (by decide)]
      exact ⟨hk, by omega⟩
    · rw [dec_pos v hn, bs_size, bs_toList, show v.toNat = v.natAbs by omega, List.take_of_length_le (by omega)]
      exact ⟨hk, by omega⟩
  refine ⟨?_, hpf.2⟩
  have hv : (if isNeg (dec v) then -(v.natAbs : Int) else (v.natAbs : Int)) = v := by
    by_cases hn : v < 0
    · rw [if_pos ((dec_head v).2 hn)]; omega
    · rw [if_neg (fun x => hn ((dec_head v).1 x))]; omega
  unfold parI parF
  rw [hpf.1]
  simp only [hv]
  rw [if_neg (by omega), if_neg (by omega), if_pos trivial]
theorem accV_cons (y : Int) (s : List Int) (d : Nat) : ∀ i, accV (y :: s) (i + 1) d = accV s i d := by
  induction d with
  | zero => intro i; rfl
  | succ d ih => intro i; rw [accV, accV, ih (i + 1), List.getD_cons_succ]
theorem vencA_len (f : Nat) : ∀ x, (vencA f x).length ≤ f + 1 := by
  induction f with
  | zero => intro x; simp [vencA]
  | succ f ih =>
    intro x
    rw [vencA]
    by_cases h : 128 ≤ x
    · rw [if_pos h, List.length_cons]
      have := ih (x / 128)
      omega
    · rw [if_neg h]; simp
theorem vencA_pos (f : Nat) (x : Int) : 1 ≤ (vencA f x).length := by
  cases f with
  | zero => simp [vencA]
  | succ f =>
    rw [vencA]
    by_cases h : 128 ≤ x
    · rw [if_pos h]; simp
    · rw [if_neg h]; simp
theorem accV_back (f : Nat) : ∀ (x : Int) (t : List Int), 0 ≤ x → x < ((128 ^ (f + 1) : Nat) : Int) → accV (vencA f x ++ t) 0 (vencA f x).length = x := by
  induction f with
  | zero =>
    intro x t h0 h1
    rw [vencA]
    simp [accV]
    omega
  | succ f ih =>
    intro x t h0 h1
    rw [vencA]
    by_cases h : 128 ≤ x
    · rw [if_pos h, List.cons_append, List.length_cons, accV, Nat.zero_add, show (1 : Nat) = 0 + 1 from rfl, accV_cons, ih (x / 128) t (by omega) (by rw [Nat.pow_succ] at h1; omega), List.getD_cons_zero]
      omega
    · rw [if_neg h]
      simp [accV]
      omega
theorem resV_back (n : Int) (t : ByteArray) (h0 : 0 ≤ n) (h1 : n ≤ 562949953421311) (f : Nat) : ∀ i : Nat, i + f = 7 → i < (vencA 6 n).length → resV (venc n ++ t) f i = (n, ((venc n).size : Int)) := by
  have hv := venc_bl n h0 h1
  have hs : bl (venc n ++ t) = vencA 6 n ++ bl t := by rw [bl_append, hv]
  have hz : (venc n).size = (vencA 6 n).length := by rw [← bl_length, hv]
  have hl := vencA_len 6 n
  obtain ⟨g1, g2, g3, g4⟩ := vencA_good 6 n h0 (by omega)
  induction f with
  | zero => intro i hi hlt; omega
  | succ f ih =>
    intro i hi hlt
    rw [resV, if_pos (by rw [ByteArray.size_append, hz]; omega), hs]
    have hg : (vencA 6 n ++ bl t).getD i 0 = (vencA 6 n).getD i 0 := by
      rw [List.getD_eq_getElem?_getD, List.getD_eq_getElem?_getD, List.getElem?_append_left hlt]
    rw [hg]
    by_cases hlast : i + 1 = (vencA 6 n).length
    · have e : i = (vencA 6 n).length - 1 := by omega
      rw [e, if_pos g4, ← e, hlast, accV_back 6 n (bl t) h0 (by omega)]
      have ht : tV (venc n ++ t) (vencA 6 n).length := by
        unfold tV
        rw [hs, accV_back 6 n (bl t) h0 (by omega)]
        apply bl_inj
        rw [bl_extract0, hs, hv, List.take_left]
      rw [if_pos ht, hz]
    · have := g3 i (by omega)
      rw [if_neg (by omega)]
      exact ih (i + 1) (by omega) (by omega)
theorem venc_ne (n : Int) : venc n ≠ ⟨#[]⟩ ↔ 0 ≤ n ∧ n ≤ 562949953421311 := by
  constructor
  · intro h
    exact Classical.byContradiction fun c => h (by unfold venc; rw [if_neg c])
  · intro c h
    have h1 := venc_bl n c.1 c.2
    have h2 := vencA_pos 6 n
    rw [← h1, h, bl_nil] at h2
    simp at h2
theorem venc_size (n : Int) : (venc n).size ≤ 7 := by
  by_cases c : 0 ≤ n ∧ n ≤ 562949953421311
  · rw [← bl_length, venc_bl n c.1 c.2]
    exact vencA_len 6 n
  · have : venc n = ⟨#[]⟩ := Classical.byContradiction fun h => c ((venc_ne n).1 h)
    rw [this]
    exact Nat.zero_le _
theorem efL_range (w : Nat) : ∀ n, ∀ x ∈ efL w n, 0 ≤ x ∧ x ≤ 255 := by
  induction w with
  | zero => intro n x hx; simp [efL] at hx
  | succ w ih =>
    intro n x hx
    rw [efL] at hx
    rcases List.mem_append.1 hx with h | h
    · exact ih _ x h
    · rw [List.mem_singleton] at h; omega
theorem decF_back (w : Nat) : ∀ (n : Int) (t : List Int) (s : ByteArray), bl s = efL w n ++ t → 0 ≤ n → n < ((256 ^ w : Nat) : Int) → decF s w = n := by
  induction w with
  | zero => intro n t s _ h0 h1; simp [decF]; omega
  | succ w ih =>
    intro n t s hs h0 h1
    rw [Nat.pow_succ] at h1
    have e : bl s = efL w (n / 256) ++ ([n % 256] ++ t) := by rw [hs, efL, List.append_assoc]
    rw [decF, ih (n / 256) _ s e (by omega) (by omega), bt_bl, e, show ((w : Int)).toNat = w by omega, List.getD_eq_getElem?_getD, List.getElem?_append_right (by rw [efL_length]; exact Nat.le_refl _), efL_length]
    simp
    omega
theorem encF_size (n w : Int) : (encF n w).size ≤ 7 := by
  unfold encF
  by_cases c : (1 ≤ w ∧ w ≤ 7) ∧ 0 ≤ n ∧ n < ((256 ^ w.toNat : Nat) : Int)
  · rw [if_pos c, strOfNums_size, efL_length]; omega
  · rw [if_neg c]; exact Nat.zero_le _
theorem encF_back (n w : Int) (t : ByteArray) (h : encF n w ≠ ⟨#[]⟩) : decFx (encF n w ++ t) w = (n, true) ∧ ((encF n w).size : Int) = w := by
  have c : (1 ≤ w ∧ w ≤ 7) ∧ 0 ≤ n ∧ n < ((256 ^ w.toNat : Nat) : Int) := Classical.byContradiction fun c => h (by unfold encF; rw [if_neg c])
  have e : encF n w = strOfNums (efL w.toNat n) := by unfold encF; rw [if_pos c]
  have hz : (encF n w).size = w.toNat := by rw [e, strOfNums_size, efL_length]
  refine ⟨?_, by omega⟩
  unfold decFx
  rw [if_pos ⟨c.1.1, c.1.2, by rw [ByteArray.size_append, hz]; omega⟩, decF_back w.toNat n (bl t) _ (by rw [bl_append, e, bl_strOfNums _ (efL_range _ _)]) c.2.1 c.2.2]
theorem hexv_back (k : Int) (h0 : 0 ≤ k) (h1 : k < 16) : hexv (bt hexdig k) = k ∧ 0 ≤ bt hexdig k ∧ bt hexdig k ≤ 255 := by
  have h : ∀ n : Fin 16, hexv (bt hexdig ((n.val : Nat) : Int)) = ((n.val : Nat) : Int) := by decide +kernel
  have := h ⟨k.toNat, by omega⟩
  rw [show (((⟨k.toNat, by omega⟩ : Fin 16).val : Nat) : Int) = k by simp; omega] at this
  exact ⟨this, bt_range _ _⟩
theorem hexA_len (s : ByteArray) (d : Nat) : ∀ i, (hexA s d i).length = 2 * d := by
  induction d with
  | zero => intro i; rfl
  | succ d ih => intro i; rw [hexA, List.length_cons, List.length_cons, ih]; omega
theorem hexA_range (s : ByteArray) (d : Nat) : ∀ i, ∀ x ∈ hexA s d i, 0 ≤ x ∧ x ≤ 255 := by
  induction d with
  | zero => intro i x hx; simp [hexA] at hx
  | succ d ih =>
    intro i x hx
    rw [hexA] at hx
    rcases List.mem_cons.1 hx with rfl | hx
    · exact bt_range _ _
    · rcases List.mem_cons.1 hx with rfl | hx
      · exact bt_range _ _
      · exact ih _ x hx
theorem dhex_back (s t : ByteArray) (d : Nat) : ∀ (i : Nat) (out : List Int), i + d = s.size → (bl t).drop (2 * i) = hexA s d i → dhex t d (2 * i) out = (strOfNums (out ++ (bl s).drop i), true) := by
  induction d with
  | zero =>
    intro i out hi h
    rw [dhex, List.drop_eq_nil_of_le (by rw [bl_length]; omega), List.append_nil]
  | succ d ih =>
    intro i out hi h
    rw [hexA] at h
    have g0 : (bl t)[2 * i]? = some (bt hexdig (bt s i / 16)) := by
      have := congrArg (fun l => l[0]?) h
      simpa using this
    have g1 : (bl t)[2 * i + 1]? = some (bt hexdig (bt s i % 16)) := by
      have := congrArg (fun l => l[1]?) h
      simpa using this
    have b0 : bt t ((2 * i : Nat) : Int) = bt hexdig (bt s i / 16) := by
      rw [bt_bl, show (((2 * i : Nat) : Int)).toNat = 2 * i by omega, List.getD_eq_getElem?_getD, g0]
      rfl
    have b1 : bt t ((2 * i + 1 : Nat) : Int) = bt hexdig (bt s i % 16) := by
      rw [bt_bl, show (((2 * i + 1 : Nat) : Int)).toNat = 2 * i + 1 by omega, List.getD_eq_getElem?_getD, g1]
      rfl
    have hr := bt_range s i
    have v0 := hexv_back (bt s i / 16) (by omega) (by omega)
    have v1 := hexv_back (bt s i % 16) (by omega) (by omega)
    rw [dhex, b0, b1, v0.1, v1.1, if_neg (by omega), if_neg (by omega), show 16 * (bt s i / 16) + bt s i % 16 = bt s i by omega, show 2 * i + 2 = 2 * (i + 1) by omega,
      ih (i + 1) _ (by omega) (by
        have := congrArg (fun l => l.drop 2) h
        simpa [List.drop_drop, show 2 * i + 2 = 2 * (i + 1) by omega] using this), List.append_assoc]
    congr 3
    rw [List.drop_eq_getElem_cons (show i < (bl s).length by rw [bl_length]; omega), bt_bl, show ((i : Int)).toNat = i by omega, List.getD_eq_getElem?_getD, List.getElem?_eq_getElem (show i < (bl s).length by rw [bl_length]; omega)]
    rfl
theorem hexS_size (s : ByteArray) : (hexS s).size = 2 * s.size := by unfold hexS; rw [strOfNums_size, hexA_len]
theorem hexS_back (s : ByteArray) : decH (hexS s) = (s, true) := by
  unfold decH
  have hz := hexS_size s
  rw [if_neg (by omega), hz, show 2 * s.size / 2 = s.size by omega, show (0 : Nat) = 2 * 0 by rfl, dhex_back s (hexS s) s.size 0 [] (by omega) (by
    rw [Nat.mul_zero, List.drop_zero]
    exact bl_strOfNums _ (hexA_range _ _ _)), List.nil_append, List.drop_zero, strOfNums_bl]
theorem pf_any (m : Nat) : ∃ k, pf (Lib.decDigits m) (0, 0) = (m, k) := by
  rcases Nat.eq_zero_or_pos m with h0 | h0
  · subst h0
    exact ⟨1, by rw [decD_step]; rfl⟩
  · have hd : dg m = Lib.decDigits m := by unfold dg; rw [if_neg (by omega)]
    obtain ⟨k, hk, _⟩ := pf_dg m m (Nat.lt_pow_self (by decide))
    rw [hd] at hk
    exact ⟨k, hk⟩
theorem dec_inj {v w : Int} (h : dec v = dec w) : v = w := by
  have hs : v < 0 ↔ w < 0 := by rw [← dec_head v, ← dec_head w, h]
  have hd : Lib.decDigits v.natAbs = Lib.decDigits w.natAbs := by
    by_cases c : v < 0
    · rw [dec_neg v c, dec_neg w (hs.1 c)] at h
      exact (List.cons.inj (bs_inj h)).2
    · rw [dec_pos v c, dec_pos w (fun x => c (hs.2 x))] at h
      have h2 := bs_inj h
      rwa [show v.toNat = v.natAbs by omega, show w.toNat = w.natAbs by omega] at h2
  obtain ⟨k1, e1⟩ := pf_any v.natAbs
  obtain ⟨k2, e2⟩ := pf_any w.natAbs
  rw [hd, e2] at e1
  have := congrArg Prod.fst e1
  simp only at this
  omega
theorem parI_far (v : Int) (h : ¬ (-999999999 ≤ v ∧ v ≤ 999999999)) : parI (dec v) = (0, false) := by
  rcases parI_or (dec v) with h0 | ⟨u, hu⟩
  · exact h0
  · exfalso
    have := parI_true hu
    have e := dec_inj this.1
    omega
theorem and_255 (y : Int) : 0 ≤ Go.bits .and .i64 y 255 ∧ Go.bits .and .i64 y 255 ≤ 255 := by
  have e : Go.bits .and .i64 y 255 = IntKind.i64.wrap (((BitVec.ofInt 64 y).toNat &&& 255 : Nat) : Int) := by
    show IntKind.i64.wrap _ = _
    congr 1
  have h : (BitVec.ofInt 64 y).toNat &&& 255 ≤ 255 := Nat.and_le_right
  rw [e, IntKind.wrap_i64]
  omega
theorem l1New_l (l : List Int) (hl : l.length ≤ maxLen) (d : Nat) : ∀ (i : Nat) (h : Int), i + d = 4000 → ∃ h', Ev (fun k => spec_l1New.l0 k l h i) (l, 0, h') := by
  induction d with
  | zero =>
    intro i h hi
    refine ⟨h, Ev.step (f := fun _ => some _) (fun k => ?_) (Ev.now _)⟩
    simp only [spec_l1New.l0]
    rw [if_neg (show ¬ (i : Int) < 4000 by omega)]
    first | done | (split <;> rfl)
  | succ d ih =>
    intro i h hi
    by_cases h1 : (i : Int) < l.length
    · obtain ⟨h', hh⟩ := ih (i + 1) (Go.bits .and .i64 (wrap64 ((wrap64 ((wrap64 (h * 131)) + (wrap64 (rd l i)))) + 7)) 1073741823) (by omega)
      refine ⟨h', Ev.step (fun k => ?_) hh⟩
      simp only [spec_l1New.l0]
      rw [if_pos h1, if_pos (by omega), if_pos (by omega), w64 (x := (i : Int) + 1) (by omega) (by omega)]
      rfl
    · refine ⟨h, Ev.step (f := fun _ => some _) (fun k => ?_) (Ev.now _)⟩
      simp only [spec_l1New.l0]
      rw [if_neg h1]
theorem l1New (l : List Int) (hl : l.length ≤ maxLen) : ∃ h, Ev (fun k => spec_l1New.f k l) (l, 0, h) := l1New_l l hl 4000 0 _ rfl
theorem l1Byte (b : List Int) (i h : Int) (hb : b.length ≤ maxLen) (hi : 0 ≤ i) : ∃ x i' h', spec_l1Byte.f b i h = some (x, i', h') ∧ 0 ≤ x ∧ x ≤ 255 ∧ 0 ≤ i' := by
  unfold maxLen at hb
  unfold spec_l1Byte.f
  by_cases h1 : i < b.length
  · rw [if_pos h1, if_pos hi]
    refine ⟨_, _, _, rfl, (and_255 _).1, (and_255 _).2, ?_⟩
    rw [w64 (by omega) (by omega)]
    omega
  · rw [if_neg h1]
    exact ⟨_, _, _, rfl, (and_255 _).1, (and_255 _).2, hi⟩
theorem l1Below (b : List Int) (i h n : Int) (hb : b.length ≤ maxLen) (hi : 0 ≤ i) (hn : n ≤ 4294967296) : ∃ x i' h', spec_l1Below.f b i h n = some (x, i', h') ∧ 0 ≤ x ∧ (0 < n → x < n) ∧ (n ≤ 0 → x = 0) ∧ x ≤ 4294967296 ∧ 0 ≤ i' := by
  unfold spec_l1Below.f
  by_cases h1 : n ≤ 0
  · rw [if_pos h1]
    exact ⟨_, _, _, rfl, by omega, by omega, fun _ => rfl, by omega, hi⟩
  · rw [if_neg h1]
    by_cases h2 : n ≤ 256
    · rw [if_pos h2]
      obtain ⟨x, i', h', e, x0, x1, hi'⟩ := l1Byte b i h hb hi
      rw [e]
      simp only [Option.bind_some]
      rw [if_neg (by omega), tmod_pos x0]
      exact ⟨_, _, _, rfl, Int.emod_nonneg _ (by omega), fun _ => Int.emod_lt_of_pos _ (by omega), by omega, by have := Int.emod_lt_of_pos x (show 0 < n by omega); omega, hi'⟩
    · rw [if_neg h2]
      obtain ⟨x, i1, h1', e1, x0, x1, hi1⟩ := l1Byte b i h hb hi
      obtain ⟨y, i2, h2', e2, y0, y1, hi2⟩ := l1Byte b i1 h1' hb hi1
      obtain ⟨z, i3, h3', e3, z0, z1, hi3⟩ := l1Byte b i2 h2' hb hi2
      obtain ⟨u, i4, h4', e4, u0, u1, hi4⟩ := l1Byte b i3 h3' hb hi3
      rw [e1]
      simp only [Option.bind_some]
      rw [e2]
      simp only [Option.bind_some]
      rw [e3]
      simp only [Option.bind_some]
      rw [e4]
      simp only [Option.bind_some]
      rw [if_neg (by omega), w64 (x := x * 16777216) (by omega) (by omega), w64 (x := y * 65536) (by omega) (by omega), w64 (x := z * 256) (by omega) (by omega), w64 (x := x * 16777216 + y * 65536) (by omega) (by omega), w64 (x := x * 16777216 + y * 65536 + z * 256) (by omega) (by omega), w64 (x := x * 16777216 + y * 65536 + z * 256 + u) (by omega) (by omega), tmod_pos (by omega)]
      exact ⟨_, _, _, rfl, Int.emod_nonneg _ (by omega), fun _ => Int.emod_lt_of_pos _ (by omega), by omega, by have := Int.emod_lt_of_pos (x * 16777216 + y * 65536 + z * 256 + u) (show 0 < n by omega); omega, hi4⟩
theorem l1PickInt (b : List Int) (i h : Int) (l : List Int) (hb : b.length ≤ maxLen) (hi : 0 ≤ i) (h0 : 0 < l.length) (h1 : l.length ≤ 256) : ∃ x i' h', spec_l1PickInt.f b i h l = some (x, i', h') ∧ x ∈ l ∧ 0 ≤ i' := by
  obtain ⟨x, i', h', e, x0, x1, _, _, hi'⟩ := l1Below b i h (l.length : Int) hb hi (by omega)
  have hx := x1 (by omega)
  unfold spec_l1PickInt.f
  rw [e]
  simp only [Option.bind_some]
  rw [if_pos x0, if_pos hx]
  refine ⟨_, _, _, rfl, ?_, hi'⟩
  unfold rd
  rw [List.getD_eq_getElem?_getD, List.getElem?_eq_getElem (show x.toNat < l.length by omega)]
  exact List.getElem_mem _
theorem l1Num (b : List Int) (i h : Int) (hb : b.length ≤ maxLen) (hi : 0 ≤ i) : ∃ x i' h', spec_l1Num.f b i h = some (x, i', h') ∧ -9223372036854775808 ≤ x ∧ x ≤ 9223372036854775807 ∧ 0 ≤ i' := by
  unfold spec_l1Num.f
  obtain ⟨x, i1, h1, e1, x0, _, _, _, hi1⟩ := l1Below b i h 8 hb hi (by omega)
  rw [e1]
  simp only [Option.bind_some]
  by_cases c0 : x = 0
  · rw [if_pos c0]
    obtain ⟨y, i2, h2, e2, hy, hi2⟩ := l1PickInt b i1 h1 [(-1), 0, 127, 128, 255, 256, 16383, 16384, 65535, 65536, 562949953421311, 562949953421312, 999999999, 1000000000, (-999999999), 9223372036854775807, (-9223372036854775808)] hb hi1 (by simp) (by simp)
    rw [e2]
    simp only [Option.bind_some]
    refine ⟨_, _, _, rfl, ?_, ?_, hi2⟩
    · simp at hy; omega
    · simp at hy; omega
  · rw [if_neg c0]
    by_cases c1 : x = 1
    · rw [if_pos c1]
      obtain ⟨y, i2, h2, e2, y0, _, _, _, hi2⟩ := l1Below b i1 h1 1000000000 hb hi1 (by omega)
      rw [e2]
      simp only [Option.bind_some]
      obtain ⟨z, i3, h3, e3, z0, _, _, _, hi3⟩ := l1Below b i2 h2 1000000000 hb hi2 (by omega)
      rw [e3]
      simp only [Option.bind_some]
      exact ⟨_, _, _, rfl, by unfold wrap64; omega, by unfold wrap64; omega, hi3⟩
    · rw [if_neg c1]
      by_cases c2 : x = 2
      · rw [if_pos c2]
        obtain ⟨y, i2, h2, e2, y0, _, _, _, hi2⟩ := l1Below b i1 h1 100000 hb hi1 (by omega)
        rw [e2]
        simp only [Option.bind_some]
        exact ⟨_, _, _, rfl, by unfold wrap64; omega, by unfold wrap64; omega, hi2⟩
      · rw [if_neg c2]
        obtain ⟨y, i2, h2, e2, y0, _, _, y1, hi2⟩ := l1Below b i1 h1 70000 hb hi1 (by omega)
        rw [e2]
        simp only [Option.bind_some]
        exact ⟨_, _, _, rfl, by omega, by omega, hi2⟩
theorem l1Text_l (b : List Int) (hb : b.length ≤ maxLen) (st : Int) (n : Nat) : ∀ (out : List Int) (i h : Int), 0 ≤ i → out.length + n ≤ 1000 → ∃ s i' h', Ev (fun k => spec_l1Text.l0 k out st (n : Int) b i h) (s, i', h') ∧ s.size = out.length + n ∧ 0 ≤ i' := by
  induction n with
  | zero =>
    intro out i h hi ho
    refine ⟨strOfNums out, i, h, Ev.step (f := fun _ => some _) (fun k => ?_) (Ev.now _), ?_, hi⟩
    · simp only [spec_l1Text.l0]
      rw [if_neg (by omega)]
    · rw [strOfNums_size]; omega
  | succ n ih =>
    intro out i h hi ho
    obtain ⟨x, i1, h1, e1, x0, x1, hi1⟩ := l1Byte b i h hb hi
    have go : ∀ y : Int, ∃ s i' h', Ev (fun k => spec_l1Text.l0 k (out ++ [y]) st (n : Int) b i1 h1) (s, i', h') ∧ s.size = out.length + (n + 1) ∧ 0 ≤ i' := by
      intro y
      obtain ⟨s, i', h', e, hs, hi'⟩ := ih (out ++ [y]) i1 h1 hi1 (by simp; omega)
      exact ⟨s, i', h', e, by rw [hs]; simp; omega, hi'⟩
    have hw : wrap64 (((n + 1 : Nat) : Int) - 1) = (n : Int) := by unfold wrap64; omega
    by_cases c1 : st = 1
    · obtain ⟨s, i', h', e, hs⟩ := go ((Int.tmod x 2) % 256)
      refine ⟨s, i', h', Ev.step (fun k => ?_) e, hs⟩
      simp only [spec_l1Text.l0]
      rw [if_pos (by omega), e1]
      simp only [Option.bind_some]
      rw [if_pos c1, if_neg (by omega), if_pos (by omega), hw]
    · by_cases c2 : st = 2
      · obtain ⟨s, i', h', e, hs⟩ := go ((wrap64 (97 + (Int.tmod x 4))) % 256)
        refine ⟨s, i', h', Ev.step (fun k => ?_) e, hs⟩
        simp only [spec_l1Text.l0]
        rw [if_pos (by omega), e1]
        simp only [Option.bind_some]
        rw [if_neg c1, if_pos c2, if_pos (by omega), hw]
      · obtain ⟨s, i', h', e, hs⟩ := go (x % 256)
        refine ⟨s, i', h', Ev.step (fun k => ?_) e, hs⟩
        simp only [spec_l1Text.l0]
        rw [if_pos (by omega), e1]
        simp only [Option.bind_some]
        rw [if_neg c1, if_neg c2, if_pos (by omega), hw]
theorem l1Text (b : List Int) (i h most : Int) (hb : b.length ≤ maxLen) (hi : 0 ≤ i) (hm : 0 ≤ most) (hm2 : most ≤ 900) : ∃ s i' h', Ev (fun k => spec_l1Text.f k b i h most) (s, i', h') ∧ (s.size : Int) ≤ most ∧ 0 ≤ i' := by
  unfold spec_l1Text.f
  obtain ⟨x, i1, h1, e1, x0, _, _, _, hi1⟩ := l1Below b i h 4 hb hi (by omega)
  obtain ⟨y, i2, h2, e2, y0, y1, _, _, hi2⟩ := l1Below b i1 h1 (most + 1) hb hi1 (by omega)
  have y2 := y1 (by omega)
  obtain ⟨s, i', h', e, hs, hi'⟩ := l1Text_l b hb x y.toNat [] i2 h2 hi2 (by simp; omega)
  rw [show ((y.toNat : Nat) : Int) = y by omega] at e
  refine ⟨s, i', h', ?_, by rw [hs]; simp; omega, hi'⟩
  simp only [e1, Option.bind_some, w64 (x := most + 1) (by omega) (by omega), e2]
  exact e
theorem tmod_n (m : Nat) : Int.tmod (-(m : Int)) 10 = -((m % 10 : Nat) : Int) := by
  rw [Int.neg_tmod, tmod_pos (by omega)]
  omega
theorem tdiv_n (m : Nat) : Int.tdiv (-(m : Int)) 10 = -((m / 10 : Nat) : Int) := by
  rw [Int.neg_tdiv, tdiv_pos (by omega)]
  omega
theorem s_FormatInt_z (neg : Bool) (out : ByteArray) (ho : out.size ≤ 200) : Ev (fun k => spec_FormatInt.l0 k 0 out neg) ((if neg = true then bs [45] else bs []) ++ (bs (dg 0) ++ out)) := by
  have e : bs (dg 0) ++ out = out := by
    show bs [] ++ out = out
    rw [bs_nil, ByteArray.empty_append]
  rw [e]
  refine Ev.step (f := fun _ => some _) (fun k => ?_) (Ev.now _)
  simp only [spec_FormatInt.l0, if_true]
  cases neg with
  | true =>
    rw [if_pos rfl, if_pos rfl, if_pos (by omega)]
    rfl
  | false =>
    rw [if_neg (by decide), if_neg (by decide), bs_nil, ByteArray.empty_append]
theorem s_FormatInt_l (neg : Bool) (f : Nat) : ∀ (m : Nat) (x : Int) (out : ByteArray), (x = (m : Int) ∨ x = -(m : Int)) → m < 10 ^ f → m ≤ 9223372036854775808 → out.size + f ≤ 100 →
    Ev (fun k => spec_FormatInt.l0 k x out neg) ((if neg = true then bs [45] else bs []) ++ (bs (dg m) ++ out)) := by
  induction f with
  | zero =>
    intro m x out hx hm hm2 ho
    have h0 : m = 0 := by omega
    subst h0
    have hx0 : x = 0 := by omega
    subst hx0
    exact s_FormatInt_z neg out (by omega)
  | succ f ih =>
    intro m x out hx hm hm2 ho
    rcases Nat.eq_zero_or_pos m with h0 | h0
    · subst h0
      have hx0 : x = 0 := by omega
      subst hx0
      exact s_FormatInt_z neg out (by omega)
    · rw [dg_step m h0, bs_append, ByteArray.append_assoc]
      have hsz : (bs [UInt8.ofNat (48 + m % 10)] ++ out).size = 1 + out.size := by rw [ByteArray.size_append, bs_size]; rfl
      have hn : strOfNums [((48 + (m % 10 : Nat) : Nat) : Int)] = bs [UInt8.ofNat (48 + m % 10)] := by
        unfold strOfNums bs
        rfl
      have goal : ∀ x', (x' = ((m / 10 : Nat) : Int) ∨ x' = -((m / 10 : Nat) : Int)) → Ev (fun k => spec_FormatInt.l0 k x' (bs [UInt8.ofNat (48 + m % 10)] ++ out) neg) ((if neg = true then bs [45] else bs []) ++ (bs (dg (m / 10)) ++ (bs [UInt8.ofNat (48 + m % 10)] ++ out))) :=
        fun x' hx' => ih (m / 10) x' _ hx' (by rw [Nat.pow_succ] at hm; omega) (by omega) (by rw [hsz]; omega)
      rcases hx with hx | hx
      · subst hx
        refine Ev.step (fun k => ?_) (goal ((m / 10 : Nat) : Int) (.inl rfl))
        simp only [spec_FormatInt.l0, Option.bind_some]
        rw [if_neg (by omega), tmod_pos (show (0 : Int) ≤ (m : Int) by omega), tdiv_pos (show (0 : Int) ≤ (m : Int) by omega), if_neg (by omega), w64 (x := 48 + (m : Int) % 10) (by omega) (by omega), w64 (x := (m : Int) / 10) (by omega) (by omega),
          show (48 + (m : Int) % 10) % 256 = ((48 + (m % 10 : Nat) : Nat) : Int) by omega, hn, if_pos (by rw [bs_size]; simp; omega)]
        rfl
      · subst hx
        refine Ev.step (fun k => ?_) (goal (-((m / 10 : Nat) : Int)) (.inr rfl))
        simp only [spec_FormatInt.l0, Option.bind_some]
        rw [if_neg (by omega), tmod_n, tdiv_n]
        by_cases hz : m % 10 = 0
        · rw [if_neg (by omega), w64 (x := 48 + -((m % 10 : Nat) : Int)) (by omega) (by omega), w64 (x := -((m / 10 : Nat) : Int)) (by omega) (by omega),
            show (48 + -((m % 10 : Nat) : Int)) % 256 = ((48 + (m % 10 : Nat) : Nat) : Int) by omega, hn, if_pos (by rw [bs_size]; simp; omega)]
        · rw [if_pos (by omega), w64 (x := -(-((m % 10 : Nat) : Int))) (by omega) (by omega), w64 (x := 48 + -(-((m % 10 : Nat) : Int))) (by omega) (by omega), w64 (x := -((m / 10 : Nat) : Int)) (by omega) (by omega),
            show (48 + -(-((m % 10 : Nat) : Int))) % 256 = ((48 + (m % 10 : Nat) : Nat) : Int) by omega, hn, if_pos (by rw [bs_size]; simp; omega)]
theorem s_FormatInt (n : Int) (h : -9223372036854775808 ≤ n) (h2 : n ≤ 9223372036854775807) : Ev (fun k => spec_FormatInt.f k n) (dec n) := by
  unfold spec_FormatInt.f
  by_cases h0 : n = 0
  · simp only [if_pos h0]
    subst h0
    have e : dec 0 = (⟨#[48]⟩ : ByteArray) := by
      rw [dec_pos 0 (by omega), show (0 : Int).toNat = 0 by rfl, decD_step]
      rfl
    rw [e]
    exact Ev.now _
  · simp only [if_neg h0]
    have key := s_FormatInt_l (decide (n < 0)) 20 n.natAbs n ⟨#[]⟩ (by omega) (by omega) (by omega) (by simp [ByteArray.size])
    have e : (if decide (n < 0) = true then bs [45] else bs []) ++ (bs (dg n.natAbs) ++ (⟨#[]⟩ : ByteArray)) = dec n := by
      rw [show (⟨#[]⟩ : ByteArray) = bs [] from rfl, ← bs_append, List.append_nil]
      have hd : dg n.natAbs = Lib.decDigits n.natAbs := by unfold dg; rw [if_neg (by omega)]
      by_cases hn : n < 0
      · rw [if_pos (by simpa using hn), dec_neg n hn, ← bs_append, hd]
        rfl
      · rw [if_neg (by simpa using hn), dec_pos n hn, ← bs_append, hd, show n.natAbs = n.toNat by omega]
        rfl
    rw [e] at key
    exact key
theorem i_FormatInt (n : Int) (h : -9223372036854775808 ≤ n) (h2 : n ≤ 9223372036854775807) : impl_FormatInt.f n = some (dec n) := by
  unfold impl_FormatInt.f strconv_Itoa.f
  rw [if_pos ⟨h, h2⟩]
  rfl
theorem pu_append (a b : List UInt8) : ∀ (acc u : Nat), Lib.parseUint10 acc a = .ok u → Lib.parseUint10 acc (a ++ b) = Lib.parseUint10 u b := by
  induction a with
  | nil =>
    intro acc u h
    simp only [Lib.parseUint10] at h
    injection h with h
    rw [List.nil_append, h]
  | cons c a ih =>
    intro acc u h
    rw [List.cons_append]
    simp only [Lib.parseUint10] at h ⊢
    split at h
    · rename_i h1
      rw [if_pos h1]
      split at h
      · cases h
      · rename_i h2
        rw [if_neg h2]
        split at h
        · cases h
        · rename_i h3
          rw [if_neg h3]
          exact ih _ _ h
    · cases h
theorem pu_dg (f : Nat) (hf : f ≤ 10) : ∀ m : Nat, m < 10 ^ f → Lib.parseUint10 0 (dg m) = .ok m := by
  induction f with
  | zero =>
    intro m h
    have : m = 0 := by omega
    subst this
    rfl
  | succ f ih =>
    intro m h
    have hp : 10 ^ (f + 1) ≤ 10 ^ 10 := Nat.pow_le_pow_right (by decide) hf
    rcases Nat.eq_zero_or_pos m with h0 | h0
    · subst h0
      rfl
    · rw [dg_step m h0, pu_append _ _ _ _ (ih (by omega) (m / 10) (by rw [Nat.pow_succ] at h; omega))]
      simp only [Lib.parseUint10, UInt8.toNat_ofNat']
      rw [if_pos (by omega), if_neg (by omega), if_neg (by omega)]
      congr 1
      omega
theorem mag_decD (m : Nat) (h : m ≤ 999999999) : Lib.parseMag (Lib.decDigits m) = .ok m := by
  unfold Lib.parseMag
  rw [if_neg (decD_ne m)]
  rcases Nat.eq_zero_or_pos m with h0 | h0
  · subst h0
    rw [decD_step]
    rfl
  · have hd : dg m = Lib.decDigits m := by unfold dg; rw [if_neg (by omega)]
    rw [← hd]
    exact pu_dg 9 (by omega) m (by omega)
theorem atoi_dec (v : Int) (h : -999999999 ≤ v) (h2 : v ≤ 999999999) : Lib.atoiAll (Lib.itoa v) = .ok v := by
  unfold Lib.itoa
  by_cases hn : v < 0
  · rw [if_pos hn]
    unfold Lib.atoiAll
    simp only
    rw [if_pos (.inr (by decide)), mag_decD _ (by omega)]
    simp only
    rw [if_neg (fun x => x.1 (by decide)), if_neg (by omega), if_pos (by decide)]
    congr 1
    omega
  · rw [if_neg hn]
    obtain ⟨c, r, hcr⟩ : ∃ c r, Lib.decDigits v.toNat = c :: r := by
      cases hd : Lib.decDigits v.toNat with
      | nil => exact absurd hd (decD_ne _)
      | cons c r => exact ⟨c, r, rfl⟩
    have hc := decD_digit v.toNat c (by rw [hcr]; simp)
    have hm := mag_decD v.toNat (by omega)
    rw [hcr] at hm ⊢
    unfold Lib.atoiAll
    simp only
    rw [if_neg (by omega), hm]
    simp only
    rw [if_neg (by omega), if_neg (by omega), if_neg (by omega)]
    congr 1
    omega
theorem atoi_b {l : List UInt8} {v : Int} (h : Lib.atoiAll l = .ok v) : -9223372036854775808 ≤ v ∧ v ≤ 9223372036854775807 := by
  unfold Lib.atoiAll at h
  cases l with
  | nil => cases h
  | cons c r =>
    simp only at h
    split at h
    · cases h
    · cases h
    · rename_i u hu
      split at h
      · cases h
      · split at h
        · cases h
        · injection h with h
          split at h <;> omega
theorem i_ParseInt (s : ByteArray) (hs : s.size ≤ 4194304) : impl_ParseInt.f s = some (parI s) := by
  have back : ∀ v, parI s = (v, true) → Lib.atoiAll s.data.toList = .ok v := by
    intro v hv
    obtain ⟨hd, h1, h2⟩ := parI_true hv
    rw [← hd]
    unfold dec
    rw [bs_toList]
    exact atoi_dec v h1 h2
  have none_ : (∀ v, parI s ≠ (v, true)) → parI s = (0, false) := by
    intro h
    rcases parI_or s with h0 | ⟨v, hv⟩
    · exact h0
    · exact absurd hv (h v)
  unfold impl_ParseInt.f
  rw [if_pos (by omega)]
  cases hA : Lib.atoiAll s.data.toList with
  | ok v =>
    have hb := atoi_b hA
    simp only
    unfold impl_ParseInt.of
    rw [i_FormatInt v hb.1 hb.2]
    simp only [Option.bind_some]
    by_cases hd : dec v = s
    · rw [if_pos (toList_iff.2 hd)]
      by_cases h1 : v > 999999999
      · rw [if_pos h1, none_ (fun v' hv' => by
          have := back v' hv'
          rw [hA] at this
          injection this with this
          have := (parI_true hv').2
          omega)]
      · rw [if_neg h1]
        by_cases h2 : v < -999999999
        · rw [if_pos h2, none_ (fun v' hv' => by
            have := back v' hv'
            rw [hA] at this
            injection this with this
            have := (parI_true hv').2
            omega)]
        · rw [if_neg h2, ← hd, (parI_dec v (by omega) (by omega)).1]
    · rw [if_neg (fun x => hd (toList_iff.1 x)), none_ (fun v' hv' => by
        have := back v' hv'
        rw [hA] at this
        injection this with this
        rw [← this] at hv'
        exact hd (parI_true hv').1)]
  | _ =>
    simp only
    rw [none_ (fun v' hv' => by
      have := back v' hv'
      rw [hA] at this
      cases this)]

theorem nil_l : (⟨#[]⟩ : ByteArray).toList = ([] : List UInt8) := by rw [ByteArray.toList_eq]
theorem nil_ne (s : ByteArray) : (s.toList != ([] : List UInt8)) = decide (s ≠ ⟨#[]⟩) := by
  by_cases h : s = ⟨#[]⟩
  · rw [h, nil_l]
    simp
  · rw [decide_eq_true h]
    refine bne_iff_ne.2 (fun x => h ?_)
    exact toList_iff.1 (x.trans nil_l.symm)
theorem nil_iff (s : ByteArray) : s.toList = ([] : List UInt8) ↔ s = ⟨#[]⟩ := by
  constructor
  · intro x
    exact toList_iff.1 (x.trans nil_l.symm)
  · intro h
    rw [h, nil_l]
theorem ie_j1 (s : ByteArray) (hs : s.size ≤ 40) (w : Int) (h0 : -9223372036854775808 ≤ w) (h1 : w ≤ 9223372036854775807) : Ev (fun k => laws_FnIntegerEncodings.j1 k s w false) true := by
  have hz := hexS_size s
  have hd := dec_small w h0 h1
  refine Ev.step (f := fun k => (impl_EncodeHex.f k s).bind fun t248 => ((impl_DecodeHex.f k t248).bind fun bt249 => ((impl_FormatInt.f w).bind fun t251 => ((impl_ParseInt.f t251).bind fun bt252 => (if bt249.2 = true then (if bt249.1.toList = s.toList then (if (t248.size : Int) = (wrap64 (2 * (s.size : Int))) then ((spec_FormatInt.f k w).bind fun t254 => (if t251.toList = t254.toList then (if bt252.2 = true then (if bt252.1 = w then (if w > (-1000000000) then (some (bt252.2 == (decide (w < 1000000000)))) else (some (bt252.2 == false))) else (none)) else (if w > (-1000000000) then (some (bt252.2 == (decide (w < 1000000000)))) else (some (bt252.2 == false)))) else (none))) else (none)) else (none)) else (none)))))) (fun k => ?_) ?_
  · simp only [laws_FnIntegerEncodings.j1]
    rw [if_neg (by decide)]
  · refine Ev.bind (i_EncodeHex s (by omega)) ?_
    refine Ev.bind (i_DecodeHex (hexS s) (by omega)) ?_
    have hw : ((2 * s.size : Nat) : Int) = wrap64 (2 * (s.size : Int)) := by rw [w64 (by omega) (by omega)]; omega
    simp only [hexS_back, i_FormatInt w h0 h1, i_ParseInt (dec w) (by omega), Option.bind_some, if_true, hz, if_pos hw]
    refine Ev.bind (s_FormatInt w h0 h1) ?_
    simp only [if_true]
    by_cases c : -999999999 ≤ w ∧ w ≤ 999999999
    · simp only [(parI_dec w c.1 c.2).1, if_true]
      rw [if_pos (by omega), decide_eq_true (by omega)]
      exact Ev.now _
    · simp only [parI_far w c, Bool.false_eq_true, if_false]
      by_cases c2 : w > -1000000000
      · rw [if_pos c2, decide_eq_false (by omega)]
        exact Ev.now _
      · rw [if_neg c2]
        exact Ev.now _
theorem ie_j0 (l : List Int) (hl : l.length ≤ maxLen) (s : ByteArray) (hs : s.size ≤ 40) : Ev (fun k => laws_FnIntegerEncodings.j0 k l s false) true := by
  obtain ⟨h, hn⟩ := l1New l hl
  obtain ⟨w, i1, h1, e1, w0, w1, hi1⟩ := l1Num l 0 h hl (by omega)
  obtain ⟨d, i2, h2, e2, d0, _, _, d1, hi2⟩ := l1Below l i1 h1 10 hl hi1 (by omega)
  have hdraw : Ev (fun k => spec_DrawEncodeFixed.f k l) (w, d - 1) := by
    unfold spec_DrawEncodeFixed.f
    refine Ev.bind hn ?_
    simp only [e1, e2, Option.bind_some, w64 (x := d - 1) (by omega) (by omega)]
    exact Ev.now _
  generalize d - 1 = v at hdraw
  have hz := encF_size w v
  have hj := ie_j1 s hs w w0 w1
  refine Ev.step (f := fun k => (spec_DrawEncodeFixed.f k l).bind fun bt241 => ((impl_EncodeFixed.f k bt241.1 bt241.2).bind fun t243 => (if t243.size + s.size ≤ 9223372036854775807 then ((impl_DecodeFixed.f k (t243 ++ s) bt241.2).bind fun bt244 => (if t243.toList = ([] : List UInt8) then ((spec_EncodeFixed.f k bt241.1 bt241.2).bind fun t246 => (laws_FnIntegerEncodings.j1 k s bt241.1 ((t243.toList != ([] : List UInt8)) != (t246.toList != ([] : List UInt8))))) else (if bt244.2 = true then (if bt244.1 = bt241.1 then (if (t243.size : Int) = bt241.2 then ((spec_EncodeFixed.f k bt241.1 bt241.2).bind fun t247 => (laws_FnIntegerEncodings.j1 k s bt241.1 ((t243.toList != ([] : List UInt8)) != (t247.toList != ([] : List UInt8))))) else (laws_FnIntegerEncodings.j1 k s bt241.1 true)) else (laws_FnIntegerEncodings.j1 k s bt241.1 true)) else (laws_FnIntegerEncodings.j1 k s bt241.1 true)))) else (none)))) (fun k => ?_) ?_
  · simp only [laws_FnIntegerEncodings.j0]
    rw [if_neg (by decide)]
  · refine Ev.bind hdraw ?_
    refine Ev.bind (i_EncodeFixed w v) ?_
    simp only
    rw [show (fun n => if (encF w v).size + s.size ≤ 9223372036854775807 then _ else _) = _ from rfl]
    simp only [if_pos (show (encF w v).size + s.size ≤ 9223372036854775807 by omega)]
    refine Ev.bind (i_DecodeFixed (encF w v ++ s) v) ?_
    by_cases c : encF w v = ⟨#[]⟩
    · simp only [if_pos ((nil_iff _).2 c)]
      refine Ev.bind (s_EncodeFixed w v w1) ?_
      simp only [bne_self_eq_false]
      exact hj
    · have hb := encF_back w v s c
      simp only [if_neg (fun x => c ((nil_iff _).1 x)), hb.1, if_true, hb.2]
      refine Ev.bind (s_EncodeFixed w v w1) ?_
      simp only [bne_self_eq_false]
      exact hj
theorem FnIntegerEncodings : laws_FnIntegerEncodings.Pure := by
  intro l hl _ _
  unfold laws_FnIntegerEncodings.f laws_big.f
  obtain ⟨h, hn⟩ := l1New l hl
  obtain ⟨n, i1, h1, e1, n0, n1, hi1⟩ := l1Num l 0 h hl (by omega)
  obtain ⟨s, i2, h2, e2, hs, hi2⟩ := l1Text l 0 h 40 hl (by omega) (by omega) (by omega)
  have hd1 : Ev (fun k => spec_DrawEncodeVarint.f k l) n := by
    unfold spec_DrawEncodeVarint.f
    refine Ev.bind hn ?_
    simp only [e1, Option.bind_some]
    exact Ev.now _
  have hd2 : Ev (fun k => spec_DrawEncodeHex.f k l) s := by
    unfold spec_DrawEncodeHex.f
    refine Ev.bind hn ?_
    refine Ev.bind e2 ?_
    exact Ev.now _
  have hj := ie_j0 l hl s (by omega)
  have hz := venc_size n
  simp only [Option.bind_some, decide_eq_true_eq]
  by_cases hbig : (l.length : Int) > 1048576
  · exact ⟨0, by rw [if_pos hbig]⟩
  · simp only [if_neg hbig]
    refine (Ev.bind hd1 ?_).rounds
    refine Ev.bind hd2 ?_
    refine Ev.bind (i_EncodeVarint n) ?_
    simp only [if_pos (show (venc n).size + s.size ≤ 9223372036854775807 by omega)]
    refine Ev.bind (i_DecodeVarint (venc n ++ s) (by rw [ByteArray.size_append]; omega)) ?_
    by_cases c : 0 ≤ n ∧ n ≤ 562949953421311
    · have hb := resV_back n s c.1 c.2 7 0 (by omega) (by have := vencA_pos 6 n; omega)
      have hne := (venc_ne n).2 c
      simp only [hb, nil_ne, decide_eq_true hne, if_pos (show n ≥ 0 from c.1), decide_eq_true c.2, bne_self_eq_false, Bool.false_eq_true, if_false, if_neg (fun x => hne ((nil_iff _).1 x)), if_true]
      exact hj
    · have he : venc n = ⟨#[]⟩ := Classical.byContradiction fun x => c ((venc_ne n).1 x)
      simp only [nil_ne, he, ne_eq, not_true_eq_false, decide_false]
      by_cases c0 : n ≥ 0
      · simp only [if_pos c0, decide_eq_false (show ¬ n ≤ 562949953421311 by omega), bne_self_eq_false, Bool.false_eq_true, if_false, if_pos ((nil_iff ⟨#[]⟩).2 rfl)]
        exact hj
      · simp only [if_neg c0, bne_self_eq_false, Bool.false_eq_true, if_false, if_pos ((nil_iff ⟨#[]⟩).2 rfl)]
        exact hj

end Go.Proofs.YtbenihcaleiacabDoor.Pure
