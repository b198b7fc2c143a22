/- The pure side of FnExactDecodeHex: the program's DecodeHex answers what the reference's does, for every string (the law itself answers true past 1048576 bytes). No condition. -/
import Derived.Test.YtlbbnepkdhlgmabGFnExactDecodeHexx1
import Derived.OpenShut
import Derived.Laws.BitsLemmas
set_option linter.unusedVariables false
set_option linter.unusedSimpArgs false
namespace Go.Proofs.Ytlbbnepkdhlgmab.Pure
open Go.RowKit Go.Proofs.Ytlbbnepkdhlgmab.GFnExactDecodeHex Go.Proofs.YtlbbnepkdhlgmabW.PrintWords Go.Proofs.YtlbbnepkdhlgmabW.PrintLast

theorem w64 {x : Int} (h : -9223372036854775808 ≤ x) (h' : x ≤ 9223372036854775807) : wrap64 x = x := by unfold wrap64; omega
theorem tdiv_pos {x y : Int} (h : 0 ≤ x) : Int.tdiv x y = x / y := Int.tdiv_eq_ediv_of_nonneg h
theorem tmod_pos {x y : Int} (h : 0 ≤ x) : Int.tmod x y = x % y := Int.tmod_eq_emod_of_nonneg h
theorem eq_strs {g w : Option ByteArray} {r : ByteArray} (h1 : w = some r) (h2 : g = some r) : (w.bind fun t => g.bind fun u => if u.toList = t.toList then some true else some false) = some true := by
  subst h1; subst h2; simp
theorem eq_ints {g w : Option Int} {r : Int} (h1 : w = some r) (h2 : g = some r) : (w.bind fun t => g.bind fun u => if u = t then some true else some false) = some true := by
  subst h1; subst h2; simp
theorem eq_bools {g w : Option Bool} {r : Bool} (h1 : w = some r) (h2 : g = some r) : (w.bind fun t => g.bind fun u => if (u != t) = true then some false else some true) = some true := by
  subst h1; subst h2; simp
theorem ev_strs {g w : Nat → Option ByteArray} {r : ByteArray} (h1 : Ev w r) (h2 : Ev g r) : ∃ k, ((w k).bind fun t => (g k).bind fun u => if u.toList = t.toList then some true else some false) = some true := by
  obtain ⟨K, h1⟩ := h1
  obtain ⟨L, h2⟩ := h2
  exact ⟨max K L, eq_strs (h1 _ (by omega)) (h2 _ (by omega))⟩
theorem ev2 {α β : Type} {g : Nat → Option α} {f : Nat → Option β} {a : α} {b : β} {F : α → β → Option Bool} (hg : Ev g a) (hf : Ev f b) (h : F a b = some true) : ∃ k, ((g k).bind fun t => (f k).bind fun u => F t u) = some true :=
  (Ev.bind hg (Ev.bind hf ⟨0, fun _ _ => h⟩)).rounds
theorem rd_eq (l : List Int) (i : Nat) (h : i < l.length) : rd l (i : Int) = l[i] := by
  unfold rd
  rw [show ((i : Int)).toNat = i by omega, List.getD_eq_getElem?_getD, List.getElem?_eq_getElem h]
  rfl

def hexdig2 : ByteArray := ⟨#[48, 49, 50, 51, 52, 53, 54, 55, 56, 57, 97, 98, 99, 100, 101, 102]⟩
def hexv (b : Int) : Int := Lib.indexByte hexdig2.data.toList b.toNat.toUInt8
def hexF (b : Int) : Nat → Nat → Int
  | 0, _ => -1
  | d + 1, i => if bt hexdig2 i = b then (i : Int) else hexF b d (i + 1)
theorem hexF_v (b : Int) (h0 : 0 ≤ b) (h1 : b ≤ 255) : hexF b 16 0 = hexv b := by
  have h : ∀ n : Fin 256, hexF ((n.val : Nat) : Int) 16 0 = hexv ((n.val : Nat) : Int) := by decide +kernel
  have := h ⟨b.toNat, by omega⟩
  rwa [show (((⟨b.toNat, by omega⟩ : Fin 256).val : Nat) : Int) = b by simp; omega] at this
theorem hexv_b (b : Int) (h0 : 0 ≤ b) (h1 : b ≤ 255) : -1 ≤ hexv b ∧ hexv b < 16 := by
  have h : ∀ n : Fin 256, -1 ≤ hexv ((n.val : Nat) : Int) ∧ hexv ((n.val : Nat) : Int) < 16 := by decide +kernel
  have := h ⟨b.toNat, by omega⟩
  rwa [show (((⟨b.toNat, by omega⟩ : Fin 256).val : Nat) : Int) = b by simp; omega] at this

theorem s_l1FromHex_l (b : Int) (d : Nat) : ∀ i : Nat, i + d = 16 → Ev (fun k => spec_l1FromHex.l0 k b i) (hexF b d i) := by
  induction d with
  | zero =>
    intro i hi
    refine Ev.step (f := fun _ => some (-1)) (fun k => ?_) (Ev.now _)
    simp only [spec_l1FromHex.l0]
    rw [if_neg (by omega)]
  | succ d ih =>
    intro i hi
    have hd : spec_l1Digit.f (i : Int) = some (bt hexdig2 i) := by
      unfold spec_l1Digit.f
      rw [if_pos (by omega), if_pos (by omega)]
      rfl
    rw [hexF]
    by_cases h : bt hexdig2 i = b
    · rw [if_pos h]
      refine Ev.step (f := fun _ => some (i : Int)) (fun k => ?_) (Ev.now _)
      simp only [spec_l1FromHex.l0]
      rw [if_pos (by omega), hd]
      simp only [Option.bind_some]
      rw [if_pos h]
    · rw [if_neg h]
      refine Ev.step (fun k => ?_) (ih (i + 1) (by omega))
      simp only [spec_l1FromHex.l0]
      rw [if_pos (by omega), hd]
      simp only [Option.bind_some]
      rw [if_neg h, w64 (by omega) (by omega)]
      rfl
theorem s_l1FromHex (b : Int) (h0 : 0 ≤ b) (h1 : b ≤ 255) : Ev (fun k => spec_l1FromHex.f k b) (hexv b) := by
  rw [← hexF_v b h0 h1]
  exact s_l1FromHex_l b 16 0 rfl
theorem i_IndexByte (b : Int) : strings_IndexByte.f (⟨#[48, 49, 50, 51, 52, 53, 54, 55, 56, 57, 97, 98, 99, 100, 101, 102]⟩ : ByteArray) b = some (hexv b) := rfl
def dhex (s : ByteArray) : Nat → Nat → List Int → ByteArray × Bool
  | 0, _, out => (strOfNums out, true)
  | d + 1, i, out => if hexv (bt s i) < 0 then (⟨#[]⟩, false) else if hexv (bt s ((i + 1 : Nat) : Int)) < 0 then (⟨#[]⟩, false) else dhex s d (i + 2) (out ++ [16 * hexv (bt s i) + hexv (bt s ((i + 1 : Nat) : Int))])
theorem s_DecodeHex_l (s : ByteArray) (hs : s.size ≤ 4194304) (d : Nat) : ∀ (i : Nat) (out : List Int), i + 2 * d = s.size → out.length ≤ i → Ev (fun k => spec_DecodeHex.l0 k s out i) (dhex s d i out) := by
  induction d with
  | zero =>
    intro i out hi ho
    refine Ev.step (f := fun _ => some (strOfNums out, true)) (fun k => ?_) (Ev.now _)
    simp only [spec_DecodeHex.l0]
    rw [if_neg (by omega)]
  | succ d ih =>
    intro i out hi ho
    have b1 := bt_range s i
    have b2 := bt_range s ((i + 1 : Nat) : Int)
    have v1 := hexv_b _ b1.1 b1.2
    have v2 := hexv_b _ b2.1 b2.2
    have e1 : wrap64 ((i : Int) + 1) = ((i + 1 : Nat) : Int) := by rw [w64 (by omega) (by omega)]; rfl
    rw [dhex]
    refine Ev.step (f := fun k => (spec_l1FromHex.f k (bt s i)).bind fun t => (spec_l1FromHex.f k (bt s ((i + 1 : Nat) : Int))).bind fun u => if t < 0 then some (⟨#[]⟩, false) else if u < 0 then some (⟨#[]⟩, false) else if out.length < 140737488355328 then spec_DecodeHex.l0 k s (out ++ [(wrap64 (wrap64 (16 * t) + u)) % 256]) (wrap64 ((i : Int) + 2)) else none) (fun k => ?_) ?_
    · simp only [spec_DecodeHex.l0]
      rw [if_pos (by omega), if_pos (by omega)]
      congr 1
      funext t
      rw [e1, if_pos (by omega), if_pos (by omega)]
    · refine Ev.bind (s_l1FromHex _ b1.1 b1.2) ?_
      refine Ev.bind (s_l1FromHex _ b2.1 b2.2) ?_
      by_cases h1 : hexv (bt s i) < 0
      · simp only [if_pos h1]
        exact Ev.now _
      · by_cases h2 : hexv (bt s ((i + 1 : Nat) : Int)) < 0
        · simp only [if_neg h1, if_pos h2]
          exact Ev.now _
        · simp only [if_neg h1, if_neg h2, if_pos (show out.length < 140737488355328 by omega)]
          rw [w64 (x := 16 * hexv (bt s i)) (by omega) (by omega), w64 (x := 16 * hexv (bt s i) + hexv (bt s ((i + 1 : Nat) : Int))) (by omega) (by omega), w64 (x := (i : Int) + 2) (by omega) (by omega), show (16 * hexv (bt s i) + hexv (bt s ((i + 1 : Nat) : Int))) % 256 = 16 * hexv (bt s i) + hexv (bt s ((i + 1 : Nat) : Int)) by omega]
          exact ih (i + 2) _ (by omega) (by simp; omega)
theorem or_16 (x b : Int) (h0 : 0 ≤ x) (h1 : x < 1000) (hb : 0 ≤ b) (hb1 : b < 16) : Go.bits .or .i64 (x * 16) b = 16 * x + b := by
  have wr : ∀ n : Int, 0 ≤ n → n < 2 ^ 63 → IntKind.i64.wrap n = n := by
    intro n h0 h1
    rw [IntKind.wrap_i64]; omega
  rw [Go.bits_join .i64 63 (by decide) wr 4 (x * 16) b (by omega) (by omega) (by omega) hb (by omega) (by omega)]
  omega
theorem i_DecodeHex_l (s : ByteArray) (hs : s.size ≤ 4194304) (d : Nat) : ∀ (i : Nat) (out : List Int), i + 2 * d = s.size → out.length ≤ i → Ev (fun k => impl_DecodeHex.l0 k s out i) (dhex s d i out) := by
  induction d with
  | zero =>
    intro i out hi ho
    refine Ev.step (f := fun _ => some (strOfNums out, true)) (fun k => ?_) (Ev.now _)
    simp only [impl_DecodeHex.l0]
    rw [if_neg (by omega)]
  | succ d ih =>
    intro i out hi ho
    have b1 := bt_range s i
    have b2 := bt_range s ((i + 1 : Nat) : Int)
    have v1 := hexv_b _ b1.1 b1.2
    have v2 := hexv_b _ b2.1 b2.2
    have e1 : wrap64 ((i : Int) + 1) = ((i + 1 : Nat) : Int) := by rw [w64 (by omega) (by omega)]; rfl
    rw [dhex]
    by_cases h1 : hexv (bt s i) < 0
    · rw [if_pos h1]
      refine Ev.step (f := fun _ => some _) (fun k => ?_) (Ev.now _)
      simp only [impl_DecodeHex.l0, i_IndexByte, Option.bind_some, e1]
      rw [if_pos (by omega), if_pos (by omega), if_pos (by omega), if_pos (by omega), if_pos h1]
    · rw [if_neg h1]
      by_cases h2 : hexv (bt s ((i + 1 : Nat) : Int)) < 0
      · rw [if_pos h2]
        refine Ev.step (f := fun _ => some _) (fun k => ?_) (Ev.now _)
        simp only [impl_DecodeHex.l0, i_IndexByte, Option.bind_some, e1]
        rw [if_pos (by omega), if_pos (by omega), if_pos (by omega), if_pos (by omega), if_neg h1, if_pos h2]
      · rw [if_neg h2]
        refine Ev.step (fun k => ?_) (ih (i + 2) _ (by omega) (by simp; omega))
        simp only [impl_DecodeHex.l0, i_IndexByte, Option.bind_some, e1]
        rw [if_pos (by omega), if_pos (by omega), if_pos (by omega), if_pos (by omega), if_neg h1, if_neg h2, if_pos (by omega), w64 (x := hexv (bt s i) * 16) (by omega) (by omega), or_16 _ _ (by omega) (by omega) (by omega) (by omega), w64 (x := (i : Int) + 2) (by omega) (by omega), show (16 * hexv (bt s i) + hexv (bt s ((i + 1 : Nat) : Int))) % 256 = 16 * hexv (bt s i) + hexv (bt s ((i + 1 : Nat) : Int)) by omega]
        rfl
def decH (s : ByteArray) : ByteArray × Bool := if s.size % 2 = 1 then (⟨#[]⟩, false) else dhex s (s.size / 2) 0 []
theorem s_DecodeHex (s : ByteArray) (hs : s.size ≤ 4194304) : Ev (fun k => spec_DecodeHex.f k s) (decH s) := by
  unfold spec_DecodeHex.f decH
  by_cases h : s.size % 2 = 1
  · simp only [if_pos h, if_pos (show ((s.size : Int)) % 2 = 1 by omega)]
    exact Ev.now _
  · simp only [if_neg h, if_neg (show ¬ ((s.size : Int)) % 2 = 1 by omega)]
    exact s_DecodeHex_l s hs (s.size / 2) 0 [] (by omega) (by simp)
theorem i_DecodeHex (s : ByteArray) (hs : s.size ≤ 4194304) : Ev (fun k => impl_DecodeHex.f k s) (decH s) := by
  unfold impl_DecodeHex.f decH
  by_cases h : s.size % 2 = 1
  · simp only [if_pos h, if_neg (show ¬ ((s.size : Int)) % 2 = 0 by omega)]
    exact Ev.now _
  · simp only [if_neg h, if_pos (show ((s.size : Int)) % 2 = 0 by omega)]
    exact i_DecodeHex_l s hs (s.size / 2) 0 [] (by omega) (by simp)

theorem FnExactDecodeHex : laws_FnExactDecodeHex.Pure := by
  intro s _
  by_cases h : (s.size : Int) > 1048576
  · exact ⟨0, by unfold laws_FnExactDecodeHex.f; rw [if_pos h]⟩
  · unfold laws_FnExactDecodeHex.f
    simp only [if_neg h]
    exact ev2 (s_DecodeHex s (by omega)) (i_DecodeHex s (by omega)) (by simp)

end Go.Proofs.Ytlbbnepkdhlgmab.Pure
