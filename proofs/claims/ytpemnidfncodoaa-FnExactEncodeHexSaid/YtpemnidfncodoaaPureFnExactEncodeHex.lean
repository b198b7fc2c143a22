/- The pure side of FnExactEncodeHex: the program's EncodeHex answers what the reference's does, for every string (the law itself answers true past 1048576 bytes). No condition. -/
import Derived.Test.YtpemnidfncodoaaPFnExactEncodeHexx1
import Derived.OpenShut
import Derived.Laws.BitsLemmas
set_option linter.unusedVariables false
set_option linter.unusedSimpArgs false
namespace Go.Proofs.Ytpemnidfncodoaa.Pure
open Go.RowKit Go.Proofs.Ytpemnidfncodoaa.PFnExactEncodeHex Go.Proofs.YtpemnidfncodoaaW.PrintWords Go.Proofs.YtpemnidfncodoaaW.PrintLast

theorem w64 {x : Int} (h : -9223372036854775808 ≤ x) (h' : x ≤ 9223372036854775807) : wrap64 x = x := by unfold wrap64; omega
theorem tdiv_pos {x y : Int} (h : 0 ≤ x) : Int.tdiv x y = x / y := Int.tdiv_eq_ediv_of_nonneg h
theorem tmod_pos {x y : Int} (h : 0 ≤ x) : Int.tmod x y = x % y := Int.tmod_eq_emod_of_nonneg h
theorem eq_strs {g w : Option ByteArray} {r : ByteArray} (h1 : w = some r) (h2 : g = some r) : (w.bind fun t => g.bind fun u => if u.toList = t.toList then some true else some false) = some true := by
  subst h1; subst h2; simp
theorem eq_ints {g w : Option Int} {r : Int} (h1 : w = some r) (h2 : g = some r) : (w.bind fun t => g.bind fun u => if u = t then some true else some false) = some true := by
  subst h1; subst h2; simp
theorem eq_bools {g w : Option Bool} {r : Bool} (h1 : w = some r) (h2 : g = some r) : (w.bind fun t => g.bind fun u => if (u != t) = true then some false else some true) = some true := by
  subst h1; subst h2; simp
theorem ev_strs {g w : Nat → Option ByteArray} {r : ByteArray} (h1 : Ev w r) (h2 : Ev g r) : ∃ k, ((w k).bind fun t => (g k).bind fun u => if u.toList = t.toList then some true else some false) = some true := by
  obtain ⟨K, h1⟩ := h1
  obtain ⟨L, h2⟩ := h2
  exact ⟨max K L, eq_strs (h1 _ (by omega)) (h2 _ (by omega))⟩
theorem ev2 {α β : Type} {g : Nat → Option α} {f : Nat → Option β} {a : α} {b : β} {F : α → β → Option Bool} (hg : Ev g a) (hf : Ev f b) (h : F a b = some true) : ∃ k, ((g k).bind fun t => (f k).bind fun u => F t u) = some true :=
  (Ev.bind hg (Ev.bind hf ⟨0, fun _ _ => h⟩)).rounds

def hexdig : ByteArray := ⟨#[48, 49, 50, 51, 52, 53, 54, 55, 56, 57, 97, 98, 99, 100, 101, 102]⟩
def hexA (s : ByteArray) : Nat → Nat → List Int
  | 0, _ => []
  | d + 1, i => bt hexdig (bt s i / 16) :: bt hexdig (bt s i % 16) :: hexA s d (i + 1)
theorem s_l1Digit (a : Int) (h0 : 0 ≤ a) (h1 : a < 16) : spec_l1Digit.f a = some (bt hexdig a) := by
  unfold spec_l1Digit.f; rw [if_pos h0, if_pos h1]; rfl
theorem s_EncodeHex_l (s : ByteArray) (hs : s.size ≤ 1048576) (d : Nat) : ∀ (i : Nat) (out : List Int), i + d = s.size → out.length = 2 * i →
    Ev (fun k => spec_EncodeHex.l0 k s out i) (strOfNums (out ++ hexA s d i)) := by
  induction d with
  | zero =>
    intro i out hi ho
    refine Ev.step (f := fun _ => some (strOfNums out)) (fun k => ?_) (by rw [hexA, List.append_nil]; exact Ev.now _)
    simp only [spec_EncodeHex.l0]; rw [if_neg (by omega)]
  | succ d ih =>
    intro i out hi ho
    have hb := bt_range s i
    refine Ev.step (f := fun k => spec_EncodeHex.l0 k s (out ++ [bt hexdig (bt s i / 16), bt hexdig (bt s i % 16)]) ((i + 1 : Nat) : Int)) (fun k => ?_) ?_
    · simp only [spec_EncodeHex.l0]
      rw [if_pos (by omega), if_pos (by omega), w64 (x := bt s i) (by omega) (by omega), tdiv_pos hb.1, tmod_pos hb.1, w64 (x := bt s i / 16) (by omega) (by omega), s_l1Digit _ (by omega) (by omega), s_l1Digit _ (by omega) (by omega)]
      simp only [Option.bind_some]
      rw [if_pos (by simp; omega), w64 (by omega) (by omega)]
      rfl
    · have := ih (i + 1) (out ++ [bt hexdig (bt s i / 16), bt hexdig (bt s i % 16)]) (by omega) (by simp; omega)
      rw [List.append_assoc] at this
      exact this
theorem i_EncodeHex_l (s : ByteArray) (hs : s.size ≤ 1048576) (d : Nat) : ∀ (i : Nat) (out : List Int), i + d = s.size → out.length = 2 * i →
    Ev (fun k => impl_EncodeHex.l0 k s out s.size i) (strOfNums (out ++ hexA s d i)) := by
  induction d with
  | zero =>
    intro i out hi ho
    refine Ev.step (f := fun _ => some (strOfNums out)) (fun k => ?_) (by rw [hexA, List.append_nil]; exact Ev.now _)
    simp only [impl_EncodeHex.l0]; rw [if_neg (by omega)]
  | succ d ih =>
    intro i out hi ho
    have hb := bt_range s i
    refine Ev.step (f := fun k => impl_EncodeHex.l0 k s (out ++ [bt hexdig (bt s i / 16), bt hexdig (bt s i % 16)]) s.size ((i + 1 : Nat) : Int)) (fun k => ?_) ?_
    · simp only [impl_EncodeHex.l0]
      rw [if_pos (by omega), if_pos (by omega), if_pos (by omega), if_pos (by omega), if_pos (by omega), Go.u8_and15 (x := bt s i) (by omega) (by omega), if_pos (by omega), if_pos (by omega)]
      simp only [Option.bind_some]
      rw [if_pos (by simp; omega), w64 (by omega) (by omega)]
      rfl
    · have := ih (i + 1) (out ++ [bt hexdig (bt s i / 16), bt hexdig (bt s i % 16)]) (by omega) (by simp; omega)
      rw [List.append_assoc] at this
      exact this
def hexS (s : ByteArray) : ByteArray := strOfNums (hexA s s.size 0)
theorem s_EncodeHex (s : ByteArray) (hs : s.size ≤ 1048576) : Ev (fun k => spec_EncodeHex.f k s) (hexS s) := s_EncodeHex_l s hs s.size 0 [] (by omega) rfl
theorem i_EncodeHex (s : ByteArray) (hs : s.size ≤ 1048576) : Ev (fun k => impl_EncodeHex.f k s) (hexS s) := i_EncodeHex_l s hs s.size 0 [] (by omega) rfl

theorem FnExactEncodeHex : laws_FnExactEncodeHex.Pure := by
  intro s w
  by_cases h : (s.size : Int) > 1048576
  · exact ⟨0, by unfold laws_FnExactEncodeHex.f; rw [if_pos h]⟩
  · unfold laws_FnExactEncodeHex.f
    simp only [if_neg h]
    exact ev_strs (s_EncodeHex s (by omega)) (i_EncodeHex s (by omega))

end Go.Proofs.Ytpemnidfncodoaa.Pure
