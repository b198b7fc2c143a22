/- Of each Go function that the law FnExactFormatThread reaches: a Lean function, and the proof that the call comes to just its answer; written by a turned copy of the kit's printer, with contracts typed by hand for functions that it does not take. No condition. -/
import Derived.Test.YtbenihcaleiacaaDoorGFnExactFormatThreadx0
namespace Go.Proofs.YtbenihcaleiacaaDoor.GFnExactFormatThread
open Go.RowKit Go.Proofs.YtbenihcaleiacaaDoorW.PrintWords Go.Proofs.YtbenihcaleiacaaDoorW.PrintLast Go.Proofs.YtbenihcaleiacaaDoorW.PrintMore
attribute [local go_sem] max2_int min2_int max_two min_two max_three min_three max_four min_four   -- for this text's walks alone
set_option linter.unusedVariables false
set_option linter.unusedSimpArgs false

/-! ### impl_PcName: function 79 -/
def impl_PcName.f (a0 : Int) : Option (ByteArray) := if a0 = 0 then (some (⟨#[105, 100, 108, 101]⟩ : ByteArray)) else (if a0 = 1 then (some (⟨#[98, 101, 103, 105, 110, 32, 108, 111, 97, 100]⟩ : ByteArray)) else (if a0 = 2 then (some (⟨#[98, 101, 103, 105, 110, 32, 97, 110, 110, 111, 117, 110, 99, 101]⟩ : ByteArray)) else (if a0 = 3 then (some (⟨#[98, 101, 103, 105, 110, 32, 99, 104, 101, 99, 107]⟩ : ByteArray)) else (if a0 = 4 then (some (⟨#[98, 101, 103, 105, 110, 32, 116, 105, 99, 107]⟩ : ByteArray)) else (if a0 = 5 then (some (⟨#[98, 101, 103, 105, 110, 32, 99, 108, 101, 97, 114]⟩ : ByteArray)) else (if a0 = 10 then (some (⟨#[119, 97, 108, 107, 32, 104, 101, 97, 100]⟩ : ByteArray)) else (if a0 = 11 then (some (⟨#[119, 97, 108, 107, 32, 103, 117, 97, 114, 100]⟩ : ByteArray)) else (if a0 = 12 then (some (⟨#[119, 97, 108, 107, 32, 99, 104, 101, 99, 107]⟩ : ByteArray)) else (if a0 = 13 then (some (⟨#[119, 97, 108, 107, 32, 110, 101, 120, 116]⟩ : ByteArray)) else (if a0 = 14 then (some (⟨#[119, 97, 108, 107, 32, 117, 110, 108, 105, 110, 107]⟩ : ByteArray)) else (if a0 = 15 then (some (⟨#[119, 97, 108, 107, 32, 115, 104, 105, 102, 116]⟩ : ByteArray)) else (if a0 = 16 then (some (⟨#[114, 101, 97, 100, 32, 115, 116, 97, 109, 112]⟩ : ByteArray)) else (if a0 = 17 then (some (⟨#[114, 101, 97, 100, 32, 99, 108, 111, 99, 107]⟩ : ByteArray)) else (if a0 = 18 then (some (⟨#[114, 101, 97, 100, 32, 104, 101, 108, 112]⟩ : ByteArray)) else (if a0 = 19 then (some (⟨#[114, 101, 97, 100, 32, 118, 97, 108, 117, 101]⟩ : ByteArray)) else (if a0 = 20 then (some (⟨#[114, 101, 97, 100, 32, 99, 108, 101, 97, 114]⟩ : ByteArray)) else (if a0 = 21 then (some (⟨#[114, 101, 97, 100, 32, 100, 111, 110, 101]⟩ : ByteArray)) else (if a0 = 30 then (some (⟨#[119, 114, 105, 116, 101, 32, 97, 114, 101, 110, 97]⟩ : ByteArray)) else (if a0 = 31 then (some (⟨#[119, 114, 105, 116, 101, 32, 116, 97, 107, 101]⟩ : ByteArray)) else (if a0 = 32 then (some (⟨#[119, 114, 105, 116, 101, 32, 118, 97, 108, 117, 101]⟩ : ByteArray)) else (if a0 = 33 then (some (⟨#[119, 114, 105, 116, 101, 32, 114, 101, 115, 101, 116]⟩ : ByteArray)) else (if a0 = 34 then (some (⟨#[119, 114, 105, 116, 101, 32, 103, 117, 97, 114, 100]⟩ : ByteArray)) else (if a0 = 35 then (some (⟨#[119, 114, 105, 116, 101, 32, 104, 101, 97, 100]⟩ : ByteArray)) else (if a0 = 36 then (some (⟨#[119, 114, 105, 116, 101, 32, 104, 97, 122, 97, 114, 100]⟩ : ByteArray)) else (if a0 = 37 then (some (⟨#[119, 114, 105, 116, 101, 32, 99, 104, 101, 99, 107]⟩ : ByteArray)) else (if a0 = 38 then (some (⟨#[119, 114, 105, 116, 101, 32, 115, 116, 97, 109, 112]⟩ : ByteArray)) else (if a0 = 39 then (some (⟨#[119, 114, 105, 116, 101, 32, 99, 108, 111, 99, 107]⟩ : ByteArray)) else (if a0 = 40 then (some (⟨#[119, 114, 105, 116, 101, 32, 104, 101, 108, 112]⟩ : ByteArray)) else (if a0 = 41 then (some (⟨#[119, 114, 105, 116, 101, 32, 108, 105, 110, 107]⟩ : ByteArray)) else (if a0 = 42 then (some (⟨#[119, 114, 105, 116, 101, 32, 112, 117, 98, 108, 105, 115, 104]⟩ : ByteArray)) else (if a0 = 43 then (some (⟨#[119, 114, 105, 116, 101, 32, 111, 119, 110, 32, 99, 108, 111, 99, 107]⟩ : ByteArray)) else (if a0 = 44 then (some (⟨#[119, 114, 105, 116, 101, 32, 111, 119, 110, 32, 115, 116, 97, 109, 112]⟩ : ByteArray)) else (if a0 = 45 then (some (⟨#[119, 114, 105, 116, 101, 32, 114, 101, 116, 105, 114, 101]⟩ : ByteArray)) else (if a0 = 46 then (some (⟨#[119, 114, 105, 116, 101, 32, 99, 108, 101, 97, 114]⟩ : ByteArray)) else (if a0 = 47 then (some (⟨#[119, 114, 105, 116, 101, 32, 100, 111, 110, 101]⟩ : ByteArray)) else (if a0 = 50 then (some (⟨#[115, 99, 97, 110, 32, 97, 110, 110, 111, 117, 110, 99, 101, 100]⟩ : ByteArray)) else (if a0 = 60 then (some (⟨#[109, 97, 114, 107, 32, 108, 111, 97, 100]⟩ : ByteArray)) else (if a0 = 61 then (some (⟨#[109, 97, 114, 107, 32, 115, 119, 97, 112]⟩ : ByteArray)) else (if a0 = 62 then (some (⟨#[102, 108, 117, 115, 104, 32, 99, 108, 101, 97, 114]⟩ : ByteArray)) else (if a0 = 63 then (some (⟨#[102, 108, 117, 115, 104, 32, 100, 111, 110, 101]⟩ : ByteArray)) else (if a0 = 70 then (some (⟨#[115, 99, 97, 110, 32, 104, 97, 122, 97, 114, 100, 115]⟩ : ByteArray)) else (if a0 = 80 then (some (⟨#[101, 110, 100, 32, 99, 108, 101, 97, 114]⟩ : ByteArray)) else (some (⟨#[]⟩ : ByteArray))))))))))))))))))))))))))))))))))))))))))))
set_option maxHeartbeats 8000000 in
set_option maxRecDepth 100000 in
theorem impl_PcName.calls (a0 : Int) (r : ByteArray) (w : World) (h : impl_PcName.f a0 = some r) :
    Calls Tryd.prog 79 #[.int .i64 a0] w fun e w' => e = .returned (.string r) ∧ Drawn0 w w' := by
  have H : (if a0 = 0 then (some (⟨#[105, 100, 108, 101]⟩ : ByteArray)) else (if a0 = 1 then (some (⟨#[98, 101, 103, 105, 110, 32, 108, 111, 97, 100]⟩ : ByteArray)) else (if a0 = 2 then (some (⟨#[98, 101, 103, 105, 110, 32, 97, 110, 110, 111, 117, 110, 99, 101]⟩ : ByteArray)) else (if a0 = 3 then (some (⟨#[98, 101, 103, 105, 110, 32, 99, 104, 101, 99, 107]⟩ : ByteArray)) else (if a0 = 4 then (some (⟨#[98, 101, 103, 105, 110, 32, 116, 105, 99, 107]⟩ : ByteArray)) else (if a0 = 5 then (some (⟨#[98, 101, 103, 105, 110, 32, 99, 108, 101, 97, 114]⟩ : ByteArray)) else (if a0 = 10 then (some (⟨#[119, 97, 108, 107, 32, 104, 101, 97, 100]⟩ : ByteArray)) else (if a0 = 11 then (some (⟨#[119, 97, 108, 107, 32, 103, 117, 97, 114, 100]⟩ : ByteArray)) else (if a0 = 12 then (some (⟨#[119, 97, 108, 107, 32, 99, 104, 101, 99, 107]⟩ : ByteArray)) else (if a0 = 13 then (some (⟨#[119, 97, 108, 107, 32, 110, 101, 120, 116]⟩ : ByteArray)) else (if a0 = 14 then (some (⟨#[119, 97, 108, 107, 32, 117, 110, 108, 105, 110, 107]⟩ : ByteArray)) else (if a0 = 15 then (some (⟨#[119, 97, 108, 107, 32, 115, 104, 105, 102, 116]⟩ : ByteArray)) else (if a0 = 16 then (some (⟨#[114, 101, 97, 100, 32, 115, 116, 97, 109, 112]⟩ : ByteArray)) else (if a0 = 17 then (some (⟨#[114, 101, 97, 100, 32, 99, 108, 111, 99, 107]⟩ : ByteArray)) else (if a0 = 18 then (some (⟨#[114, 101, 97, 100, 32, 104, 101, 108, 112]⟩ : ByteArray)) else (if a0 = 19 then (some (⟨#[114, 101, 97, 100, 32, 118, 97, 108, 117, 101]⟩ : ByteArray)) else (if a0 = 20 then (some (⟨#[114, 101, 97, 100, 32, 99, 108, 101, 97, 114]⟩ : ByteArray)) else (if a0 = 21 then (some (⟨#[114, 101, 97, 100, 32, 100, 111, 110, 101]⟩ : ByteArray)) else (if a0 = 30 then (some (⟨#[119, 114, 105, 116, 101, 32, 97, 114, 101, 110, 97]⟩ : ByteArray)) else (if a0 = 31 then (some (⟨#[119, 114, 105, 116, 101, 32, 116, 97, 107, 101]⟩ : ByteArray)) else (if a0 = 32 then (some (⟨#[119, 114, 105, 116, 101, 32, 118, 97, 108, 117, 101]⟩ : ByteArray)) else (if a0 = 33 then (some (⟨#[119, 114, 105, 116, 101, 32, 114, 101, 115, 101, 116]⟩ : ByteArray)) else (if a0 = 34 then (some (⟨#[119, 114, 105, 116, 101, 32, 103, 117, 97, 114, 100]⟩ : ByteArray)) else (if a0 = 35 then (some (⟨#[119, 114, 105, 116, 101, 32, 104, 101, 97, 100]⟩ : ByteArray)) else (if a0 = 36 then (some (⟨#[119, 114, 105, 116, 101, 32, 104, 97, 122, 97, 114, 100]⟩ : ByteArray)) else (if a0 = 37 then (some (⟨#[119, 114, 105, 116, 101, 32, 99, 104, 101, 99, 107]⟩ : ByteArray)) else (if a0 = 38 then (some (⟨#[119, 114, 105, 116, 101, 32, 115, 116, 97, 109, 112]⟩ : ByteArray)) else (if a0 = 39 then (some (⟨#[119, 114, 105, 116, 101, 32, 99, 108, 111, 99, 107]⟩ : ByteArray)) else (if a0 = 40 then (some (⟨#[119, 114, 105, 116, 101, 32, 104, 101, 108, 112]⟩ : ByteArray)) else (if a0 = 41 then (some (⟨#[119, 114, 105, 116, 101, 32, 108, 105, 110, 107]⟩ : ByteArray)) else (if a0 = 42 then (some (⟨#[119, 114, 105, 116, 101, 32, 112, 117, 98, 108, 105, 115, 104]⟩ : ByteArray)) else (if a0 = 43 then (some (⟨#[119, 114, 105, 116, 101, 32, 111, 119, 110, 32, 99, 108, 111, 99, 107]⟩ : ByteArray)) else (if a0 = 44 then (some (⟨#[119, 114, 105, 116, 101, 32, 111, 119, 110, 32, 115, 116, 97, 109, 112]⟩ : ByteArray)) else (if a0 = 45 then (some (⟨#[119, 114, 105, 116, 101, 32, 114, 101, 116, 105, 114, 101]⟩ : ByteArray)) else (if a0 = 46 then (some (⟨#[119, 114, 105, 116, 101, 32, 99, 108, 101, 97, 114]⟩ : ByteArray)) else (if a0 = 47 then (some (⟨#[119, 114, 105, 116, 101, 32, 100, 111, 110, 101]⟩ : ByteArray)) else (if a0 = 50 then (some (⟨#[115, 99, 97, 110, 32, 97, 110, 110, 111, 117, 110, 99, 101, 100]⟩ : ByteArray)) else (if a0 = 60 then (some (⟨#[109, 97, 114, 107, 32, 108, 111, 97, 100]⟩ : ByteArray)) else (if a0 = 61 then (some (⟨#[109, 97, 114, 107, 32, 115, 119, 97, 112]⟩ : ByteArray)) else (if a0 = 62 then (some (⟨#[102, 108, 117, 115, 104, 32, 99, 108, 101, 97, 114]⟩ : ByteArray)) else (if a0 = 63 then (some (⟨#[102, 108, 117, 115, 104, 32, 100, 111, 110, 101]⟩ : ByteArray)) else (if a0 = 70 then (some (⟨#[115, 99, 97, 110, 32, 104, 97, 122, 97, 114, 100, 115]⟩ : ByteArray)) else (if a0 = 80 then (some (⟨#[101, 110, 100, 32, 99, 108, 101, 97, 114]⟩ : ByteArray)) else (some (⟨#[]⟩ : ByteArray))))))))))))))))))))))))))))))))))))))))))))) = some r := h
  clear h
  by_cases c2 : a0 = 0
  · rw [if_pos c2] at H
    have c2b0 : (a0 == 0) = true := beq_iff_eq.mpr c2
    have c2b1 : (a0 != 0) = false := bne_eq_false_iff_eq.mpr c2
    clear c2
    obtain rfl := Option.some.inj H
    go_enter Tryd.func79, Tryd.ntmps79
    go_wp2
    go_ret
    exact ⟨by first | rfl | (refine congrArg Ending.returned (congrArg Value.bool ?_); generalize ByteArray.toList _ = l_; cases l_ <;> rfl) | (simp; done) | (simp [*]; done), by repeat (first | exact Drawn0.refl _ | apply Drawn0.step)⟩
  · rw [if_neg c2] at H
    have c2b0 : (a0 == 0) = false := beq_eq_false_iff_ne.mpr c2
    have c2b1 : (a0 != 0) = true := bne_iff_ne.mpr c2
    by_cases c3 : a0 = 1
    · rw [if_pos c3] at H
      have c3b0 : (a0 == 1) = true := beq_iff_eq.mpr c3
      have c3b1 : (a0 != 1) = false := bne_eq_false_iff_eq.mpr c3
      clear c3
      obtain rfl := Option.some.inj H
      go_enter Tryd.func79, Tryd.ntmps79
      go_wp2
      go_ret
      exact ⟨by first | rfl | (refine congrArg Ending.returned (congrArg Value.bool ?_); generalize ByteArray.toList _ = l_; cases l_ <;> rfl) | (simp; done) | (simp [*]; done), by repeat (first | exact Drawn0.refl _ | apply Drawn0.step)⟩
    · rw [if_neg c3] at H
      have c3b0 : (a0 == 1) = false := beq_eq_false_iff_ne.mpr c3
      have c3b1 : (a0 != 1) = true := bne_iff_ne.mpr c3
      by_cases c4 : a0 = 2
      · rw [if_pos c4] at H
        have c4b0 : (a0 == 2) = true := beq_iff_eq.mpr c4
        have c4b1 : (a0 != 2) = false := bne_eq_false_iff_eq.mpr c4
        clear c4
        obtain rfl := Option.some.inj H
        go_enter Tryd.func79, Tryd.ntmps79
        go_wp2
        go_ret
        exact ⟨by first | rfl | (refine congrArg Ending.returned (congrArg Value.bool ?_); generalize ByteArray.toList _ = l_; cases l_ <;> rfl) | (simp; done) | (simp [*]; done), by repeat (first | exact Drawn0.refl _ | apply Drawn0.step)⟩
      · rw [if_neg c4] at H
        have c4b0 : (a0 == 2) = false := beq_eq_false_iff_ne.mpr c4
        have c4b1 : (a0 != 2) = true := bne_iff_ne.mpr c4
        by_cases c5 : a0 = 3
        · rw [if_pos c5] at H
          have c5b0 : (a0 == 3) = true := beq_iff_eq.mpr c5
          have c5b1 : (a0 != 3) = false := bne_eq_false_iff_eq.mpr c5
          clear c5
          obtain rfl := Option.some.inj H
          go_enter Tryd.func79, Tryd.ntmps79
          go_wp2
          go_ret
          exact ⟨by first | rfl | (refine congrArg Ending.returned (congrArg Value.bool ?_); generalize ByteArray.toList _ = l_; cases l_ <;> rfl) | (simp; done) | (simp [*]; done), by repeat (first | exact Drawn0.refl _ | apply Drawn0.step)⟩
        · rw [if_neg c5] at H
          have c5b0 : (a0 == 3) = false := beq_eq_false_iff_ne.mpr c5
          have c5b1 : (a0 != 3) = true := bne_iff_ne.mpr c5
          by_cases c6 : a0 = 4
          · rw [if_pos c6] at H
            have c6b0 : (a0 == 4) = true := beq_iff_eq.mpr c6
            have c6b1 : (a0 != 4) = false := bne_eq_false_iff_eq.mpr c6
            clear c6
            obtain rfl := Option.some.inj H
            go_enter Tryd.func79, Tryd.ntmps79
            go_wp2
            go_ret
            exact ⟨by first | rfl | (refine congrArg Ending.returned (congrArg Value.bool ?_); generalize ByteArray.toList _ = l_; cases l_ <;> rfl) | (simp; done) | (simp [*]; done), by repeat (first | exact Drawn0.refl _ | apply Drawn0.step)⟩
          · rw [if_neg c6] at H
            have c6b0 : (a0 == 4) = false := beq_eq_false_iff_ne.mpr c6
            have c6b1 : (a0 != 4) = true := bne_iff_ne.mpr c6
            by_cases c7 : a0 = 5
            · rw [if_pos c7] at H
              have c7b0 : (a0 == 5) = true := beq_iff_eq.mpr c7
              have c7b1 : (a0 != 5) = false := bne_eq_false_iff_eq.mpr c7
              clear c7
              obtain rfl := Option.some.inj H
              go_enter Tryd.func79, Tryd.ntmps79
              go_wp2
              go_ret
              exact ⟨by first | rfl | (refine congrArg Ending.returned (congrArg Value.bool ?_); generalize ByteArray.toList _ = l_; cases l_ <;> rfl) | (simp; done) | (simp [*]; done), by repeat (first | exact Drawn0.refl _ | apply Drawn0.step)⟩
            · rw [if_neg c7] at H
              have c7b0 : (a0 == 5) = false := beq_eq_false_iff_ne.mpr c7
              have c7b1 : (a0 != 5) = true := bne_iff_ne.mpr c7
              by_cases c8 : a0 = 10
              · rw [if_pos c8] at H
                have c8b0 : (a0 == 10) = true := beq_iff_eq.mpr c8
                have c8b1 : (a0 != 10) = false := bne_eq_false_iff_eq.mpr c8
                clear c8
                obtain rfl := Option.some.inj H
                go_enter Tryd.func79, Tryd.ntmps79
                go_wp2
                go_ret
                exact ⟨by first | rfl | (refine congrArg Ending.returned (congrArg Value.bool ?_); generalize ByteArray.toList _ = l_; cases l_ <;> rfl) | (simp; done) | (simp [*]; done), by repeat (first | exact Drawn0.refl _ | apply Drawn0.step)⟩
              · rw [if_neg c8] at H
                have c8b0 : (a0 == 10) = false := beq_eq_false_iff_ne.mpr c8
                have c8b1 : (a0 != 10) = true := bne_iff_ne.mpr c8
                by_cases c9 : a0 = 11
                · rw [if_pos c9] at H
                  have c9b0 : (a0 == 11) = true := beq_iff_eq.mpr c9
                  have c9b1 : (a0 != 11) = false := bne_eq_false_iff_eq.mpr c9
                  clear c9
                  obtain rfl := Option.some.inj H
                  go_enter Tryd.func79, Tryd.ntmps79
                  go_wp2
                  go_ret
                  exact ⟨by first | rfl | (refine congrArg Ending.returned (congrArg Value.bool ?_); generalize ByteArray.toList _ = l_; cases l_ <;> rfl) | (simp; done) | (simp [*]; done), by repeat (first | exact Drawn0.refl _ | apply Drawn0.step)⟩
                · rw [if_neg c9] at H
                  have c9b0 : (a0 == 11) = false := beq_eq_false_iff_ne.mpr c9
                  have c9b1 : (a0 != 11) = true := bne_iff_ne.mpr c9
                  by_cases c10 : a0 = 12
                  · rw [if_pos c10] at H
                    have c10b0 : (a0 == 12) = true := beq_iff_eq.mpr c10
                    have c10b1 : (a0 != 12) = false := bne_eq_false_iff_eq.mpr c10
                    clear c10
                    obtain rfl := Option.some.inj H
                    go_enter Tryd.func79, Tryd.ntmps79
                    go_wp2
                    go_ret
                    exact ⟨by first | rfl | (refine congrArg Ending.returned (congrArg Value.bool ?_); generalize ByteArray.toList _ = l_; cases l_ <;> rfl) | (simp; done) | (simp [*]; done), by repeat (first | exact Drawn0.refl _ | apply Drawn0.step)⟩
                  · rw [if_neg c10] at H
                    have c10b0 : (a0 == 12) = false := beq_eq_false_iff_ne.mpr c10
                    have c10b1 : (a0 != 12) = true := bne_iff_ne.mpr c10
                    by_cases c11 : a0 = 13
                    · rw [if_pos c11] at H
                      have c11b0 : (a0 == 13) = true := beq_iff_eq.mpr c11
                      have c11b1 : (a0 != 13) = false := bne_eq_false_iff_eq.mpr c11
                      clear c11
                      obtain rfl := Option.some.inj H
                      go_enter Tryd.func79, Tryd.ntmps79
                      go_wp2
                      go_ret
                      exact ⟨by first | rfl | (refine congrArg Ending.returned (congrArg Value.bool ?_); generalize ByteArray.toList _ = l_; cases l_ <;> rfl) | (simp; done) | (simp [*]; done), by repeat (first | exact Drawn0.refl _ | apply Drawn0.step)⟩
                    · rw [if_neg c11] at H
                      have c11b0 : (a0 == 13) = false := beq_eq_false_iff_ne.mpr c11
                      have c11b1 : (a0 != 13) = true := bne_iff_ne.mpr c11
                      by_cases c12 : a0 = 14
                      · rw [if_pos c12] at H
                        have c12b0 : (a0 == 14) = true := beq_iff_eq.mpr c12
                        have c12b1 : (a0 != 14) = false := bne_eq_false_iff_eq.mpr c12
                        clear c12
                        obtain rfl := Option.some.inj H
                        go_enter Tryd.func79, Tryd.ntmps79
                        go_wp2
                        go_ret
                        exact ⟨by first | rfl | (refine congrArg Ending.returned (congrArg Value.bool ?_); generalize ByteArray.toList _ = l_; cases l_ <;> rfl) | (simp; done) | (simp [*]; done), by repeat (first | exact Drawn0.refl _ | apply Drawn0.step)⟩
                      · rw [if_neg c12] at H
                        have c12b0 : (a0 == 14) = false := beq_eq_false_iff_ne.mpr c12
                        have c12b1 : (a0 != 14) = true := bne_iff_ne.mpr c12
                        by_cases c13 : a0 = 15
                        · rw [if_pos c13] at H
                          have c13b0 : (a0 == 15) = true := beq_iff_eq.mpr c13
                          have c13b1 : (a0 != 15) = false := bne_eq_false_iff_eq.mpr c13
                          clear c13
                          obtain rfl := Option.some.inj H
                          go_enter Tryd.func79, Tryd.ntmps79
                          go_wp2
                          go_ret
                          exact ⟨by first | rfl | (refine congrArg Ending.returned (congrArg Value.bool ?_); generalize ByteArray.toList _ = l_; cases l_ <;> rfl) | (simp; done) | (simp [*]; done), by repeat (first | exact Drawn0.refl _ | apply Drawn0.step)⟩
                        · rw [if_neg c13] at H
                          have c13b0 : (a0 == 15) = false := beq_eq_false_iff_ne.mpr c13
                          have c13b1 : (a0 != 15) = true := bne_iff_ne.mpr c13
                          by_cases c14 : a0 = 16
                          · rw [if_pos c14] at H
                            have c14b0 : (a0 == 16) = true := beq_iff_eq.mpr c14
                            have c14b1 : (a0 != 16) = false := bne_eq_false_iff_eq.mpr c14
                            clear c14
                            obtain rfl := Option.some.inj H
                            go_enter Tryd.func79, Tryd.ntmps79
                            go_wp2
                            go_ret
                            exact ⟨by first | rfl | (refine congrArg Ending.returned (congrArg Value.bool ?_); generalize ByteArray.toList _ = l_; cases l_ <;> rfl) | (simp; done) | (simp [*]; done), by repeat (first | exact Drawn0.refl _ | apply Drawn0.step)⟩
                          · rw [if_neg c14] at H
                            have c14b0 : (a0 == 16) = false := beq_eq_false_iff_ne.mpr c14
                            have c14b1 : (a0 != 16) = true := bne_iff_ne.mpr c14
                            by_cases c15 : a0 = 17
                            · rw [if_pos c15] at H
                              have c15b0 : (a0 == 17) = true := beq_iff_eq.mpr c15
                              have c15b1 : (a0 != 17) = false := bne_eq_false_iff_eq.mpr c15
                              clear c15
                              obtain rfl := Option.some.inj H
                              go_enter Tryd.func79, Tryd.ntmps79
                              go_wp2
                              go_ret
                              exact ⟨by first | rfl | (refine congrArg Ending.returned (congrArg Value.bool ?_); generalize ByteArray.toList _ = l_; cases l_ <;> rfl) | (simp; done) | (simp [*]; done), by repeat (first | exact Drawn0.refl _ | apply Drawn0.step)⟩
                            · rw [if_neg c15] at H
                              have c15b0 : (a0 == 17) = false := beq_eq_false_iff_ne.mpr c15
                              have c15b1 : (a0 != 17) = true := bne_iff_ne.mpr c15
                              by_cases c16 : a0 = 18
                              · rw [if_pos c16] at H
                                have c16b0 : (a0 == 18) = true := beq_iff_eq.mpr c16
                                have c16b1 : (a0 != 18) = false := bne_eq_false_iff_eq.mpr c16
                                clear c16
                                obtain rfl := Option.some.inj H
                                go_enter Tryd.func79, Tryd.ntmps79
                                go_wp2
                                go_ret
                                exact ⟨by first | rfl | (refine congrArg Ending.returned (congrArg Value.bool ?_); generalize ByteArray.toList _ = l_; cases l_ <;> rfl) | (simp; done) | (simp [*]; done), by repeat (first | exact Drawn0.refl _ | apply Drawn0.step)⟩
                              · rw [if_neg c16] at H
                                have c16b0 : (a0 == 18) = false := beq_eq_false_iff_ne.mpr c16
                                have c16b1 : (a0 != 18) = true := bne_iff_ne.mpr c16
                                by_cases c17 : a0 = 19
                                · rw [if_pos c17] at H
                                  have c17b0 : (a0 == 19) = true := beq_iff_eq.mpr c17
                                  have c17b1 : (a0 != 19) = false := bne_eq_false_iff_eq.mpr c17
                                  clear c17
                                  obtain rfl := Option.some.inj H
                                  go_enter Tryd.func79, Tryd.ntmps79
                                  go_wp2
                                  go_ret
                                  exact ⟨by first | rfl | (refine congrArg Ending.returned (congrArg Value.bool ?_); generalize ByteArray.toList _ = l_; cases l_ <;> rfl) | (simp; done) | (simp [*]; done), by repeat (first | exact Drawn0.refl _ | apply Drawn0.step)⟩
                                · rw [if_neg c17] at H
                                  have c17b0 : (a0 == 19) = false := beq_eq_false_iff_ne.mpr c17
                                  have c17b1 : (a0 != 19) = true := bne_iff_ne.mpr c17
                                  by_cases c18 : a0 = 20
                                  · rw [if_pos c18] at H
                                    have c18b0 : (a0 == 20) = true := beq_iff_eq.mpr c18
                                    have c18b1 : (a0 != 20) = false := bne_eq_false_iff_eq.mpr c18
                                    clear c18
                                    obtain rfl := Option.some.inj H
                                    go_enter Tryd.func79, Tryd.ntmps79
                                    go_wp2
                                    go_ret
                                    exact ⟨by first | rfl | (refine congrArg Ending.returned (congrArg Value.bool ?_); generalize ByteArray.toList _ = l_; cases l_ <;> rfl) | (simp; done) | (simp [*]; done), by repeat (first | exact Drawn0.refl _ | apply Drawn0.step)⟩
                                  · rw [if_neg c18] at H
                                    have c18b0 : (a0 == 20) = false := beq_eq_false_iff_ne.mpr c18
                                    have c18b1 : (a0 != 20) = true := bne_iff_ne.mpr c18
                                    by_cases c19 : a0 = 21
                                    · rw [if_pos c19] at H
                                      have c19b0 : (a0 == 21) = true := beq_iff_eq.mpr c19
                                      have c19b1 : (a0 != 21) = false := bne_eq_false_iff_eq.mpr c19
                                      clear c19
                                      obtain rfl := Option.some.inj H
                                      go_enter Tryd.func79, Tryd.ntmps79
                                      go_wp2
                                      go_ret
                                      exact ⟨by first | rfl | (refine congrArg Ending.returned (congrArg Value.bool ?_); generalize ByteArray.toList _ = l_; cases l_ <;> rfl) | (simp; done) | (simp [*]; done), by repeat (first | exact Drawn0.refl _ | apply Drawn0.step)⟩
                                    · rw [if_neg c19] at H
                                      have c19b0 : (a0 == 21) = false := beq_eq_false_iff_ne.mpr c19
                                      have c19b1 : (a0 != 21) = true := bne_iff_ne.mpr c19
                                      by_cases c20 : a0 = 30
                                      · rw [if_pos c20] at H
                                        have c20b0 : (a0 == 30) = true := beq_iff_eq.mpr c20
                                        have c20b1 : (a0 != 30) = false := bne_eq_false_iff_eq.mpr c20
                                        clear c20
                                        obtain rfl := Option.some.inj H
                                        go_enter Tryd.func79, Tryd.ntmps79
                                        go_wp2
                                        go_ret
                                        exact ⟨by first | rfl | (refine congrArg Ending.returned (congrArg Value.bool ?_); generalize ByteArray.toList _ = l_; cases l_ <;> rfl) | (simp; done) | (simp [*]; done), by repeat (first | exact Drawn0.refl _ | apply Drawn0.step)⟩
                                      · rw [if_neg c20] at H
                                        have c20b0 : (a0 == 30) = false := beq_eq_false_iff_ne.mpr c20
                                        have c20b1 : (a0 != 30) = true := bne_iff_ne.mpr c20
                                        by_cases c21 : a0 = 31
                                        · rw [if_pos c21] at H
                                          have c21b0 : (a0 == 31) = true := beq_iff_eq.mpr c21
                                          have c21b1 : (a0 != 31) = false := bne_eq_false_iff_eq.mpr c21
                                          clear c21
                                          obtain rfl := Option.some.inj H
                                          go_enter Tryd.func79, Tryd.ntmps79
                                          go_wp2
                                          go_ret
                                          exact ⟨by first | rfl | (refine congrArg Ending.returned (congrArg Value.bool ?_); generalize ByteArray.toList _ = l_; cases l_ <;> rfl) | (simp; done) | (simp [*]; done), by repeat (first | exact Drawn0.refl _ | apply Drawn0.step)⟩
                                        · rw [if_neg c21] at H
                                          have c21b0 : (a0 == 31) = false := beq_eq_false_iff_ne.mpr c21
                                          have c21b1 : (a0 != 31) = true := bne_iff_ne.mpr c21
                                          by_cases c22 : a0 = 32
                                          · rw [if_pos c22] at H
                                            have c22b0 : (a0 == 32) = true := beq_iff_eq.mpr c22
                                            have c22b1 : (a0 != 32) = false := bne_eq_false_iff_eq.mpr c22
                                            clear c22
                                            obtain rfl := Option.some.inj H
                                            go_enter Tryd.func79, Tryd.ntmps79
                                            go_wp2
                                            go_ret
                                            exact ⟨by first | rfl | (refine congrArg Ending.returned (congrArg Value.bool ?_); generalize ByteArray.toList _ = l_; cases l_ <;> rfl) | (simp; done) | (simp [*]; done), by repeat (first | exact Drawn0.refl _ | apply Drawn0.step)⟩
                                          · rw [if_neg c22] at H
                                            have c22b0 : (a0 == 32) = false := beq_eq_false_iff_ne.mpr c22
                                            have c22b1 : (a0 != 32) = true := bne_iff_ne.mpr c22
                                            by_cases c23 : a0 = 33
                                            · rw [if_pos c23] at H
                                              have c23b0 : (a0 == 33) = true := beq_iff_eq.mpr c23
                                              have c23b1 : (a0 != 33) = false := bne_eq_false_iff_eq.mpr c23
                                              clear c23
                                              obtain rfl := Option.some.inj H
                                              go_enter Tryd.func79, Tryd.ntmps79
                                              go_wp2
                                              go_ret
                                              exact ⟨by first | rfl | (refine congrArg Ending.returned (congrArg Value.bool ?_); generalize ByteArray.toList _ = l_; cases l_ <;> rfl) | (simp; done) | (simp [*]; done), by repeat (first | exact Drawn0.refl _ | apply Drawn0.step)⟩
                                            · rw [if_neg c23] at H
                                              have c23b0 : (a0 == 33) = false := beq_eq_false_iff_ne.mpr c23
                                              have c23b1 : (a0 != 33) = true := bne_iff_ne.mpr c23
                                              by_cases c24 : a0 = 34
                                              · rw [if_pos c24] at H
                                                have c24b0 : (a0 == 34) = true := beq_iff_eq.mpr c24
                                                have c24b1 : (a0 != 34) = false := bne_eq_false_iff_eq.mpr c24
                                                clear c24
                                                obtain rfl := Option.some.inj H
                                                go_enter Tryd.func79, Tryd.ntmps79
                                                go_wp2
                                                go_ret
                                                exact ⟨by first | rfl | (refine congrArg Ending.returned (congrArg Value.bool ?_); generalize ByteArray.toList _ = l_; cases l_ <;> rfl) | (simp; done) | (simp [*]; done), by repeat (first | exact Drawn0.refl _ | apply Drawn0.step)⟩
                                              · rw [if_neg c24] at H
                                                have c24b0 : (a0 == 34) = false := beq_eq_false_iff_ne.mpr c24
                                                have c24b1 : (a0 != 34) = true := bne_iff_ne.mpr c24
                                                by_cases c25 : a0 = 35
                                                · rw [if_pos c25] at H
                                                  have c25b0 : (a0 == 35) = true := beq_iff_eq.mpr c25
                                                  have c25b1 : (a0 != 35) = false := bne_eq_false_iff_eq.mpr c25
                                                  clear c25
                                                  obtain rfl := Option.some.inj H
                                                  go_enter Tryd.func79, Tryd.ntmps79
                                                  go_wp2
                                                  go_ret
                                                  exact ⟨by first | rfl | (refine congrArg Ending.returned (congrArg Value.bool ?_); generalize ByteArray.toList _ = l_; cases l_ <;> rfl) | (simp; done) | (simp [*]; done), by repeat (first | exact Drawn0.refl _ | apply Drawn0.step)⟩
                                                · rw [if_neg c25] at H
                                                  have c25b0 : (a0 == 35) = false := beq_eq_false_iff_ne.mpr c25
                                                  have c25b1 : (a0 != 35) = true := bne_iff_ne.mpr c25
                                                  by_cases c26 : a0 = 36
                                                  · rw [if_pos c26] at H
                                                    have c26b0 : (a0 == 36) = true := beq_iff_eq.mpr c26
                                                    have c26b1 : (a0 != 36) = false := bne_eq_false_iff_eq.mpr c26
                                                    clear c26
                                                    obtain rfl := Option.some.inj H
                                                    go_enter Tryd.func79, Tryd.ntmps79
                                                    go_wp2
                                                    go_ret
                                                    exact ⟨by first | rfl | (refine congrArg Ending.returned (congrArg Value.bool ?_); generalize ByteArray.toList _ = l_; cases l_ <;> rfl) | (simp; done) | (simp [*]; done), by repeat (first | exact Drawn0.refl _ | apply Drawn0.step)⟩
                                                  · rw [if_neg c26] at H
                                                    have c26b0 : (a0 == 36) = false := beq_eq_false_iff_ne.mpr c26
                                                    have c26b1 : (a0 != 36) = true := bne_iff_ne.mpr c26
                                                    by_cases c27 : a0 = 37
                                                    · rw [if_pos c27] at H
                                                      have c27b0 : (a0 == 37) = true := beq_iff_eq.mpr c27
                                                      have c27b1 : (a0 != 37) = false := bne_eq_false_iff_eq.mpr c27
                                                      clear c27
                                                      obtain rfl := Option.some.inj H
                                                      go_enter Tryd.func79, Tryd.ntmps79
                                                      go_wp2
                                                      go_ret
                                                      exact ⟨by first | rfl | (refine congrArg Ending.returned (congrArg Value.bool ?_); generalize ByteArray.toList _ = l_; cases l_ <;> rfl) | (simp; done) | (simp [*]; done), by repeat (first | exact Drawn0.refl _ | apply Drawn0.step)⟩
                                                    · rw [if_neg c27] at H
                                                      have c27b0 : (a0 == 37) = false := beq_eq_false_iff_ne.mpr c27
                                                      have c27b1 : (a0 != 37) = true := bne_iff_ne.mpr c27
                                                      by_cases c28 : a0 = 38
                                                      · rw [if_pos c28] at H
                                                        have c28b0 : (a0 == 38) = true := beq_iff_eq.mpr c28
                                                        have c28b1 : (a0 != 38) = false := bne_eq_false_iff_eq.mpr c28
                                                        clear c28
                                                        obtain rfl := Option.some.inj H
                                                        go_enter Tryd.func79, Tryd.ntmps79
                                                        go_wp2
                                                        go_ret
                                                        exact ⟨by first | rfl | (refine congrArg Ending.returned (congrArg Value.bool ?_); generalize ByteArray.toList _ = l_; cases l_ <;> rfl) | (simp; done) | (simp [*]; done), by repeat (first | exact Drawn0.refl _ | apply Drawn0.step)⟩
                                                      · rw [if_neg c28] at H
                                                        have c28b0 : (a0 == 38) = false := beq_eq_false_iff_ne.mpr c28
                                                        have c28b1 : (a0 != 38) = true := bne_iff_ne.mpr c28
                                                        by_cases c29 : a0 = 39
                                                        · rw [if_pos c29] at H
                                                          have c29b0 : (a0 == 39) = true := beq_iff_eq.mpr c29
                                                          have c29b1 : (a0 != 39) = false := bne_eq_false_iff_eq.mpr c29
                                                          clear c29
                                                          obtain rfl := Option.some.inj H
                                                          go_enter Tryd.func79, Tryd.ntmps79
                                                          go_wp2
                                                          go_ret
                                                          exact ⟨by first | rfl | (refine congrArg Ending.returned (congrArg Value.bool ?_); generalize ByteArray.toList _ = l_; cases l_ <;> rfl) | (simp; done) | (simp [*]; done), by repeat (first | exact Drawn0.refl _ | apply Drawn0.step)⟩
                                                        · rw [if_neg c29] at H
                                                          have c29b0 : (a0 == 39) = false := beq_eq_false_iff_ne.mpr c29
                                                          have c29b1 : (a0 != 39) = true := bne_iff_ne.mpr c29
                                                          by_cases c30 : a0 = 40
                                                          · rw [if_pos c30] at H
                                                            have c30b0 : (a0 == 40) = true := beq_iff_eq.mpr c30
                                                            have c30b1 : (a0 != 40) = false := bne_eq_false_iff_eq.mpr c30
                                                            clear c30
                                                            obtain rfl := Option.some.inj H
                                                            go_enter Tryd.func79, Tryd.ntmps79
                                                            go_wp2
                                                            go_ret
                                                            exact ⟨by first | rfl | (refine congrArg Ending.returned (congrArg Value.bool ?_); generalize ByteArray.toList _ = l_; cases l_ <;> rfl) | (simp; done) | (simp [*]; done), by repeat (first | exact Drawn0.refl _ | apply Drawn0.step)⟩
                                                          · rw [if_neg c30] at H
                                                            have c30b0 : (a0 == 40) = false := beq_eq_false_iff_ne.mpr c30
                                                            have c30b1 : (a0 != 40) = true := bne_iff_ne.mpr c30
                                                            by_cases c31 : a0 = 41
                                                            · rw [if_pos c31] at H
                                                              have c31b0 : (a0 == 41) = true := beq_iff_eq.mpr c31
                                                              have c31b1 : (a0 != 41) = false := bne_eq_false_iff_eq.mpr c31
                                                              clear c31
                                                              obtain rfl := Option.some.inj H
                                                              go_enter Tryd.func79, Tryd.ntmps79
                                                              go_wp2
                                                              go_ret
                                                              exact ⟨by first | rfl | (refine congrArg Ending.returned (congrArg Value.bool ?_); generalize ByteArray.toList _ = l_; cases l_ <;> rfl) | (simp; done) | (simp [*]; done), by repeat (first | exact Drawn0.refl _ | apply Drawn0.step)⟩
                                                            · rw [if_neg c31] at H
                                                              have c31b0 : (a0 == 41) = false := beq_eq_false_iff_ne.mpr c31
                                                              have c31b1 : (a0 != 41) = true := bne_iff_ne.mpr c31
                                                              by_cases c32 : a0 = 42
                                                              · rw [if_pos c32] at H
                                                                have c32b0 : (a0 == 42) = true := beq_iff_eq.mpr c32
                                                                have c32b1 : (a0 != 42) = false := bne_eq_false_iff_eq.mpr c32
                                                                clear c32
                                                                obtain rfl := Option.some.inj H
                                                                go_enter Tryd.func79, Tryd.ntmps79
                                                                go_wp2
                                                                go_ret
                                                                exact ⟨by first | rfl | (refine congrArg Ending.returned (congrArg Value.bool ?_); generalize ByteArray.toList _ = l_; cases l_ <;> rfl) | (simp; done) | (simp [*]; done), by repeat (first | exact Drawn0.refl _ | apply Drawn0.step)⟩
                                                              · rw [if_neg c32] at H
                                                                have c32b0 : (a0 == 42) = false := beq_eq_false_iff_ne.mpr c32
                                                                have c32b1 : (a0 != 42) = true := bne_iff_ne.mpr c32
                                                                by_cases c33 : a0 = 43
                                                                · rw [if_pos c33] at H
                                                                  have c33b0 : (a0 == 43) = true := beq_iff_eq.mpr c33
                                                                  have c33b1 : (a0 != 43) = false := bne_eq_false_iff_eq.mpr c33
                                                                  clear c33
                                                                  obtain rfl := Option.some.inj H
                                                                  go_enter Tryd.func79, Tryd.ntmps79
                                                                  go_wp2
                                                                  go_ret
                                                                  exact ⟨by first | rfl | (refine congrArg Ending.returned (congrArg Value.bool ?_); generalize ByteArray.toList _ = l_; cases l_ <;> rfl) | (simp; done) | (simp [*]; done), by repeat (first | exact Drawn0.refl _ | apply Drawn0.step)⟩
                                                                · rw [if_neg c33] at H
                                                                  have c33b0 : (a0 == 43) = false := beq_eq_false_iff_ne.mpr c33
                                                                  have c33b1 : (a0 != 43) = true := bne_iff_ne.mpr c33
                                                                  by_cases c34 : a0 = 44
                                                                  · rw [if_pos c34] at H
                                                                    have c34b0 : (a0 == 44) = true := beq_iff_eq.mpr c34
                                                                    have c34b1 : (a0 != 44) = false := bne_eq_false_iff_eq.mpr c34
                                                                    clear c34
                                                                    obtain rfl := Option.some.inj H
                                                                    go_enter Tryd.func79, Tryd.ntmps79
                                                                    go_wp2
                                                                    go_ret
                                                                    exact ⟨by first | rfl | (refine congrArg Ending.returned (congrArg Value.bool ?_); generalize ByteArray.toList _ = l_; cases l_ <;> rfl) | (simp; done) | (simp [*]; done), by repeat (first | exact Drawn0.refl _ | apply Drawn0.step)⟩
                                                                  · rw [if_neg c34] at H
                                                                    have c34b0 : (a0 == 44) = false := beq_eq_false_iff_ne.mpr c34
                                                                    have c34b1 : (a0 != 44) = true := bne_iff_ne.mpr c34
                                                                    by_cases c35 : a0 = 45
                                                                    · rw [if_pos c35] at H
                                                                      have c35b0 : (a0 == 45) = true := beq_iff_eq.mpr c35
                                                                      have c35b1 : (a0 != 45) = false := bne_eq_false_iff_eq.mpr c35
                                                                      clear c35
                                                                      obtain rfl := Option.some.inj H
                                                                      go_enter Tryd.func79, Tryd.ntmps79
                                                                      go_wp2
                                                                      go_ret
                                                                      exact ⟨by first | rfl | (refine congrArg Ending.returned (congrArg Value.bool ?_); generalize ByteArray.toList _ = l_; cases l_ <;> rfl) | (simp; done) | (simp [*]; done), by repeat (first | exact Drawn0.refl _ | apply Drawn0.step)⟩
                                                                    · rw [if_neg c35] at H
                                                                      have c35b0 : (a0 == 45) = false := beq_eq_false_iff_ne.mpr c35
                                                                      have c35b1 : (a0 != 45) = true := bne_iff_ne.mpr c35
                                                                      by_cases c36 : a0 = 46
                                                                      · rw [if_pos c36] at H
                                                                        have c36b0 : (a0 == 46) = true := beq_iff_eq.mpr c36
                                                                        have c36b1 : (a0 != 46) = false := bne_eq_false_iff_eq.mpr c36
                                                                        clear c36
                                                                        obtain rfl := Option.some.inj H
                                                                        go_enter Tryd.func79, Tryd.ntmps79
                                                                        go_wp2
                                                                        go_ret
                                                                        exact ⟨by first | rfl | (refine congrArg Ending.returned (congrArg Value.bool ?_); generalize ByteArray.toList _ = l_; cases l_ <;> rfl) | (simp; done) | (simp [*]; done), by repeat (first | exact Drawn0.refl _ | apply Drawn0.step)⟩
                                                                      · rw [if_neg c36] at H
                                                                        have c36b0 : (a0 == 46) = false := beq_eq_false_iff_ne.mpr c36
                                                                        have c36b1 : (a0 != 46) = true := bne_iff_ne.mpr c36
                                                                        by_cases c37 : a0 = 47
                                                                        · rw [if_pos c37] at H
                                                                          have c37b0 : (a0 == 47) = true := beq_iff_eq.mpr c37
                                                                          have c37b1 : (a0 != 47) = false := bne_eq_false_iff_eq.mpr c37
                                                                          clear c37
                                                                          obtain rfl := Option.some.inj H
                                                                          go_enter Tryd.func79, Tryd.ntmps79
                                                                          go_wp2
                                                                          go_ret
                                                                          exact ⟨by first | rfl | (refine congrArg Ending.returned (congrArg Value.bool ?_); generalize ByteArray.toList _ = l_; cases l_ <;> rfl) | (simp; done) | (simp [*]; done), by repeat (first | exact Drawn0.refl _ | apply Drawn0.step)⟩
                                                                        · rw [if_neg c37] at H
                                                                          have c37b0 : (a0 == 47) = false := beq_eq_false_iff_ne.mpr c37
                                                                          have c37b1 : (a0 != 47) = true := bne_iff_ne.mpr c37
                                                                          by_cases c38 : a0 = 50
                                                                          · rw [if_pos c38] at H
                                                                            have c38b0 : (a0 == 50) = true := beq_iff_eq.mpr c38
                                                                            have c38b1 : (a0 != 50) = false := bne_eq_false_iff_eq.mpr c38
                                                                            clear c38
                                                                            obtain rfl := Option.some.inj H
                                                                            go_enter Tryd.func79, Tryd.ntmps79
                                                                            go_wp2
                                                                            go_ret
                                                                            exact ⟨by first | rfl | (refine congrArg Ending.returned (congrArg Value.bool ?_); generalize ByteArray.toList _ = l_; cases l_ <;> rfl) | (simp; done) | (simp [*]; done), by repeat (first | exact Drawn0.refl _ | apply Drawn0.step)⟩
                                                                          · rw [if_neg c38] at H
                                                                            have c38b0 : (a0 == 50) = false := beq_eq_false_iff_ne.mpr c38
                                                                            have c38b1 : (a0 != 50) = true := bne_iff_ne.mpr c38
                                                                            by_cases c39 : a0 = 60
                                                                            · rw [if_pos c39] at H
                                                                              have c39b0 : (a0 == 60) = true := beq_iff_eq.mpr c39
                                                                              have c39b1 : (a0 != 60) = false := bne_eq_false_iff_eq.mpr c39
                                                                              clear c39
                                                                              obtain rfl := Option.some.inj H
                                                                              go_enter Tryd.func79, Tryd.ntmps79
                                                                              go_wp2
                                                                              go_ret
                                                                              exact ⟨by first | rfl | (refine congrArg Ending.returned (congrArg Value.bool ?_); generalize ByteArray.toList _ = l_; cases l_ <;> rfl) | (simp; done) | (simp [*]; done), by repeat (first | exact Drawn0.refl _ | apply Drawn0.step)⟩
                                                                            · rw [if_neg c39] at H
                                                                              have c39b0 : (a0 == 60) = false := beq_eq_false_iff_ne.mpr c39
                                                                              have c39b1 : (a0 != 60) = true := bne_iff_ne.mpr c39
                                                                              by_cases c40 : a0 = 61
                                                                              · rw [if_pos c40] at H
                                                                                have c40b0 : (a0 == 61) = true := beq_iff_eq.mpr c40
                                                                                have c40b1 : (a0 != 61) = false := bne_eq_false_iff_eq.mpr c40
                                                                                clear c40
                                                                                obtain rfl := Option.some.inj H
                                                                                go_enter Tryd.func79, Tryd.ntmps79
                                                                                go_wp2
                                                                                go_ret
                                                                                exact ⟨by first | rfl | (refine congrArg Ending.returned (congrArg Value.bool ?_); generalize ByteArray.toList _ = l_; cases l_ <;> rfl) | (simp; done) | (simp [*]; done), by repeat (first | exact Drawn0.refl _ | apply Drawn0.step)⟩
                                                                              · rw [if_neg c40] at H
                                                                                have c40b0 : (a0 == 61) = false := beq_eq_false_iff_ne.mpr c40
                                                                                have c40b1 : (a0 != 61) = true := bne_iff_ne.mpr c40
                                                                                by_cases c41 : a0 = 62
                                                                                · rw [if_pos c41] at H
                                                                                  have c41b0 : (a0 == 62) = true := beq_iff_eq.mpr c41
                                                                                  have c41b1 : (a0 != 62) = false := bne_eq_false_iff_eq.mpr c41
                                                                                  clear c41
                                                                                  obtain rfl := Option.some.inj H
                                                                                  go_enter Tryd.func79, Tryd.ntmps79
                                                                                  go_wp2
                                                                                  go_ret
                                                                                  exact ⟨by first | rfl | (refine congrArg Ending.returned (congrArg Value.bool ?_); generalize ByteArray.toList _ = l_; cases l_ <;> rfl) | (simp; done) | (simp [*]; done), by repeat (first | exact Drawn0.refl _ | apply Drawn0.step)⟩
                                                                                · rw [if_neg c41] at H
                                                                                  have c41b0 : (a0 == 62) = false := beq_eq_false_iff_ne.mpr c41
                                                                                  have c41b1 : (a0 != 62) = true := bne_iff_ne.mpr c41
                                                                                  by_cases c42 : a0 = 63
                                                                                  · rw [if_pos c42] at H
                                                                                    have c42b0 : (a0 == 63) = true := beq_iff_eq.mpr c42
                                                                                    have c42b1 : (a0 != 63) = false := bne_eq_false_iff_eq.mpr c42
                                                                                    clear c42
                                                                                    obtain rfl := Option.some.inj H
                                                                                    go_enter Tryd.func79, Tryd.ntmps79
                                                                                    go_wp2
                                                                                    go_ret
                                                                                    exact ⟨by first | rfl | (refine congrArg Ending.returned (congrArg Value.bool ?_); generalize ByteArray.toList _ = l_; cases l_ <;> rfl) | (simp; done) | (simp [*]; done), by repeat (first | exact Drawn0.refl _ | apply Drawn0.step)⟩
                                                                                  · rw [if_neg c42] at H
                                                                                    have c42b0 : (a0 == 63) = false := beq_eq_false_iff_ne.mpr c42
                                                                                    have c42b1 : (a0 != 63) = true := bne_iff_ne.mpr c42
                                                                                    by_cases c43 : a0 = 70
                                                                                    · rw [if_pos c43] at H
                                                                                      have c43b0 : (a0 == 70) = true := beq_iff_eq.mpr c43
                                                                                      have c43b1 : (a0 != 70) = false := bne_eq_false_iff_eq.mpr c43
                                                                                      clear c43
                                                                                      obtain rfl := Option.some.inj H
                                                                                      go_enter Tryd.func79, Tryd.ntmps79
                                                                                      go_wp2
                                                                                      go_ret
                                                                                      exact ⟨by first | rfl | (refine congrArg Ending.returned (congrArg Value.bool ?_); generalize ByteArray.toList _ = l_; cases l_ <;> rfl) | (simp; done) | (simp [*]; done), by repeat (first | exact Drawn0.refl _ | apply Drawn0.step)⟩
                                                                                    · rw [if_neg c43] at H
                                                                                      have c43b0 : (a0 == 70) = false := beq_eq_false_iff_ne.mpr c43
                                                                                      have c43b1 : (a0 != 70) = true := bne_iff_ne.mpr c43
                                                                                      by_cases c44 : a0 = 80
                                                                                      · rw [if_pos c44] at H
                                                                                        have c44b0 : (a0 == 80) = true := beq_iff_eq.mpr c44
                                                                                        have c44b1 : (a0 != 80) = false := bne_eq_false_iff_eq.mpr c44
                                                                                        clear c44
                                                                                        obtain rfl := Option.some.inj H
                                                                                        go_enter Tryd.func79, Tryd.ntmps79
                                                                                        go_wp2
                                                                                        go_ret
                                                                                        exact ⟨by first | rfl | (refine congrArg Ending.returned (congrArg Value.bool ?_); generalize ByteArray.toList _ = l_; cases l_ <;> rfl) | (simp; done) | (simp [*]; done), by repeat (first | exact Drawn0.refl _ | apply Drawn0.step)⟩
                                                                                      · rw [if_neg c44] at H
                                                                                        have c44b0 : (a0 == 80) = false := beq_eq_false_iff_ne.mpr c44
                                                                                        have c44b1 : (a0 != 80) = true := bne_iff_ne.mpr c44
                                                                                        obtain rfl := Option.some.inj H
                                                                                        go_enter Tryd.func79, Tryd.ntmps79
                                                                                        go_wp2
                                                                                        go_ret
                                                                                        exact ⟨by first | rfl | (refine congrArg Ending.returned (congrArg Value.bool ?_); generalize ByteArray.toList _ = l_; cases l_ <;> rfl) | (simp; done) | (simp [*]; done), by repeat (first | exact Drawn0.refl _ | apply Drawn0.step)⟩

/-! ### impl_IsPc: function 78 -/
def impl_IsPc.f (a0 : Int) : Option (Bool) := (impl_PcName.f a0).bind fun t183 => (some (t183.toList != ([] : List UInt8)))
set_option maxHeartbeats 8000000 in
set_option maxRecDepth 100000 in
theorem impl_IsPc.calls (a0 : Int) (r : Bool) (w : World) (h : impl_IsPc.f a0 = some r) :
    Calls Tryd.prog 78 #[.int .i64 a0] w fun e w' => e = .returned (.bool r) ∧ Drawn0 w w' := by
  have H : ((impl_PcName.f a0).bind fun t183 => (some (t183.toList != ([] : List UInt8)))) = some r := h
  clear h
  replace H := Option.bind_eq_some_iff.mp H
  obtain ⟨t183, A20, H⟩ := H
  replace H : (some (t183.toList != ([] : List UInt8))) = some r := H
  have A2 := Aside0.mk A20
  clear A20
  obtain rfl := Option.some.inj H
  go_enter Tryd.func78, Tryd.ntmps78
  go_wp2_with (first | ((with_reducible refine gate_callee (f := 79) rfl ?_); refine goesL_ (some 4) rfl rfl Tryd.func79 (by kernel_rfl) rfl #[.int .i64 a0] rfl (by (try simp only [List.map_toArray, List.map_cons, List.map_nil]); first | done | rfl | (simp only [List.length_drop, List.length_take]; rfl)) ?_; (with_reducible refine (impl_PcName.calls a0 t183 _ A2.out).mono ?_); rintro e w' ⟨rfl, ⟨nd, rfl⟩⟩; refine ⟨_, rfl, ?_⟩))
  go_ret
  exact ⟨by first | rfl | (refine congrArg Ending.returned (congrArg Value.bool ?_); generalize ByteArray.toList _ = l_; cases l_ <;> rfl) | (simp; done) | (simp [*]; done), by repeat (first | exact Drawn0.refl _ | apply Drawn0.step)⟩

end Go.Proofs.YtbenihcaleiacaaDoor.GFnExactFormatThread
