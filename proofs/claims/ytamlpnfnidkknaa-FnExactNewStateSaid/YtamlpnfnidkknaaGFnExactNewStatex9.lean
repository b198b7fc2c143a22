/- Of each Go function that the law FnExactNewState reaches: a Lean function, and the proof that the call comes to just its answer; written by a turned copy of the kit's printer, with contracts typed by hand for functions that it does not take. No condition. -/
import Derived.Test.YtamlpnfnidkknaaGFnExactNewStatex0
import Derived.Test.YtamlpnfnidkknaaGFnExactNewStatex7
import Derived.Test.YtamlpnfnidkknaaGFnExactNewStatex8
namespace Go.Proofs.Ytamlpnfnidkknaa.GFnExactNewState
open Go.RowKit Go.Proofs.YtamlpnfnidkknaaW.PrintWords Go.Proofs.YtamlpnfnidkknaaW.PrintLast Go.Proofs.YtamlpnfnidkknaaW.PrintMore
attribute [local go_sem] max2_int min2_int max_two min_two max_three min_three max_four min_four   -- for this text's walks alone
set_option linter.unusedVariables false
set_option linter.unusedSimpArgs false

/-! ### laws_heldThreadS: function 47 -/
def laws_heldThreadS.l0 : Nat → List (S36) → Int → Int → Option (Int)
  | 0, _, _, _ => none
  | k + 1, x0, x1, x5 => if x5 < (x0.length : Int) then (if 0 ≤ x5 then (if ((rd_T36 x0 x5).f0) = x1 then (if ((rd_T36 x0 x5).f1.f0) = (wrap64 (x1 + 1)) then (if ((rd_T36 x0 x5).f1.f1) = (wrap64 ((wrap64 (x1 + 1)) + 1)) then (if ((rd_T36 x0 x5).f1.f2) = (wrap64 ((wrap64 ((wrap64 (x1 + 1)) + 1)) + 1)) then (if ((rd_T36 x0 x5).f2.f0) = (wrap64 ((wrap64 ((wrap64 ((wrap64 (x1 + 1)) + 1)) + 1)) + 1)) then (if ((rd_T36 x0 x5).f2.f1) = (wrap64 ((wrap64 ((wrap64 ((wrap64 ((wrap64 (x1 + 1)) + 1)) + 1)) + 1)) + 1)) then (if ((rd_T36 x0 x5).f3) = (wrap64 ((wrap64 ((wrap64 ((wrap64 ((wrap64 ((wrap64 (x1 + 1)) + 1)) + 1)) + 1)) + 1)) + 1)) then (if ((rd_T36 x0 x5).f4) = (wrap64 ((wrap64 ((wrap64 ((wrap64 ((wrap64 ((wrap64 ((wrap64 (x1 + 1)) + 1)) + 1)) + 1)) + 1)) + 1)) + 1)) then (if ((rd_T36 x0 x5).f5) = (wrap64 ((wrap64 ((wrap64 ((wrap64 ((wrap64 ((wrap64 ((wrap64 ((wrap64 (x1 + 1)) + 1)) + 1)) + 1)) + 1)) + 1)) + 1)) + 1)) then (if ((rd_T36 x0 x5).f6) = (wrap64 ((wrap64 ((wrap64 ((wrap64 ((wrap64 ((wrap64 ((wrap64 ((wrap64 ((wrap64 (x1 + 1)) + 1)) + 1)) + 1)) + 1)) + 1)) + 1)) + 1)) + 1)) then (if ((rd_T36 x0 x5).f7) = (wrap64 ((wrap64 ((wrap64 ((wrap64 ((wrap64 ((wrap64 ((wrap64 ((wrap64 ((wrap64 ((wrap64 (x1 + 1)) + 1)) + 1)) + 1)) + 1)) + 1)) + 1)) + 1)) + 1)) + 1)) then (if ((rd_T36 x0 x5).f8) = (wrap64 ((wrap64 ((wrap64 ((wrap64 ((wrap64 ((wrap64 ((wrap64 ((wrap64 ((wrap64 ((wrap64 ((wrap64 (x1 + 1)) + 1)) + 1)) + 1)) + 1)) + 1)) + 1)) + 1)) + 1)) + 1)) + 1)) then (if ((rd_T36 x0 x5).f9) = (wrap64 ((wrap64 ((wrap64 ((wrap64 ((wrap64 ((wrap64 ((wrap64 ((wrap64 ((wrap64 ((wrap64 ((wrap64 ((wrap64 (x1 + 1)) + 1)) + 1)) + 1)) + 1)) + 1)) + 1)) + 1)) + 1)) + 1)) + 1)) + 1)) then (if ((rd_T36 x0 x5).f10) = (wrap64 ((wrap64 ((wrap64 ((wrap64 ((wrap64 ((wrap64 ((wrap64 ((wrap64 ((wrap64 ((wrap64 ((wrap64 ((wrap64 ((wrap64 (x1 + 1)) + 1)) + 1)) + 1)) + 1)) + 1)) + 1)) + 1)) + 1)) + 1)) + 1)) + 1)) + 1)) then ((laws_heldIntS.f k ((rd_T36 x0 x5).f11) (wrap64 ((wrap64 ((wrap64 ((wrap64 ((wrap64 ((wrap64 ((wrap64 ((wrap64 ((wrap64 ((wrap64 ((wrap64 ((wrap64 ((wrap64 ((wrap64 (x1 + 1)) + 1)) + 1)) + 1)) + 1)) + 1)) + 1)) + 1)) + 1)) + 1)) + 1)) + 1)) + 1)) + 1))).bind fun t253 => (if t253 < 0 then (none) else ((laws_heldIntS.f k ((rd_T36 x0 x5).f12) t253).bind fun t255 => (if t255 < 0 then (none) else ((laws_heldEntryS.f k ((rd_T36 x0 x5).f13) t255).bind fun t257 => (if t257 < 0 then (none) else ((laws_heldEntryS.f k ((rd_T36 x0 x5).f14) t257).bind fun t259 => (if t259 < 0 then (none) else ((laws_heldIntS.f k ((rd_T36 x0 x5).f15) t259).bind fun t261 => (if t261 < 0 then (none) else (laws_heldThreadS.l0 k x0 t261 (wrap64 (x5 + 1))))))))))))) else (none)) else (none)) else (none)) else (none)) else (none)) else (none)) else (none)) else (none)) else (none)) else (none)) else (none)) else (none)) else (none)) else (none)) else (none)) else (some x1)
def laws_heldThreadS.f (k : Nat) (l0 : List (S36)) (a1 : Int) : Option (Int) := laws_heldThreadS.l0 k l0 a1 0
theorem laws_heldThreadS.mono_l : ∀ k, (∀ y0 y1 y2, LeO (laws_heldThreadS.l0 k y0 y1 y2) (laws_heldThreadS.l0 (k + 1) y0 y1 y2))
  | 0 => fun _ _ _ r h => by simp [laws_heldThreadS.l0] at h
  | k + 1 => by
    have ih0 := laws_heldThreadS.mono_l k
    · intro y0 y1 y2
      unfold laws_heldThreadS.l0
      repeat' first
      | (with_reducible exact ih0 _ _ _)
      | (with_reducible exact laws_heldEntryS.mono _ _ _)
      | (with_reducible exact laws_heldIntS.mono _ _ _)
      | (with_reducible exact LeO.refl _)
      | (with_reducible exact LeO.none _)
      | (with_reducible refine LeO.ite ?_ ?_)
      | (with_reducible refine LeO.bind ?_ (fun _ => ?_))
      | exact ih0 _ _ _
      | exact laws_heldEntryS.mono _ _ _
      | exact laws_heldIntS.mono _ _ _
      | exact LeO.none _
      | refine LeO.ite ?_ ?_
      | refine LeO.bind ?_ (fun _ => ?_)
theorem laws_heldThreadS.mono : ∀ a0 a1 k, LeO (laws_heldThreadS.f k a0 a1) (laws_heldThreadS.f (k + 1) a0 a1) := by
  intro a0 a1 k
  have ih0 := laws_heldThreadS.mono_l k
  unfold laws_heldThreadS.f
  repeat' first
      | (with_reducible exact ih0 _ _ _)
      | (with_reducible exact laws_heldEntryS.mono _ _ _)
      | (with_reducible exact laws_heldIntS.mono _ _ _)
      | (with_reducible exact LeO.refl _)
      | (with_reducible exact LeO.none _)
      | (with_reducible refine LeO.ite ?_ ?_)
      | (with_reducible refine LeO.bind ?_ (fun _ => ?_))
      | exact ih0 _ _ _
      | exact laws_heldEntryS.mono _ _ _
      | exact laws_heldIntS.mono _ _ _
      | exact LeO.none _
      | refine LeO.ite ?_ ?_
      | refine LeO.bind ?_ (fun _ => ?_)
set_option maxHeartbeats 8000000 in
set_option maxRecDepth 100000 in
theorem laws_heldThreadS.calls (k : Nat) (A0 : Option Addr) (c0 : Nat) (l0 : List (S36)) (a1 : Int) (r : Int) (w : World) (hr0 : Kd.C k36 w A0 l0.length l0) (hc0 : l0.length ≤ c0) (h : laws_heldThreadS.f k l0 a1 = some r) :
    Calls Try.prog 47 #[.slice A0 l0.length c0, .int .i64 a1] w fun e w' => e = .returned (.int .i64 r) ∧ Drawn0 w w' := by
  have HR0 := Aside0.mk hr0
  have HC0 := Aside0.mk hc0
  clear hr0 hc0
  have H : (laws_heldThreadS.l0 k l0 a1 0) = some r := h
  clear h
  have H' := Aside0.mk H
  clear H
  go_enter Try.func47, Try.ntmps47
  go_wp2
  go_loopg [1, 5] k (fun kq v1 v5 w' => ∃ (x1_1 : Int) (x5_1 : Int), v1 = .int .i64 x1_1 ∧ v5 = .int .i64 x5_1 ∧ Aside0 (laws_heldThreadS.l0 kq l0 x1_1 x5_1 = some r) ∧ Aside0 (kq ≤ k) ∧ Drawn0 w w')
  case atStart => exact ⟨(a1), (0), (by first | rfl | (simp; done) | (simp [*]; done)), (by first | rfl | (simp; done) | (simp [*]; done) | (simp [*]; generalize ByteArray.toList _ = l_; cases l_ <;> rfl)), H', ⟨Nat.le_refl _⟩, by repeat (first | exact Drawn0.refl _ | apply Drawn0.step)⟩
  case round =>
    clear H'
    try clear p2
    obtain ⟨x1_1, x5_1, rfl, rfl, HA, HK1, ⟨m1, rfl⟩⟩ := hrel
    cases gk with
    | zero => exact absurd HA.out (by simp [laws_heldThreadS.l0])
    | succ k1 =>
      have H := HA.out
      clear HA
      simp only [laws_heldThreadS.l0] at H
      by_cases c3 : x5_1 < (l0.length : Int)
      · rw [if_pos c3] at H
        have c3b0 : decide (x5_1 < (l0.length : Int)) = true := decide_eq_true c3
        clear c3
        by_cases c4 : 0 ≤ x5_1
        · rw [if_pos c4] at H
          have c4b0 : decide (0 ≤ x5_1) = true := decide_eq_true c4
          clear c4
          by_cases c5 : ((rd_T36 l0 x5_1).f0) = x1_1
          · rw [if_pos c5] at H
            have c5b0 : (((rd_T36 l0 x5_1).f0) == x1_1) = true := beq_iff_eq.mpr c5
            have c5b1 : (((rd_T36 l0 x5_1).f0) != x1_1) = false := bne_eq_false_iff_eq.mpr c5
            clear c5
            by_cases c6 : ((rd_T36 l0 x5_1).f1.f0) = (wrap64 (x1_1 + 1))
            · rw [if_pos c6] at H
              have c6b0 : (((rd_T36 l0 x5_1).f1.f0) == (wrap64 (x1_1 + 1))) = true := beq_iff_eq.mpr c6
              have c6b1 : (((rd_T36 l0 x5_1).f1.f0) != (wrap64 (x1_1 + 1))) = false := bne_eq_false_iff_eq.mpr c6
              clear c6
              by_cases c7 : ((rd_T36 l0 x5_1).f1.f1) = (wrap64 ((wrap64 (x1_1 + 1)) + 1))
              · rw [if_pos c7] at H
                have c7b0 : (((rd_T36 l0 x5_1).f1.f1) == (wrap64 ((wrap64 (x1_1 + 1)) + 1))) = true := beq_iff_eq.mpr c7
                have c7b1 : (((rd_T36 l0 x5_1).f1.f1) != (wrap64 ((wrap64 (x1_1 + 1)) + 1))) = false := bne_eq_false_iff_eq.mpr c7
                clear c7
                by_cases c8 : ((rd_T36 l0 x5_1).f1.f2) = (wrap64 ((wrap64 ((wrap64 (x1_1 + 1)) + 1)) + 1))
                · rw [if_pos c8] at H
                  have c8b0 : (((rd_T36 l0 x5_1).f1.f2) == (wrap64 ((wrap64 ((wrap64 (x1_1 + 1)) + 1)) + 1))) = true := beq_iff_eq.mpr c8
                  have c8b1 : (((rd_T36 l0 x5_1).f1.f2) != (wrap64 ((wrap64 ((wrap64 (x1_1 + 1)) + 1)) + 1))) = false := bne_eq_false_iff_eq.mpr c8
                  clear c8
                  by_cases c9 : ((rd_T36 l0 x5_1).f2.f0) = (wrap64 ((wrap64 ((wrap64 ((wrap64 (x1_1 + 1)) + 1)) + 1)) + 1))
                  · rw [if_pos c9] at H
                    have c9b0 : (((rd_T36 l0 x5_1).f2.f0) == (wrap64 ((wrap64 ((wrap64 ((wrap64 (x1_1 + 1)) + 1)) + 1)) + 1))) = true := beq_iff_eq.mpr c9
                    have c9b1 : (((rd_T36 l0 x5_1).f2.f0) != (wrap64 ((wrap64 ((wrap64 ((wrap64 (x1_1 + 1)) + 1)) + 1)) + 1))) = false := bne_eq_false_iff_eq.mpr c9
                    clear c9
                    by_cases c10 : ((rd_T36 l0 x5_1).f2.f1) = (wrap64 ((wrap64 ((wrap64 ((wrap64 ((wrap64 (x1_1 + 1)) + 1)) + 1)) + 1)) + 1))
                    · rw [if_pos c10] at H
                      have c10b0 : (((rd_T36 l0 x5_1).f2.f1) == (wrap64 ((wrap64 ((wrap64 ((wrap64 ((wrap64 (x1_1 + 1)) + 1)) + 1)) + 1)) + 1))) = true := beq_iff_eq.mpr c10
                      have c10b1 : (((rd_T36 l0 x5_1).f2.f1) != (wrap64 ((wrap64 ((wrap64 ((wrap64 ((wrap64 (x1_1 + 1)) + 1)) + 1)) + 1)) + 1))) = false := bne_eq_false_iff_eq.mpr c10
                      clear c10
                      by_cases c11 : ((rd_T36 l0 x5_1).f3) = (wrap64 ((wrap64 ((wrap64 ((wrap64 ((wrap64 ((wrap64 (x1_1 + 1)) + 1)) + 1)) + 1)) + 1)) + 1))
                      · rw [if_pos c11] at H
                        have c11b0 : (((rd_T36 l0 x5_1).f3) == (wrap64 ((wrap64 ((wrap64 ((wrap64 ((wrap64 ((wrap64 (x1_1 + 1)) + 1)) + 1)) + 1)) + 1)) + 1))) = true := beq_iff_eq.mpr c11
                        have c11b1 : (((rd_T36 l0 x5_1).f3) != (wrap64 ((wrap64 ((wrap64 ((wrap64 ((wrap64 ((wrap64 (x1_1 + 1)) + 1)) + 1)) + 1)) + 1)) + 1))) = false := bne_eq_false_iff_eq.mpr c11
                        clear c11
                        by_cases c12 : ((rd_T36 l0 x5_1).f4) = (wrap64 ((wrap64 ((wrap64 ((wrap64 ((wrap64 ((wrap64 ((wrap64 (x1_1 + 1)) + 1)) + 1)) + 1)) + 1)) + 1)) + 1))
                        · rw [if_pos c12] at H
                          have c12b0 : (((rd_T36 l0 x5_1).f4) == (wrap64 ((wrap64 ((wrap64 ((wrap64 ((wrap64 ((wrap64 ((wrap64 (x1_1 + 1)) + 1)) + 1)) + 1)) + 1)) + 1)) + 1))) = true := beq_iff_eq.mpr c12
                          have c12b1 : (((rd_T36 l0 x5_1).f4) != (wrap64 ((wrap64 ((wrap64 ((wrap64 ((wrap64 ((wrap64 ((wrap64 (x1_1 + 1)) + 1)) + 1)) + 1)) + 1)) + 1)) + 1))) = false := bne_eq_false_iff_eq.mpr c12
                          clear c12
                          by_cases c13 : ((rd_T36 l0 x5_1).f5) = (wrap64 ((wrap64 ((wrap64 ((wrap64 ((wrap64 ((wrap64 ((wrap64 ((wrap64 (x1_1 + 1)) + 1)) + 1)) + 1)) + 1)) + 1)) + 1)) + 1))
                          · rw [if_pos c13] at H
                            have c13b0 : (((rd_T36 l0 x5_1).f5) == (wrap64 ((wrap64 ((wrap64 ((wrap64 ((wrap64 ((wrap64 ((wrap64 ((wrap64 (x1_1 + 1)) + 1)) + 1)) + 1)) + 1)) + 1)) + 1)) + 1))) = true := beq_iff_eq.mpr c13
                            have c13b1 : (((rd_T36 l0 x5_1).f5) != (wrap64 ((wrap64 ((wrap64 ((wrap64 ((wrap64 ((wrap64 ((wrap64 ((wrap64 (x1_1 + 1)) + 1)) + 1)) + 1)) + 1)) + 1)) + 1)) + 1))) = false := bne_eq_false_iff_eq.mpr c13
                            clear c13
                            by_cases c14 : ((rd_T36 l0 x5_1).f6) = (wrap64 ((wrap64 ((wrap64 ((wrap64 ((wrap64 ((wrap64 ((wrap64 ((wrap64 ((wrap64 (x1_1 + 1)) + 1)) + 1)) + 1)) + 1)) + 1)) + 1)) + 1)) + 1))
                            · rw [if_pos c14] at H
                              have c14b0 : (((rd_T36 l0 x5_1).f6) == (wrap64 ((wrap64 ((wrap64 ((wrap64 ((wrap64 ((wrap64 ((wrap64 ((wrap64 ((wrap64 (x1_1 + 1)) + 1)) + 1)) + 1)) + 1)) + 1)) + 1)) + 1)) + 1))) = true := beq_iff_eq.mpr c14
                              have c14b1 : (((rd_T36 l0 x5_1).f6) != (wrap64 ((wrap64 ((wrap64 ((wrap64 ((wrap64 ((wrap64 ((wrap64 ((wrap64 ((wrap64 (x1_1 + 1)) + 1)) + 1)) + 1)) + 1)) + 1)) + 1)) + 1)) + 1))) = false := bne_eq_false_iff_eq.mpr c14
                              clear c14
                              by_cases c15 : ((rd_T36 l0 x5_1).f7) = (wrap64 ((wrap64 ((wrap64 ((wrap64 ((wrap64 ((wrap64 ((wrap64 ((wrap64 ((wrap64 ((wrap64 (x1_1 + 1)) + 1)) + 1)) + 1)) + 1)) + 1)) + 1)) + 1)) + 1)) + 1))
                              · rw [if_pos c15] at H
                                have c15b0 : (((rd_T36 l0 x5_1).f7) == (wrap64 ((wrap64 ((wrap64 ((wrap64 ((wrap64 ((wrap64 ((wrap64 ((wrap64 ((wrap64 ((wrap64 (x1_1 + 1)) + 1)) + 1)) + 1)) + 1)) + 1)) + 1)) + 1)) + 1)) + 1))) = true := beq_iff_eq.mpr c15
                                have c15b1 : (((rd_T36 l0 x5_1).f7) != (wrap64 ((wrap64 ((wrap64 ((wrap64 ((wrap64 ((wrap64 ((wrap64 ((wrap64 ((wrap64 ((wrap64 (x1_1 + 1)) + 1)) + 1)) + 1)) + 1)) + 1)) + 1)) + 1)) + 1)) + 1))) = false := bne_eq_false_iff_eq.mpr c15
                                clear c15
                                by_cases c16 : ((rd_T36 l0 x5_1).f8) = (wrap64 ((wrap64 ((wrap64 ((wrap64 ((wrap64 ((wrap64 ((wrap64 ((wrap64 ((wrap64 ((wrap64 ((wrap64 (x1_1 + 1)) + 1)) + 1)) + 1)) + 1)) + 1)) + 1)) + 1)) + 1)) + 1)) + 1))
                                · rw [if_pos c16] at H
                                  have c16b0 : (((rd_T36 l0 x5_1).f8) == (wrap64 ((wrap64 ((wrap64 ((wrap64 ((wrap64 ((wrap64 ((wrap64 ((wrap64 ((wrap64 ((wrap64 ((wrap64 (x1_1 + 1)) + 1)) + 1)) + 1)) + 1)) + 1)) + 1)) + 1)) + 1)) + 1)) + 1))) = true := beq_iff_eq.mpr c16
                                  have c16b1 : (((rd_T36 l0 x5_1).f8) != (wrap64 ((wrap64 ((wrap64 ((wrap64 ((wrap64 ((wrap64 ((wrap64 ((wrap64 ((wrap64 ((wrap64 ((wrap64 (x1_1 + 1)) + 1)) + 1)) + 1)) + 1)) + 1)) + 1)) + 1)) + 1)) + 1)) + 1))) = false := bne_eq_false_iff_eq.mpr c16
                                  clear c16
                                  by_cases c17 : ((rd_T36 l0 x5_1).f9) = (wrap64 ((wrap64 ((wrap64 ((wrap64 ((wrap64 ((wrap64 ((wrap64 ((wrap64 ((wrap64 ((wrap64 ((wrap64 ((wrap64 (x1_1 + 1)) + 1)) + 1)) + 1)) + 1)) + 1)) + 1)) + 1)) + 1)) + 1)) + 1)) + 1))
                                  · rw [if_pos c17] at H
                                    have c17b0 : (((rd_T36 l0 x5_1).f9) == (wrap64 ((wrap64 ((wrap64 ((wrap64 ((wrap64 ((wrap64 ((wrap64 ((wrap64 ((wrap64 ((wrap64 ((wrap64 ((wrap64 (x1_1 + 1)) + 1)) + 1)) + 1)) + 1)) + 1)) + 1)) + 1)) + 1)) + 1)) + 1)) + 1))) = true := beq_iff_eq.mpr c17
                                    have c17b1 : (((rd_T36 l0 x5_1).f9) != (wrap64 ((wrap64 ((wrap64 ((wrap64 ((wrap64 ((wrap64 ((wrap64 ((wrap64 ((wrap64 ((wrap64 ((wrap64 ((wrap64 (x1_1 + 1)) + 1)) + 1)) + 1)) + 1)) + 1)) + 1)) + 1)) + 1)) + 1)) + 1)) + 1))) = false := bne_eq_false_iff_eq.mpr c17
                                    clear c17
                                    by_cases c18 : ((rd_T36 l0 x5_1).f10) = (wrap64 ((wrap64 ((wrap64 ((wrap64 ((wrap64 ((wrap64 ((wrap64 ((wrap64 ((wrap64 ((wrap64 ((wrap64 ((wrap64 ((wrap64 (x1_1 + 1)) + 1)) + 1)) + 1)) + 1)) + 1)) + 1)) + 1)) + 1)) + 1)) + 1)) + 1)) + 1))
                                    · rw [if_pos c18] at H
                                      have c18b0 : (((rd_T36 l0 x5_1).f10) == (wrap64 ((wrap64 ((wrap64 ((wrap64 ((wrap64 ((wrap64 ((wrap64 ((wrap64 ((wrap64 ((wrap64 ((wrap64 ((wrap64 ((wrap64 (x1_1 + 1)) + 1)) + 1)) + 1)) + 1)) + 1)) + 1)) + 1)) + 1)) + 1)) + 1)) + 1)) + 1))) = true := beq_iff_eq.mpr c18
                                      have c18b1 : (((rd_T36 l0 x5_1).f10) != (wrap64 ((wrap64 ((wrap64 ((wrap64 ((wrap64 ((wrap64 ((wrap64 ((wrap64 ((wrap64 ((wrap64 ((wrap64 ((wrap64 ((wrap64 (x1_1 + 1)) + 1)) + 1)) + 1)) + 1)) + 1)) + 1)) + 1)) + 1)) + 1)) + 1)) + 1)) + 1))) = false := bne_eq_false_iff_eq.mpr c18
                                      clear c18
                                      replace H := Option.bind_eq_some_iff.mp H
                                      obtain ⟨t253, A190, H⟩ := H
                                      replace H : (if t253 < 0 then (none) else ((laws_heldIntS.f k1 ((rd_T36 l0 x5_1).f12) t253).bind fun t255 => (if t255 < 0 then (none) else ((laws_heldEntryS.f k1 ((rd_T36 l0 x5_1).f13) t255).bind fun t257 => (if t257 < 0 then (none) else ((laws_heldEntryS.f k1 ((rd_T36 l0 x5_1).f14) t257).bind fun t259 => (if t259 < 0 then (none) else ((laws_heldIntS.f k1 ((rd_T36 l0 x5_1).f15) t259).bind fun t261 => (if t261 < 0 then (none) else (laws_heldThreadS.l0 k1 l0 t261 (wrap64 (x5_1 + 1)))))))))))) = some r := H
                                      have A19 := Aside0.mk A190
                                      clear A190
                                      by_cases c20 : t253 < 0
                                      · rw [if_pos c20] at H
                                        exact absurd H (by simp)
                                      · rw [if_neg c20] at H
                                        have c20b0 : decide (t253 < 0) = false := decide_eq_false c20
                                        clear c20
                                        replace H := Option.bind_eq_some_iff.mp H
                                        obtain ⟨t255, A210, H⟩ := H
                                        replace H : (if t255 < 0 then (none) else ((laws_heldEntryS.f k1 ((rd_T36 l0 x5_1).f13) t255).bind fun t257 => (if t257 < 0 then (none) else ((laws_heldEntryS.f k1 ((rd_T36 l0 x5_1).f14) t257).bind fun t259 => (if t259 < 0 then (none) else ((laws_heldIntS.f k1 ((rd_T36 l0 x5_1).f15) t259).bind fun t261 => (if t261 < 0 then (none) else (laws_heldThreadS.l0 k1 l0 t261 (wrap64 (x5_1 + 1)))))))))) = some r := H
                                        have A21 := Aside0.mk A210
                                        clear A210
                                        by_cases c22 : t255 < 0
                                        · rw [if_pos c22] at H
                                          exact absurd H (by simp)
                                        · rw [if_neg c22] at H
                                          have c22b0 : decide (t255 < 0) = false := decide_eq_false c22
                                          clear c22
                                          replace H := Option.bind_eq_some_iff.mp H
                                          obtain ⟨t257, A230, H⟩ := H
                                          replace H : (if t257 < 0 then (none) else ((laws_heldEntryS.f k1 ((rd_T36 l0 x5_1).f14) t257).bind fun t259 => (if t259 < 0 then (none) else ((laws_heldIntS.f k1 ((rd_T36 l0 x5_1).f15) t259).bind fun t261 => (if t261 < 0 then (none) else (laws_heldThreadS.l0 k1 l0 t261 (wrap64 (x5_1 + 1)))))))) = some r := H
                                          have A23 := Aside0.mk A230
                                          clear A230
                                          by_cases c24 : t257 < 0
                                          · rw [if_pos c24] at H
                                            exact absurd H (by simp)
                                          · rw [if_neg c24] at H
                                            have c24b0 : decide (t257 < 0) = false := decide_eq_false c24
                                            clear c24
                                            replace H := Option.bind_eq_some_iff.mp H
                                            obtain ⟨t259, A250, H⟩ := H
                                            replace H : (if t259 < 0 then (none) else ((laws_heldIntS.f k1 ((rd_T36 l0 x5_1).f15) t259).bind fun t261 => (if t261 < 0 then (none) else (laws_heldThreadS.l0 k1 l0 t261 (wrap64 (x5_1 + 1)))))) = some r := H
                                            have A25 := Aside0.mk A250
                                            clear A250
                                            by_cases c26 : t259 < 0
                                            · rw [if_pos c26] at H
                                              exact absurd H (by simp)
                                            · rw [if_neg c26] at H
                                              have c26b0 : decide (t259 < 0) = false := decide_eq_false c26
                                              clear c26
                                              replace H := Option.bind_eq_some_iff.mp H
                                              obtain ⟨t261, A270, H⟩ := H
                                              replace H : (if t261 < 0 then (none) else (laws_heldThreadS.l0 k1 l0 t261 (wrap64 (x5_1 + 1)))) = some r := H
                                              have A27 := Aside0.mk A270
                                              clear A270
                                              by_cases c28 : t261 < 0
                                              · rw [if_pos c28] at H
                                                exact absurd H (by simp)
                                              · rw [if_neg c28] at H
                                                have c28b0 : decide (t261 < 0) = false := decide_eq_false c28
                                                clear c28
                                                have H' := Aside0.mk H
                                                clear H
                                                have p238 : 0 ≤ (x5_1 : Int) := of_decide_eq_true (by first | (with_reducible assumption) | assumption)
                                                have q238 : x5_1 < (l0.length : Int) := of_decide_eq_true (by first | (with_reducible assumption) | assumption)
                                                obtain ⟨ad238, A238_14, c238_14, A238_15, c238_15, A238_16, c238_16, A238_17, c238_17, A238_18, c238_18, e238, hx238_0, hx238_1, hx238_2, hx238_3, hx238_4, hx238_5, hx238_6, hx238_7, hx238_8, hx238_9, hx238_10, hx238_11, hx238_12, hx238_13, hx238_14, hx238_15, hx238_16, hx238_17, hx238_18, hl238_14, hi238_14, hl238_15, hi238_15, hl238_16, hi238_16, hl238_17, hi238_17, hl238_18, hi238_18⟩ := at_T36 HR0.out x5_1 p238 q238
                                                cases e238
                                                have HR238_14 := Aside0.mk hi238_14
                                                have HC238_14 := Aside0.mk hl238_14
                                                clear hi238_14 hl238_14
                                                have HR238_15 := Aside0.mk hi238_15
                                                have HC238_15 := Aside0.mk hl238_15
                                                clear hi238_15 hl238_15
                                                have HR238_16 := Aside0.mk hi238_16
                                                have HC238_16 := Aside0.mk hl238_16
                                                clear hi238_16 hl238_16
                                                have HR238_17 := Aside0.mk hi238_17
                                                have HC238_17 := Aside0.mk hl238_17
                                                clear hi238_17 hl238_17
                                                have HR238_18 := Aside0.mk hi238_18
                                                have HC238_18 := Aside0.mk hl238_18
                                                clear hi238_18 hl238_18
                                                replace p238 := eq_true p238
                                                replace q238 := eq_true q238
                                                have p239 : 0 ≤ (x5_1 : Int) := of_decide_eq_true (by first | (with_reducible assumption) | assumption)
                                                have q239 : x5_1 < (l0.length : Int) := of_decide_eq_true (by first | (with_reducible assumption) | assumption)
                                                obtain ⟨ad239, A239_14, c239_14, A239_15, c239_15, A239_16, c239_16, A239_17, c239_17, A239_18, c239_18, e239, hx239_0, hx239_1, hx239_2, hx239_3, hx239_4, hx239_5, hx239_6, hx239_7, hx239_8, hx239_9, hx239_10, hx239_11, hx239_12, hx239_13, hx239_14, hx239_15, hx239_16, hx239_17, hx239_18, hl239_14, hi239_14, hl239_15, hi239_15, hl239_16, hi239_16, hl239_17, hi239_17, hl239_18, hi239_18⟩ := at_T36 HR0.out x5_1 p239 q239
                                                obtain rfl : ad238 = ad239 := (by injection e239)
                                                have HR239_14 := Aside0.mk hi239_14
                                                have HC239_14 := Aside0.mk hl239_14
                                                clear hi239_14 hl239_14
                                                have HR239_15 := Aside0.mk hi239_15
                                                have HC239_15 := Aside0.mk hl239_15
                                                clear hi239_15 hl239_15
                                                have HR239_16 := Aside0.mk hi239_16
                                                have HC239_16 := Aside0.mk hl239_16
                                                clear hi239_16 hl239_16
                                                have HR239_17 := Aside0.mk hi239_17
                                                have HC239_17 := Aside0.mk hl239_17
                                                clear hi239_17 hl239_17
                                                have HR239_18 := Aside0.mk hi239_18
                                                have HC239_18 := Aside0.mk hl239_18
                                                clear hi239_18 hl239_18
                                                replace p239 := eq_true p239
                                                replace q239 := eq_true q239
                                                have ea_ := Option.some.inj (hx238_14.symm.trans hx239_14)
                                                injection ea_ with ea_ en_ ec_
                                                subst ea_
                                                subst ec_
                                                clear en_
                                                have ea_ := Option.some.inj (hx238_15.symm.trans hx239_15)
                                                injection ea_ with ea_ en_ ec_
                                                subst ea_
                                                subst ec_
                                                clear en_
                                                have ea_ := Option.some.inj (hx238_16.symm.trans hx239_16)
                                                injection ea_ with ea_ en_ ec_
                                                subst ea_
                                                subst ec_
                                                clear en_
                                                have ea_ := Option.some.inj (hx238_17.symm.trans hx239_17)
                                                injection ea_ with ea_ en_ ec_
                                                subst ea_
                                                subst ec_
                                                clear en_
                                                have ea_ := Option.some.inj (hx238_18.symm.trans hx239_18)
                                                injection ea_ with ea_ en_ ec_
                                                subst ea_
                                                subst ec_
                                                clear en_
                                                have p240 : 0 ≤ (x5_1 : Int) := of_decide_eq_true (by first | (with_reducible assumption) | assumption)
                                                have q240 : x5_1 < (l0.length : Int) := of_decide_eq_true (by first | (with_reducible assumption) | assumption)
                                                obtain ⟨ad240, A240_14, c240_14, A240_15, c240_15, A240_16, c240_16, A240_17, c240_17, A240_18, c240_18, e240, hx240_0, hx240_1, hx240_2, hx240_3, hx240_4, hx240_5, hx240_6, hx240_7, hx240_8, hx240_9, hx240_10, hx240_11, hx240_12, hx240_13, hx240_14, hx240_15, hx240_16, hx240_17, hx240_18, hl240_14, hi240_14, hl240_15, hi240_15, hl240_16, hi240_16, hl240_17, hi240_17, hl240_18, hi240_18⟩ := at_T36 HR0.out x5_1 p240 q240
                                                obtain rfl : ad238 = ad240 := (by injection e240)
                                                have HR240_14 := Aside0.mk hi240_14
                                                have HC240_14 := Aside0.mk hl240_14
                                                clear hi240_14 hl240_14
                                                have HR240_15 := Aside0.mk hi240_15
                                                have HC240_15 := Aside0.mk hl240_15
                                                clear hi240_15 hl240_15
                                                have HR240_16 := Aside0.mk hi240_16
                                                have HC240_16 := Aside0.mk hl240_16
                                                clear hi240_16 hl240_16
                                                have HR240_17 := Aside0.mk hi240_17
                                                have HC240_17 := Aside0.mk hl240_17
                                                clear hi240_17 hl240_17
                                                have HR240_18 := Aside0.mk hi240_18
                                                have HC240_18 := Aside0.mk hl240_18
                                                clear hi240_18 hl240_18
                                                replace p240 := eq_true p240
                                                replace q240 := eq_true q240
                                                have ea_ := Option.some.inj (hx238_14.symm.trans hx240_14)
                                                injection ea_ with ea_ en_ ec_
                                                subst ea_
                                                subst ec_
                                                clear en_
                                                have ea_ := Option.some.inj (hx238_15.symm.trans hx240_15)
                                                injection ea_ with ea_ en_ ec_
                                                subst ea_
                                                subst ec_
                                                clear en_
                                                have ea_ := Option.some.inj (hx238_16.symm.trans hx240_16)
                                                injection ea_ with ea_ en_ ec_
                                                subst ea_
                                                subst ec_
                                                clear en_
                                                have ea_ := Option.some.inj (hx238_17.symm.trans hx240_17)
                                                injection ea_ with ea_ en_ ec_
                                                subst ea_
                                                subst ec_
                                                clear en_
                                                have ea_ := Option.some.inj (hx238_18.symm.trans hx240_18)
                                                injection ea_ with ea_ en_ ec_
                                                subst ea_
                                                subst ec_
                                                clear en_
                                                have p241 : 0 ≤ (x5_1 : Int) := of_decide_eq_true (by first | (with_reducible assumption) | assumption)
                                                have q241 : x5_1 < (l0.length : Int) := of_decide_eq_true (by first | (with_reducible assumption) | assumption)
                                                obtain ⟨ad241, A241_14, c241_14, A241_15, c241_15, A241_16, c241_16, A241_17, c241_17, A241_18, c241_18, e241, hx241_0, hx241_1, hx241_2, hx241_3, hx241_4, hx241_5, hx241_6, hx241_7, hx241_8, hx241_9, hx241_10, hx241_11, hx241_12, hx241_13, hx241_14, hx241_15, hx241_16, hx241_17, hx241_18, hl241_14, hi241_14, hl241_15, hi241_15, hl241_16, hi241_16, hl241_17, hi241_17, hl241_18, hi241_18⟩ := at_T36 HR0.out x5_1 p241 q241
                                                obtain rfl : ad238 = ad241 := (by injection e241)
                                                have HR241_14 := Aside0.mk hi241_14
                                                have HC241_14 := Aside0.mk hl241_14
                                                clear hi241_14 hl241_14
                                                have HR241_15 := Aside0.mk hi241_15
                                                have HC241_15 := Aside0.mk hl241_15
                                                clear hi241_15 hl241_15
                                                have HR241_16 := Aside0.mk hi241_16
                                                have HC241_16 := Aside0.mk hl241_16
                                                clear hi241_16 hl241_16
                                                have HR241_17 := Aside0.mk hi241_17
                                                have HC241_17 := Aside0.mk hl241_17
                                                clear hi241_17 hl241_17
                                                have HR241_18 := Aside0.mk hi241_18
                                                have HC241_18 := Aside0.mk hl241_18
                                                clear hi241_18 hl241_18
                                                replace p241 := eq_true p241
                                                replace q241 := eq_true q241
                                                have ea_ := Option.some.inj (hx238_14.symm.trans hx241_14)
                                                injection ea_ with ea_ en_ ec_
                                                subst ea_
                                                subst ec_
                                                clear en_
                                                have ea_ := Option.some.inj (hx238_15.symm.trans hx241_15)
                                                injection ea_ with ea_ en_ ec_
                                                subst ea_
                                                subst ec_
                                                clear en_
                                                have ea_ := Option.some.inj (hx238_16.symm.trans hx241_16)
                                                injection ea_ with ea_ en_ ec_
                                                subst ea_
                                                subst ec_
                                                clear en_
                                                have ea_ := Option.some.inj (hx238_17.symm.trans hx241_17)
                                                injection ea_ with ea_ en_ ec_
                                                subst ea_
                                                subst ec_
                                                clear en_
                                                have ea_ := Option.some.inj (hx238_18.symm.trans hx241_18)
                                                injection ea_ with ea_ en_ ec_
                                                subst ea_
                                                subst ec_
                                                clear en_
                                                have p242 : 0 ≤ (x5_1 : Int) := of_decide_eq_true (by first | (with_reducible assumption) | assumption)
                                                have q242 : x5_1 < (l0.length : Int) := of_decide_eq_true (by first | (with_reducible assumption) | assumption)
                                                obtain ⟨ad242, A242_14, c242_14, A242_15, c242_15, A242_16, c242_16, A242_17, c242_17, A242_18, c242_18, e242, hx242_0, hx242_1, hx242_2, hx242_3, hx242_4, hx242_5, hx242_6, hx242_7, hx242_8, hx242_9, hx242_10, hx242_11, hx242_12, hx242_13, hx242_14, hx242_15, hx242_16, hx242_17, hx242_18, hl242_14, hi242_14, hl242_15, hi242_15, hl242_16, hi242_16, hl242_17, hi242_17, hl242_18, hi242_18⟩ := at_T36 HR0.out x5_1 p242 q242
                                                obtain rfl : ad238 = ad242 := (by injection e242)
                                                have HR242_14 := Aside0.mk hi242_14
                                                have HC242_14 := Aside0.mk hl242_14
                                                clear hi242_14 hl242_14
                                                have HR242_15 := Aside0.mk hi242_15
                                                have HC242_15 := Aside0.mk hl242_15
                                                clear hi242_15 hl242_15
                                                have HR242_16 := Aside0.mk hi242_16
                                                have HC242_16 := Aside0.mk hl242_16
                                                clear hi242_16 hl242_16
                                                have HR242_17 := Aside0.mk hi242_17
                                                have HC242_17 := Aside0.mk hl242_17
                                                clear hi242_17 hl242_17
                                                have HR242_18 := Aside0.mk hi242_18
                                                have HC242_18 := Aside0.mk hl242_18
                                                clear hi242_18 hl242_18
                                                replace p242 := eq_true p242
                                                replace q242 := eq_true q242
                                                have ea_ := Option.some.inj (hx238_14.symm.trans hx242_14)
                                                injection ea_ with ea_ en_ ec_
                                                subst ea_
                                                subst ec_
                                                clear en_
                                                have ea_ := Option.some.inj (hx238_15.symm.trans hx242_15)
                                                injection ea_ with ea_ en_ ec_
                                                subst ea_
                                                subst ec_
                                                clear en_
                                                have ea_ := Option.some.inj (hx238_16.symm.trans hx242_16)
                                                injection ea_ with ea_ en_ ec_
                                                subst ea_
                                                subst ec_
                                                clear en_
                                                have ea_ := Option.some.inj (hx238_17.symm.trans hx242_17)
                                                injection ea_ with ea_ en_ ec_
                                                subst ea_
                                                subst ec_
                                                clear en_
                                                have ea_ := Option.some.inj (hx238_18.symm.trans hx242_18)
                                                injection ea_ with ea_ en_ ec_
                                                subst ea_
                                                subst ec_
                                                clear en_
                                                have p243 : 0 ≤ (x5_1 : Int) := of_decide_eq_true (by first | (with_reducible assumption) | assumption)
                                                have q243 : x5_1 < (l0.length : Int) := of_decide_eq_true (by first | (with_reducible assumption) | assumption)
                                                obtain ⟨ad243, A243_14, c243_14, A243_15, c243_15, A243_16, c243_16, A243_17, c243_17, A243_18, c243_18, e243, hx243_0, hx243_1, hx243_2, hx243_3, hx243_4, hx243_5, hx243_6, hx243_7, hx243_8, hx243_9, hx243_10, hx243_11, hx243_12, hx243_13, hx243_14, hx243_15, hx243_16, hx243_17, hx243_18, hl243_14, hi243_14, hl243_15, hi243_15, hl243_16, hi243_16, hl243_17, hi243_17, hl243_18, hi243_18⟩ := at_T36 HR0.out x5_1 p243 q243
                                                obtain rfl : ad238 = ad243 := (by injection e243)
                                                have HR243_14 := Aside0.mk hi243_14
                                                have HC243_14 := Aside0.mk hl243_14
                                                clear hi243_14 hl243_14
                                                have HR243_15 := Aside0.mk hi243_15
                                                have HC243_15 := Aside0.mk hl243_15
                                                clear hi243_15 hl243_15
                                                have HR243_16 := Aside0.mk hi243_16
                                                have HC243_16 := Aside0.mk hl243_16
                                                clear hi243_16 hl243_16
                                                have HR243_17 := Aside0.mk hi243_17
                                                have HC243_17 := Aside0.mk hl243_17
                                                clear hi243_17 hl243_17
                                                have HR243_18 := Aside0.mk hi243_18
                                                have HC243_18 := Aside0.mk hl243_18
                                                clear hi243_18 hl243_18
                                                replace p243 := eq_true p243
                                                replace q243 := eq_true q243
                                                have ea_ := Option.some.inj (hx238_14.symm.trans hx243_14)
                                                injection ea_ with ea_ en_ ec_
                                                subst ea_
                                                subst ec_
                                                clear en_
                                                have ea_ := Option.some.inj (hx238_15.symm.trans hx243_15)
                                                injection ea_ with ea_ en_ ec_
                                                subst ea_
                                                subst ec_
                                                clear en_
                                                have ea_ := Option.some.inj (hx238_16.symm.trans hx243_16)
                                                injection ea_ with ea_ en_ ec_
                                                subst ea_
                                                subst ec_
                                                clear en_
                                                have ea_ := Option.some.inj (hx238_17.symm.trans hx243_17)
                                                injection ea_ with ea_ en_ ec_
                                                subst ea_
                                                subst ec_
                                                clear en_
                                                have ea_ := Option.some.inj (hx238_18.symm.trans hx243_18)
                                                injection ea_ with ea_ en_ ec_
                                                subst ea_
                                                subst ec_
                                                clear en_
                                                have p244 : 0 ≤ (x5_1 : Int) := of_decide_eq_true (by first | (with_reducible assumption) | assumption)
                                                have q244 : x5_1 < (l0.length : Int) := of_decide_eq_true (by first | (with_reducible assumption) | assumption)
                                                obtain ⟨ad244, A244_14, c244_14, A244_15, c244_15, A244_16, c244_16, A244_17, c244_17, A244_18, c244_18, e244, hx244_0, hx244_1, hx244_2, hx244_3, hx244_4, hx244_5, hx244_6, hx244_7, hx244_8, hx244_9, hx244_10, hx244_11, hx244_12, hx244_13, hx244_14, hx244_15, hx244_16, hx244_17, hx244_18, hl244_14, hi244_14, hl244_15, hi244_15, hl244_16, hi244_16, hl244_17, hi244_17, hl244_18, hi244_18⟩ := at_T36 HR0.out x5_1 p244 q244
                                                obtain rfl : ad238 = ad244 := (by injection e244)
                                                have HR244_14 := Aside0.mk hi244_14
                                                have HC244_14 := Aside0.mk hl244_14
                                                clear hi244_14 hl244_14
                                                have HR244_15 := Aside0.mk hi244_15
                                                have HC244_15 := Aside0.mk hl244_15
                                                clear hi244_15 hl244_15
                                                have HR244_16 := Aside0.mk hi244_16
                                                have HC244_16 := Aside0.mk hl244_16
                                                clear hi244_16 hl244_16
                                                have HR244_17 := Aside0.mk hi244_17
                                                have HC244_17 := Aside0.mk hl244_17
                                                clear hi244_17 hl244_17
                                                have HR244_18 := Aside0.mk hi244_18
                                                have HC244_18 := Aside0.mk hl244_18
                                                clear hi244_18 hl244_18
                                                replace p244 := eq_true p244
                                                replace q244 := eq_true q244
                                                have ea_ := Option.some.inj (hx238_14.symm.trans hx244_14)
                                                injection ea_ with ea_ en_ ec_
                                                subst ea_
                                                subst ec_
                                                clear en_
                                                have ea_ := Option.some.inj (hx238_15.symm.trans hx244_15)
                                                injection ea_ with ea_ en_ ec_
                                                subst ea_
                                                subst ec_
                                                clear en_
                                                have ea_ := Option.some.inj (hx238_16.symm.trans hx244_16)
                                                injection ea_ with ea_ en_ ec_
                                                subst ea_
                                                subst ec_
                                                clear en_
                                                have ea_ := Option.some.inj (hx238_17.symm.trans hx244_17)
                                                injection ea_ with ea_ en_ ec_
                                                subst ea_
                                                subst ec_
                                                clear en_
                                                have ea_ := Option.some.inj (hx238_18.symm.trans hx244_18)
                                                injection ea_ with ea_ en_ ec_
                                                subst ea_
                                                subst ec_
                                                clear en_
                                                have p245 : 0 ≤ (x5_1 : Int) := of_decide_eq_true (by first | (with_reducible assumption) | assumption)
                                                have q245 : x5_1 < (l0.length : Int) := of_decide_eq_true (by first | (with_reducible assumption) | assumption)
                                                obtain ⟨ad245, A245_14, c245_14, A245_15, c245_15, A245_16, c245_16, A245_17, c245_17, A245_18, c245_18, e245, hx245_0, hx245_1, hx245_2, hx245_3, hx245_4, hx245_5, hx245_6, hx245_7, hx245_8, hx245_9, hx245_10, hx245_11, hx245_12, hx245_13, hx245_14, hx245_15, hx245_16, hx245_17, hx245_18, hl245_14, hi245_14, hl245_15, hi245_15, hl245_16, hi245_16, hl245_17, hi245_17, hl245_18, hi245_18⟩ := at_T36 HR0.out x5_1 p245 q245
                                                obtain rfl : ad238 = ad245 := (by injection e245)
                                                have HR245_14 := Aside0.mk hi245_14
                                                have HC245_14 := Aside0.mk hl245_14
                                                clear hi245_14 hl245_14
                                                have HR245_15 := Aside0.mk hi245_15
                                                have HC245_15 := Aside0.mk hl245_15
                                                clear hi245_15 hl245_15
                                                have HR245_16 := Aside0.mk hi245_16
                                                have HC245_16 := Aside0.mk hl245_16
                                                clear hi245_16 hl245_16
                                                have HR245_17 := Aside0.mk hi245_17
                                                have HC245_17 := Aside0.mk hl245_17
                                                clear hi245_17 hl245_17
                                                have HR245_18 := Aside0.mk hi245_18
                                                have HC245_18 := Aside0.mk hl245_18
                                                clear hi245_18 hl245_18
                                                replace p245 := eq_true p245
                                                replace q245 := eq_true q245
                                                have ea_ := Option.some.inj (hx238_14.symm.trans hx245_14)
                                                injection ea_ with ea_ en_ ec_
                                                subst ea_
                                                subst ec_
                                                clear en_
                                                have ea_ := Option.some.inj (hx238_15.symm.trans hx245_15)
                                                injection ea_ with ea_ en_ ec_
                                                subst ea_
                                                subst ec_
                                                clear en_
                                                have ea_ := Option.some.inj (hx238_16.symm.trans hx245_16)
                                                injection ea_ with ea_ en_ ec_
                                                subst ea_
                                                subst ec_
                                                clear en_
                                                have ea_ := Option.some.inj (hx238_17.symm.trans hx245_17)
                                                injection ea_ with ea_ en_ ec_
                                                subst ea_
                                                subst ec_
                                                clear en_
                                                have ea_ := Option.some.inj (hx238_18.symm.trans hx245_18)
                                                injection ea_ with ea_ en_ ec_
                                                subst ea_
                                                subst ec_
                                                clear en_
                                                have p246 : 0 ≤ (x5_1 : Int) := of_decide_eq_true (by first | (with_reducible assumption) | assumption)
                                                have q246 : x5_1 < (l0.length : Int) := of_decide_eq_true (by first | (with_reducible assumption) | assumption)
                                                obtain ⟨ad246, A246_14, c246_14, A246_15, c246_15, A246_16, c246_16, A246_17, c246_17, A246_18, c246_18, e246, hx246_0, hx246_1, hx246_2, hx246_3, hx246_4, hx246_5, hx246_6, hx246_7, hx246_8, hx246_9, hx246_10, hx246_11, hx246_12, hx246_13, hx246_14, hx246_15, hx246_16, hx246_17, hx246_18, hl246_14, hi246_14, hl246_15, hi246_15, hl246_16, hi246_16, hl246_17, hi246_17, hl246_18, hi246_18⟩ := at_T36 HR0.out x5_1 p246 q246
                                                obtain rfl : ad238 = ad246 := (by injection e246)
                                                have HR246_14 := Aside0.mk hi246_14
                                                have HC246_14 := Aside0.mk hl246_14
                                                clear hi246_14 hl246_14
                                                have HR246_15 := Aside0.mk hi246_15
                                                have HC246_15 := Aside0.mk hl246_15
                                                clear hi246_15 hl246_15
                                                have HR246_16 := Aside0.mk hi246_16
                                                have HC246_16 := Aside0.mk hl246_16
                                                clear hi246_16 hl246_16
                                                have HR246_17 := Aside0.mk hi246_17
                                                have HC246_17 := Aside0.mk hl246_17
                                                clear hi246_17 hl246_17
                                                have HR246_18 := Aside0.mk hi246_18
                                                have HC246_18 := Aside0.mk hl246_18
                                                clear hi246_18 hl246_18
                                                replace p246 := eq_true p246
                                                replace q246 := eq_true q246
                                                have ea_ := Option.some.inj (hx238_14.symm.trans hx246_14)
                                                injection ea_ with ea_ en_ ec_
                                                subst ea_
                                                subst ec_
                                                clear en_
                                                have ea_ := Option.some.inj (hx238_15.symm.trans hx246_15)
                                                injection ea_ with ea_ en_ ec_
                                                subst ea_
                                                subst ec_
                                                clear en_
                                                have ea_ := Option.some.inj (hx238_16.symm.trans hx246_16)
                                                injection ea_ with ea_ en_ ec_
                                                subst ea_
                                                subst ec_
                                                clear en_
                                                have ea_ := Option.some.inj (hx238_17.symm.trans hx246_17)
                                                injection ea_ with ea_ en_ ec_
                                                subst ea_
                                                subst ec_
                                                clear en_
                                                have ea_ := Option.some.inj (hx238_18.symm.trans hx246_18)
                                                injection ea_ with ea_ en_ ec_
                                                subst ea_
                                                subst ec_
                                                clear en_
                                                have p247 : 0 ≤ (x5_1 : Int) := of_decide_eq_true (by first | (with_reducible assumption) | assumption)
                                                have q247 : x5_1 < (l0.length : Int) := of_decide_eq_true (by first | (with_reducible assumption) | assumption)
                                                obtain ⟨ad247, A247_14, c247_14, A247_15, c247_15, A247_16, c247_16, A247_17, c247_17, A247_18, c247_18, e247, hx247_0, hx247_1, hx247_2, hx247_3, hx247_4, hx247_5, hx247_6, hx247_7, hx247_8, hx247_9, hx247_10, hx247_11, hx247_12, hx247_13, hx247_14, hx247_15, hx247_16, hx247_17, hx247_18, hl247_14, hi247_14, hl247_15, hi247_15, hl247_16, hi247_16, hl247_17, hi247_17, hl247_18, hi247_18⟩ := at_T36 HR0.out x5_1 p247 q247
                                                obtain rfl : ad238 = ad247 := (by injection e247)
                                                have HR247_14 := Aside0.mk hi247_14
                                                have HC247_14 := Aside0.mk hl247_14
                                                clear hi247_14 hl247_14
                                                have HR247_15 := Aside0.mk hi247_15
                                                have HC247_15 := Aside0.mk hl247_15
                                                clear hi247_15 hl247_15
                                                have HR247_16 := Aside0.mk hi247_16
                                                have HC247_16 := Aside0.mk hl247_16
                                                clear hi247_16 hl247_16
                                                have HR247_17 := Aside0.mk hi247_17
                                                have HC247_17 := Aside0.mk hl247_17
                                                clear hi247_17 hl247_17
                                                have HR247_18 := Aside0.mk hi247_18
                                                have HC247_18 := Aside0.mk hl247_18
                                                clear hi247_18 hl247_18
                                                replace p247 := eq_true p247
                                                replace q247 := eq_true q247
                                                have ea_ := Option.some.inj (hx238_14.symm.trans hx247_14)
                                                injection ea_ with ea_ en_ ec_
                                                subst ea_
                                                subst ec_
                                                clear en_
                                                have ea_ := Option.some.inj (hx238_15.symm.trans hx247_15)
                                                injection ea_ with ea_ en_ ec_
                                                subst ea_
                                                subst ec_
                                                clear en_
                                                have ea_ := Option.some.inj (hx238_16.symm.trans hx247_16)
                                                injection ea_ with ea_ en_ ec_
                                                subst ea_
                                                subst ec_
                                                clear en_
                                                have ea_ := Option.some.inj (hx238_17.symm.trans hx247_17)
                                                injection ea_ with ea_ en_ ec_
                                                subst ea_
                                                subst ec_
                                                clear en_
                                                have ea_ := Option.some.inj (hx238_18.symm.trans hx247_18)
                                                injection ea_ with ea_ en_ ec_
                                                subst ea_
                                                subst ec_
                                                clear en_
                                                have p248 : 0 ≤ (x5_1 : Int) := of_decide_eq_true (by first | (with_reducible assumption) | assumption)
                                                have q248 : x5_1 < (l0.length : Int) := of_decide_eq_true (by first | (with_reducible assumption) | assumption)
                                                obtain ⟨ad248, A248_14, c248_14, A248_15, c248_15, A248_16, c248_16, A248_17, c248_17, A248_18, c248_18, e248, hx248_0, hx248_1, hx248_2, hx248_3, hx248_4, hx248_5, hx248_6, hx248_7, hx248_8, hx248_9, hx248_10, hx248_11, hx248_12, hx248_13, hx248_14, hx248_15, hx248_16, hx248_17, hx248_18, hl248_14, hi248_14, hl248_15, hi248_15, hl248_16, hi248_16, hl248_17, hi248_17, hl248_18, hi248_18⟩ := at_T36 HR0.out x5_1 p248 q248
                                                obtain rfl : ad238 = ad248 := (by injection e248)
                                                have HR248_14 := Aside0.mk hi248_14
                                                have HC248_14 := Aside0.mk hl248_14
                                                clear hi248_14 hl248_14
                                                have HR248_15 := Aside0.mk hi248_15
                                                have HC248_15 := Aside0.mk hl248_15
                                                clear hi248_15 hl248_15
                                                have HR248_16 := Aside0.mk hi248_16
                                                have HC248_16 := Aside0.mk hl248_16
                                                clear hi248_16 hl248_16
                                                have HR248_17 := Aside0.mk hi248_17
                                                have HC248_17 := Aside0.mk hl248_17
                                                clear hi248_17 hl248_17
                                                have HR248_18 := Aside0.mk hi248_18
                                                have HC248_18 := Aside0.mk hl248_18
                                                clear hi248_18 hl248_18
                                                replace p248 := eq_true p248
                                                replace q248 := eq_true q248
                                                have ea_ := Option.some.inj (hx238_14.symm.trans hx248_14)
                                                injection ea_ with ea_ en_ ec_
                                                subst ea_
                                                subst ec_
                                                clear en_
                                                have ea_ := Option.some.inj (hx238_15.symm.trans hx248_15)
                                                injection ea_ with ea_ en_ ec_
                                                subst ea_
                                                subst ec_
                                                clear en_
                                                have ea_ := Option.some.inj (hx238_16.symm.trans hx248_16)
                                                injection ea_ with ea_ en_ ec_
                                                subst ea_
                                                subst ec_
                                                clear en_
                                                have ea_ := Option.some.inj (hx238_17.symm.trans hx248_17)
                                                injection ea_ with ea_ en_ ec_
                                                subst ea_
                                                subst ec_
                                                clear en_
                                                have ea_ := Option.some.inj (hx238_18.symm.trans hx248_18)
                                                injection ea_ with ea_ en_ ec_
                                                subst ea_
                                                subst ec_
                                                clear en_
                                                have p249 : 0 ≤ (x5_1 : Int) := of_decide_eq_true (by first | (with_reducible assumption) | assumption)
                                                have q249 : x5_1 < (l0.length : Int) := of_decide_eq_true (by first | (with_reducible assumption) | assumption)
                                                obtain ⟨ad249, A249_14, c249_14, A249_15, c249_15, A249_16, c249_16, A249_17, c249_17, A249_18, c249_18, e249, hx249_0, hx249_1, hx249_2, hx249_3, hx249_4, hx249_5, hx249_6, hx249_7, hx249_8, hx249_9, hx249_10, hx249_11, hx249_12, hx249_13, hx249_14, hx249_15, hx249_16, hx249_17, hx249_18, hl249_14, hi249_14, hl249_15, hi249_15, hl249_16, hi249_16, hl249_17, hi249_17, hl249_18, hi249_18⟩ := at_T36 HR0.out x5_1 p249 q249
                                                obtain rfl : ad238 = ad249 := (by injection e249)
                                                have HR249_14 := Aside0.mk hi249_14
                                                have HC249_14 := Aside0.mk hl249_14
                                                clear hi249_14 hl249_14
                                                have HR249_15 := Aside0.mk hi249_15
                                                have HC249_15 := Aside0.mk hl249_15
                                                clear hi249_15 hl249_15
                                                have HR249_16 := Aside0.mk hi249_16
                                                have HC249_16 := Aside0.mk hl249_16
                                                clear hi249_16 hl249_16
                                                have HR249_17 := Aside0.mk hi249_17
                                                have HC249_17 := Aside0.mk hl249_17
                                                clear hi249_17 hl249_17
                                                have HR249_18 := Aside0.mk hi249_18
                                                have HC249_18 := Aside0.mk hl249_18
                                                clear hi249_18 hl249_18
                                                replace p249 := eq_true p249
                                                replace q249 := eq_true q249
                                                have ea_ := Option.some.inj (hx238_14.symm.trans hx249_14)
                                                injection ea_ with ea_ en_ ec_
                                                subst ea_
                                                subst ec_
                                                clear en_
                                                have ea_ := Option.some.inj (hx238_15.symm.trans hx249_15)
                                                injection ea_ with ea_ en_ ec_
                                                subst ea_
                                                subst ec_
                                                clear en_
                                                have ea_ := Option.some.inj (hx238_16.symm.trans hx249_16)
                                                injection ea_ with ea_ en_ ec_
                                                subst ea_
                                                subst ec_
                                                clear en_
                                                have ea_ := Option.some.inj (hx238_17.symm.trans hx249_17)
                                                injection ea_ with ea_ en_ ec_
                                                subst ea_
                                                subst ec_
                                                clear en_
                                                have ea_ := Option.some.inj (hx238_18.symm.trans hx249_18)
                                                injection ea_ with ea_ en_ ec_
                                                subst ea_
                                                subst ec_
                                                clear en_
                                                have p250 : 0 ≤ (x5_1 : Int) := of_decide_eq_true (by first | (with_reducible assumption) | assumption)
                                                have q250 : x5_1 < (l0.length : Int) := of_decide_eq_true (by first | (with_reducible assumption) | assumption)
                                                obtain ⟨ad250, A250_14, c250_14, A250_15, c250_15, A250_16, c250_16, A250_17, c250_17, A250_18, c250_18, e250, hx250_0, hx250_1, hx250_2, hx250_3, hx250_4, hx250_5, hx250_6, hx250_7, hx250_8, hx250_9, hx250_10, hx250_11, hx250_12, hx250_13, hx250_14, hx250_15, hx250_16, hx250_17, hx250_18, hl250_14, hi250_14, hl250_15, hi250_15, hl250_16, hi250_16, hl250_17, hi250_17, hl250_18, hi250_18⟩ := at_T36 HR0.out x5_1 p250 q250
                                                obtain rfl : ad238 = ad250 := (by injection e250)
                                                have HR250_14 := Aside0.mk hi250_14
                                                have HC250_14 := Aside0.mk hl250_14
                                                clear hi250_14 hl250_14
                                                have HR250_15 := Aside0.mk hi250_15
                                                have HC250_15 := Aside0.mk hl250_15
                                                clear hi250_15 hl250_15
                                                have HR250_16 := Aside0.mk hi250_16
                                                have HC250_16 := Aside0.mk hl250_16
                                                clear hi250_16 hl250_16
                                                have HR250_17 := Aside0.mk hi250_17
                                                have HC250_17 := Aside0.mk hl250_17
                                                clear hi250_17 hl250_17
                                                have HR250_18 := Aside0.mk hi250_18
                                                have HC250_18 := Aside0.mk hl250_18
                                                clear hi250_18 hl250_18
                                                replace p250 := eq_true p250
                                                replace q250 := eq_true q250
                                                have ea_ := Option.some.inj (hx238_14.symm.trans hx250_14)
                                                injection ea_ with ea_ en_ ec_
                                                subst ea_
                                                subst ec_
                                                clear en_
                                                have ea_ := Option.some.inj (hx238_15.symm.trans hx250_15)
                                                injection ea_ with ea_ en_ ec_
                                                subst ea_
                                                subst ec_
                                                clear en_
                                                have ea_ := Option.some.inj (hx238_16.symm.trans hx250_16)
                                                injection ea_ with ea_ en_ ec_
                                                subst ea_
                                                subst ec_
                                                clear en_
                                                have ea_ := Option.some.inj (hx238_17.symm.trans hx250_17)
                                                injection ea_ with ea_ en_ ec_
                                                subst ea_
                                                subst ec_
                                                clear en_
                                                have ea_ := Option.some.inj (hx238_18.symm.trans hx250_18)
                                                injection ea_ with ea_ en_ ec_
                                                subst ea_
                                                subst ec_
                                                clear en_
                                                have p251 : 0 ≤ (x5_1 : Int) := of_decide_eq_true (by first | (with_reducible assumption) | assumption)
                                                have q251 : x5_1 < (l0.length : Int) := of_decide_eq_true (by first | (with_reducible assumption) | assumption)
                                                obtain ⟨ad251, A251_14, c251_14, A251_15, c251_15, A251_16, c251_16, A251_17, c251_17, A251_18, c251_18, e251, hx251_0, hx251_1, hx251_2, hx251_3, hx251_4, hx251_5, hx251_6, hx251_7, hx251_8, hx251_9, hx251_10, hx251_11, hx251_12, hx251_13, hx251_14, hx251_15, hx251_16, hx251_17, hx251_18, hl251_14, hi251_14, hl251_15, hi251_15, hl251_16, hi251_16, hl251_17, hi251_17, hl251_18, hi251_18⟩ := at_T36 HR0.out x5_1 p251 q251
                                                obtain rfl : ad238 = ad251 := (by injection e251)
                                                have HR251_14 := Aside0.mk hi251_14
                                                have HC251_14 := Aside0.mk hl251_14
                                                clear hi251_14 hl251_14
                                                have HR251_15 := Aside0.mk hi251_15
                                                have HC251_15 := Aside0.mk hl251_15
                                                clear hi251_15 hl251_15
                                                have HR251_16 := Aside0.mk hi251_16
                                                have HC251_16 := Aside0.mk hl251_16
                                                clear hi251_16 hl251_16
                                                have HR251_17 := Aside0.mk hi251_17
                                                have HC251_17 := Aside0.mk hl251_17
                                                clear hi251_17 hl251_17
                                                have HR251_18 := Aside0.mk hi251_18
                                                have HC251_18 := Aside0.mk hl251_18
                                                clear hi251_18 hl251_18
                                                replace p251 := eq_true p251
                                                replace q251 := eq_true q251
                                                have ea_ := Option.some.inj (hx238_14.symm.trans hx251_14)
                                                injection ea_ with ea_ en_ ec_
                                                subst ea_
                                                subst ec_
                                                clear en_
                                                have ea_ := Option.some.inj (hx238_15.symm.trans hx251_15)
                                                injection ea_ with ea_ en_ ec_
                                                subst ea_
                                                subst ec_
                                                clear en_
                                                have ea_ := Option.some.inj (hx238_16.symm.trans hx251_16)
                                                injection ea_ with ea_ en_ ec_
                                                subst ea_
                                                subst ec_
                                                clear en_
                                                have ea_ := Option.some.inj (hx238_17.symm.trans hx251_17)
                                                injection ea_ with ea_ en_ ec_
                                                subst ea_
                                                subst ec_
                                                clear en_
                                                have ea_ := Option.some.inj (hx238_18.symm.trans hx251_18)
                                                injection ea_ with ea_ en_ ec_
                                                subst ea_
                                                subst ec_
                                                clear en_
                                                have p252 : 0 ≤ (x5_1 : Int) := of_decide_eq_true (by first | (with_reducible assumption) | assumption)
                                                have q252 : x5_1 < (l0.length : Int) := of_decide_eq_true (by first | (with_reducible assumption) | assumption)
                                                obtain ⟨ad252, A252_14, c252_14, A252_15, c252_15, A252_16, c252_16, A252_17, c252_17, A252_18, c252_18, e252, hx252_0, hx252_1, hx252_2, hx252_3, hx252_4, hx252_5, hx252_6, hx252_7, hx252_8, hx252_9, hx252_10, hx252_11, hx252_12, hx252_13, hx252_14, hx252_15, hx252_16, hx252_17, hx252_18, hl252_14, hi252_14, hl252_15, hi252_15, hl252_16, hi252_16, hl252_17, hi252_17, hl252_18, hi252_18⟩ := at_T36 HR0.out x5_1 p252 q252
                                                obtain rfl : ad238 = ad252 := (by injection e252)
                                                have HR252_14 := Aside0.mk hi252_14
                                                have HC252_14 := Aside0.mk hl252_14
                                                clear hi252_14 hl252_14
                                                have HR252_15 := Aside0.mk hi252_15
                                                have HC252_15 := Aside0.mk hl252_15
                                                clear hi252_15 hl252_15
                                                have HR252_16 := Aside0.mk hi252_16
                                                have HC252_16 := Aside0.mk hl252_16
                                                clear hi252_16 hl252_16
                                                have HR252_17 := Aside0.mk hi252_17
                                                have HC252_17 := Aside0.mk hl252_17
                                                clear hi252_17 hl252_17
                                                have HR252_18 := Aside0.mk hi252_18
                                                have HC252_18 := Aside0.mk hl252_18
                                                clear hi252_18 hl252_18
                                                replace p252 := eq_true p252
                                                replace q252 := eq_true q252
                                                have ea_ := Option.some.inj (hx238_14.symm.trans hx252_14)
                                                injection ea_ with ea_ en_ ec_
                                                subst ea_
                                                subst ec_
                                                clear en_
                                                have ea_ := Option.some.inj (hx238_15.symm.trans hx252_15)
                                                injection ea_ with ea_ en_ ec_
                                                subst ea_
                                                subst ec_
                                                clear en_
                                                have ea_ := Option.some.inj (hx238_16.symm.trans hx252_16)
                                                injection ea_ with ea_ en_ ec_
                                                subst ea_
                                                subst ec_
                                                clear en_
                                                have ea_ := Option.some.inj (hx238_17.symm.trans hx252_17)
                                                injection ea_ with ea_ en_ ec_
                                                subst ea_
                                                subst ec_
                                                clear en_
                                                have ea_ := Option.some.inj (hx238_18.symm.trans hx252_18)
                                                injection ea_ with ea_ en_ ec_
                                                subst ea_
                                                subst ec_
                                                clear en_
                                                go_wp2_with (first | ((with_reducible refine gate_callee (f := 46) rfl ?_); refine goesL_ (some 149) rfl rfl Try.func46 (by kernel_rfl) rfl #[.slice A238_14 ((rd_T36 l0 x5_1).f11).length c238_14, .int .i64 (wrap64 ((wrap64 ((wrap64 ((wrap64 ((wrap64 ((wrap64 ((wrap64 ((wrap64 ((wrap64 ((wrap64 ((wrap64 ((wrap64 ((wrap64 ((wrap64 (x1_1 + 1)) + 1)) + 1)) + 1)) + 1)) + 1)) + 1)) + 1)) + 1)) + 1)) + 1)) + 1)) + 1)) + 1))] rfl (by (try simp only [List.map_toArray, List.map_cons, List.map_nil]); first | done | rfl | (simp only [List.length_drop, List.length_take]; rfl)) ?_; (with_reducible refine (laws_heldIntS.calls k1 _ _ ((rd_T36 l0 x5_1).f11) (wrap64 ((wrap64 ((wrap64 ((wrap64 ((wrap64 ((wrap64 ((wrap64 ((wrap64 ((wrap64 ((wrap64 ((wrap64 ((wrap64 ((wrap64 ((wrap64 (x1_1 + 1)) + 1)) + 1)) + 1)) + 1)) + 1)) + 1)) + 1)) + 1)) + 1)) + 1)) + 1)) + 1)) + 1)) t253 _ ?side1 ?side2 A19.out).mono ?_); (case side1 => repeat (first | exact HR252_14.out | (with_reducible refine Kd.C_alloc ?_ _) | (with_reducible refine Kd.C_drewN ?_ _) | (with_reducible refine Kd.C_drew ?_))); (case side2 => exact HC252_14.out); rintro e w' ⟨rfl, ⟨nd, rfl⟩⟩; refine ⟨_, rfl, ?_⟩; have p254 : 0 ≤ (x5_1 : Int) := of_decide_eq_true (by first | (with_reducible assumption) | assumption); have q254 : x5_1 < (l0.length : Int) := of_decide_eq_true (by first | (with_reducible assumption) | assumption); obtain ⟨ad254, A254_14, c254_14, A254_15, c254_15, A254_16, c254_16, A254_17, c254_17, A254_18, c254_18, e254, hx254_0, hx254_1, hx254_2, hx254_3, hx254_4, hx254_5, hx254_6, hx254_7, hx254_8, hx254_9, hx254_10, hx254_11, hx254_12, hx254_13, hx254_14, hx254_15, hx254_16, hx254_17, hx254_18, hl254_14, hi254_14, hl254_15, hi254_15, hl254_16, hi254_16, hl254_17, hi254_17, hl254_18, hi254_18⟩ := at_T36 HR0.out x5_1 p254 q254; obtain rfl : ad238 = ad254 := (by injection e254); have HR254_14 := Aside0.mk hi254_14; have HC254_14 := Aside0.mk hl254_14; clear hi254_14 hl254_14; have HR254_15 := Aside0.mk hi254_15; have HC254_15 := Aside0.mk hl254_15; clear hi254_15 hl254_15; have HR254_16 := Aside0.mk hi254_16; have HC254_16 := Aside0.mk hl254_16; clear hi254_16 hl254_16; have HR254_17 := Aside0.mk hi254_17; have HC254_17 := Aside0.mk hl254_17; clear hi254_17 hl254_17; have HR254_18 := Aside0.mk hi254_18; have HC254_18 := Aside0.mk hl254_18; clear hi254_18 hl254_18; replace p254 := eq_true p254; replace q254 := eq_true q254; have ea_ := Option.some.inj (hx238_14.symm.trans hx254_14); injection ea_ with ea_ en_ ec_; subst ea_; subst ec_; clear en_; have ea_ := Option.some.inj (hx238_15.symm.trans hx254_15); injection ea_ with ea_ en_ ec_; subst ea_; subst ec_; clear en_; have ea_ := Option.some.inj (hx238_16.symm.trans hx254_16); injection ea_ with ea_ en_ ec_; subst ea_; subst ec_; clear en_; have ea_ := Option.some.inj (hx238_17.symm.trans hx254_17); injection ea_ with ea_ en_ ec_; subst ea_; subst ec_; clear en_; have ea_ := Option.some.inj (hx238_18.symm.trans hx254_18); injection ea_ with ea_ en_ ec_; subst ea_; subst ec_; clear en_) | ((with_reducible refine gate_callee (f := 46) rfl ?_); refine goesL_ (some 158) rfl rfl Try.func46 (by kernel_rfl) rfl #[.slice A238_15 ((rd_T36 l0 x5_1).f12).length c238_15, .int .i64 t253] rfl (by (try simp only [List.map_toArray, List.map_cons, List.map_nil]); first | done | rfl | (simp only [List.length_drop, List.length_take]; rfl)) ?_; (with_reducible refine (laws_heldIntS.calls k1 _ _ ((rd_T36 l0 x5_1).f12) t253 t255 _ ?side1 ?side2 A21.out).mono ?_); (case side1 => repeat (first | exact HR254_15.out | (with_reducible refine Kd.C_alloc ?_ _) | (with_reducible refine Kd.C_drewN ?_ _) | (with_reducible refine Kd.C_drew ?_))); (case side2 => exact HC254_15.out); rintro e w' ⟨rfl, ⟨nd, rfl⟩⟩; refine ⟨_, rfl, ?_⟩; have p256 : 0 ≤ (x5_1 : Int) := of_decide_eq_true (by first | (with_reducible assumption) | assumption); have q256 : x5_1 < (l0.length : Int) := of_decide_eq_true (by first | (with_reducible assumption) | assumption); obtain ⟨ad256, A256_14, c256_14, A256_15, c256_15, A256_16, c256_16, A256_17, c256_17, A256_18, c256_18, e256, hx256_0, hx256_1, hx256_2, hx256_3, hx256_4, hx256_5, hx256_6, hx256_7, hx256_8, hx256_9, hx256_10, hx256_11, hx256_12, hx256_13, hx256_14, hx256_15, hx256_16, hx256_17, hx256_18, hl256_14, hi256_14, hl256_15, hi256_15, hl256_16, hi256_16, hl256_17, hi256_17, hl256_18, hi256_18⟩ := at_T36 HR0.out x5_1 p256 q256; obtain rfl : ad238 = ad256 := (by injection e256); have HR256_14 := Aside0.mk hi256_14; have HC256_14 := Aside0.mk hl256_14; clear hi256_14 hl256_14; have HR256_15 := Aside0.mk hi256_15; have HC256_15 := Aside0.mk hl256_15; clear hi256_15 hl256_15; have HR256_16 := Aside0.mk hi256_16; have HC256_16 := Aside0.mk hl256_16; clear hi256_16 hl256_16; have HR256_17 := Aside0.mk hi256_17; have HC256_17 := Aside0.mk hl256_17; clear hi256_17 hl256_17; have HR256_18 := Aside0.mk hi256_18; have HC256_18 := Aside0.mk hl256_18; clear hi256_18 hl256_18; replace p256 := eq_true p256; replace q256 := eq_true q256; have ea_ := Option.some.inj (hx238_14.symm.trans hx256_14); injection ea_ with ea_ en_ ec_; subst ea_; subst ec_; clear en_; have ea_ := Option.some.inj (hx238_15.symm.trans hx256_15); injection ea_ with ea_ en_ ec_; subst ea_; subst ec_; clear en_; have ea_ := Option.some.inj (hx238_16.symm.trans hx256_16); injection ea_ with ea_ en_ ec_; subst ea_; subst ec_; clear en_; have ea_ := Option.some.inj (hx238_17.symm.trans hx256_17); injection ea_ with ea_ en_ ec_; subst ea_; subst ec_; clear en_; have ea_ := Option.some.inj (hx238_18.symm.trans hx256_18); injection ea_ with ea_ en_ ec_; subst ea_; subst ec_; clear en_) | ((with_reducible refine gate_callee (f := 57) rfl ?_); refine goesL_ (some 167) rfl rfl Try.func57 (by kernel_rfl) rfl #[.slice A238_16 ((rd_T36 l0 x5_1).f13).length c238_16, .int .i64 t255] rfl (by (try simp only [List.map_toArray, List.map_cons, List.map_nil]); first | done | rfl | (simp only [List.length_drop, List.length_take]; rfl)) ?_; (with_reducible refine (laws_heldEntryS.calls k1 _ _ ((rd_T36 l0 x5_1).f13) t255 t257 _ ?side1 ?side2 A23.out).mono ?_); (case side1 => repeat (first | exact HR256_16.out | (with_reducible refine Kd.C_alloc ?_ _) | (with_reducible refine Kd.C_drewN ?_ _) | (with_reducible refine Kd.C_drew ?_))); (case side2 => exact HC256_16.out); rintro e w' ⟨rfl, ⟨nd, rfl⟩⟩; refine ⟨_, rfl, ?_⟩; have p258 : 0 ≤ (x5_1 : Int) := of_decide_eq_true (by first | (with_reducible assumption) | assumption); have q258 : x5_1 < (l0.length : Int) := of_decide_eq_true (by first | (with_reducible assumption) | assumption); obtain ⟨ad258, A258_14, c258_14, A258_15, c258_15, A258_16, c258_16, A258_17, c258_17, A258_18, c258_18, e258, hx258_0, hx258_1, hx258_2, hx258_3, hx258_4, hx258_5, hx258_6, hx258_7, hx258_8, hx258_9, hx258_10, hx258_11, hx258_12, hx258_13, hx258_14, hx258_15, hx258_16, hx258_17, hx258_18, hl258_14, hi258_14, hl258_15, hi258_15, hl258_16, hi258_16, hl258_17, hi258_17, hl258_18, hi258_18⟩ := at_T36 HR0.out x5_1 p258 q258; obtain rfl : ad238 = ad258 := (by injection e258); have HR258_14 := Aside0.mk hi258_14; have HC258_14 := Aside0.mk hl258_14; clear hi258_14 hl258_14; have HR258_15 := Aside0.mk hi258_15; have HC258_15 := Aside0.mk hl258_15; clear hi258_15 hl258_15; have HR258_16 := Aside0.mk hi258_16; have HC258_16 := Aside0.mk hl258_16; clear hi258_16 hl258_16; have HR258_17 := Aside0.mk hi258_17; have HC258_17 := Aside0.mk hl258_17; clear hi258_17 hl258_17; have HR258_18 := Aside0.mk hi258_18; have HC258_18 := Aside0.mk hl258_18; clear hi258_18 hl258_18; replace p258 := eq_true p258; replace q258 := eq_true q258; have ea_ := Option.some.inj (hx238_14.symm.trans hx258_14); injection ea_ with ea_ en_ ec_; subst ea_; subst ec_; clear en_; have ea_ := Option.some.inj (hx238_15.symm.trans hx258_15); injection ea_ with ea_ en_ ec_; subst ea_; subst ec_; clear en_; have ea_ := Option.some.inj (hx238_16.symm.trans hx258_16); injection ea_ with ea_ en_ ec_; subst ea_; subst ec_; clear en_; have ea_ := Option.some.inj (hx238_17.symm.trans hx258_17); injection ea_ with ea_ en_ ec_; subst ea_; subst ec_; clear en_; have ea_ := Option.some.inj (hx238_18.symm.trans hx258_18); injection ea_ with ea_ en_ ec_; subst ea_; subst ec_; clear en_) | ((with_reducible refine gate_callee (f := 57) rfl ?_); refine goesL_ (some 176) rfl rfl Try.func57 (by kernel_rfl) rfl #[.slice A238_17 ((rd_T36 l0 x5_1).f14).length c238_17, .int .i64 t257] rfl (by (try simp only [List.map_toArray, List.map_cons, List.map_nil]); first | done | rfl | (simp only [List.length_drop, List.length_take]; rfl)) ?_; (with_reducible refine (laws_heldEntryS.calls k1 _ _ ((rd_T36 l0 x5_1).f14) t257 t259 _ ?side1 ?side2 A25.out).mono ?_); (case side1 => repeat (first | exact HR258_17.out | (with_reducible refine Kd.C_alloc ?_ _) | (with_reducible refine Kd.C_drewN ?_ _) | (with_reducible refine Kd.C_drew ?_))); (case side2 => exact HC258_17.out); rintro e w' ⟨rfl, ⟨nd, rfl⟩⟩; refine ⟨_, rfl, ?_⟩; have p260 : 0 ≤ (x5_1 : Int) := of_decide_eq_true (by first | (with_reducible assumption) | assumption); have q260 : x5_1 < (l0.length : Int) := of_decide_eq_true (by first | (with_reducible assumption) | assumption); obtain ⟨ad260, A260_14, c260_14, A260_15, c260_15, A260_16, c260_16, A260_17, c260_17, A260_18, c260_18, e260, hx260_0, hx260_1, hx260_2, hx260_3, hx260_4, hx260_5, hx260_6, hx260_7, hx260_8, hx260_9, hx260_10, hx260_11, hx260_12, hx260_13, hx260_14, hx260_15, hx260_16, hx260_17, hx260_18, hl260_14, hi260_14, hl260_15, hi260_15, hl260_16, hi260_16, hl260_17, hi260_17, hl260_18, hi260_18⟩ := at_T36 HR0.out x5_1 p260 q260; obtain rfl : ad238 = ad260 := (by injection e260); have HR260_14 := Aside0.mk hi260_14; have HC260_14 := Aside0.mk hl260_14; clear hi260_14 hl260_14; have HR260_15 := Aside0.mk hi260_15; have HC260_15 := Aside0.mk hl260_15; clear hi260_15 hl260_15; have HR260_16 := Aside0.mk hi260_16; have HC260_16 := Aside0.mk hl260_16; clear hi260_16 hl260_16; have HR260_17 := Aside0.mk hi260_17; have HC260_17 := Aside0.mk hl260_17; clear hi260_17 hl260_17; have HR260_18 := Aside0.mk hi260_18; have HC260_18 := Aside0.mk hl260_18; clear hi260_18 hl260_18; replace p260 := eq_true p260; replace q260 := eq_true q260; have ea_ := Option.some.inj (hx238_14.symm.trans hx260_14); injection ea_ with ea_ en_ ec_; subst ea_; subst ec_; clear en_; have ea_ := Option.some.inj (hx238_15.symm.trans hx260_15); injection ea_ with ea_ en_ ec_; subst ea_; subst ec_; clear en_; have ea_ := Option.some.inj (hx238_16.symm.trans hx260_16); injection ea_ with ea_ en_ ec_; subst ea_; subst ec_; clear en_; have ea_ := Option.some.inj (hx238_17.symm.trans hx260_17); injection ea_ with ea_ en_ ec_; subst ea_; subst ec_; clear en_; have ea_ := Option.some.inj (hx238_18.symm.trans hx260_18); injection ea_ with ea_ en_ ec_; subst ea_; subst ec_; clear en_) | ((with_reducible refine gate_callee (f := 46) rfl ?_); refine goesL_ (some 185) rfl rfl Try.func46 (by kernel_rfl) rfl #[.slice A238_18 ((rd_T36 l0 x5_1).f15).length c238_18, .int .i64 t259] rfl (by (try simp only [List.map_toArray, List.map_cons, List.map_nil]); first | done | rfl | (simp only [List.length_drop, List.length_take]; rfl)) ?_; (with_reducible refine (laws_heldIntS.calls k1 _ _ ((rd_T36 l0 x5_1).f15) t259 t261 _ ?side1 ?side2 A27.out).mono ?_); (case side1 => repeat (first | exact HR260_18.out | (with_reducible refine Kd.C_alloc ?_ _) | (with_reducible refine Kd.C_drewN ?_ _) | (with_reducible refine Kd.C_drew ?_))); (case side2 => exact HC260_18.out); rintro e w' ⟨rfl, ⟨nd, rfl⟩⟩; refine ⟨_, rfl, ?_⟩))
                                                go_roundg k1
                                                case measure => have := HK1.out; omega
                                                case rel => exact ⟨(t261), (wrap64 (x5_1 + 1)), (by first | rfl | (simp; done) | (simp [*]; done)), (by first | rfl | (simp; done) | (simp [*]; done) | (simp [*]; generalize ByteArray.toList _ = l_; cases l_ <;> rfl)), H', ⟨by have := HK1.out; omega⟩, by repeat (first | exact Drawn0.refl _ | apply Drawn0.step)⟩
                                    · rw [if_neg c18] at H
                                      exact absurd H (by simp)
                                  · rw [if_neg c17] at H
                                    exact absurd H (by simp)
                                · rw [if_neg c16] at H
                                  exact absurd H (by simp)
                              · rw [if_neg c15] at H
                                exact absurd H (by simp)
                            · rw [if_neg c14] at H
                              exact absurd H (by simp)
                          · rw [if_neg c13] at H
                            exact absurd H (by simp)
                        · rw [if_neg c12] at H
                          exact absurd H (by simp)
                      · rw [if_neg c11] at H
                        exact absurd H (by simp)
                    · rw [if_neg c10] at H
                      exact absurd H (by simp)
                  · rw [if_neg c9] at H
                    exact absurd H (by simp)
                · rw [if_neg c8] at H
                  exact absurd H (by simp)
              · rw [if_neg c7] at H
                exact absurd H (by simp)
            · rw [if_neg c6] at H
              exact absurd H (by simp)
          · rw [if_neg c5] at H
            exact absurd H (by simp)
        · rw [if_neg c4] at H
          exact absurd H (by simp)
      · rw [if_neg c3] at H
        have c3b0 : decide (x5_1 < (l0.length : Int)) = false := decide_eq_false c3
        clear c3
        obtain rfl := Option.some.inj H
        go_wp2
        go_ret
        exact ⟨by first | rfl | (refine congrArg Ending.returned (congrArg Value.bool ?_); generalize ByteArray.toList _ = l_; cases l_ <;> rfl) | (simp; done) | (simp [*]; done), by repeat (first | exact Drawn0.refl _ | apply Drawn0.step)⟩

end Go.Proofs.Ytamlpnfnidkknaa.GFnExactNewState
