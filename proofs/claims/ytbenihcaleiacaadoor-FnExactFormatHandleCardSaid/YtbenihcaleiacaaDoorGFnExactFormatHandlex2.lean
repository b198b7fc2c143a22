/- Of each Go function that the law FnExactFormatHandle reaches: a Lean function, and the proof that the call comes to just its answer; written by a turned copy of the kit's printer, with contracts typed by hand for functions that it does not take. No condition. -/
import Derived.Test.YtbenihcaleiacaaDoorGFnExactFormatHandlex0
import Derived.Test.YtbenihcaleiacaaDoorGFnExactFormatHandlex1
namespace Go.Proofs.YtbenihcaleiacaaDoor.GFnExactFormatHandle
open Go.RowKit Go.Proofs.YtbenihcaleiacaaDoorW.PrintWords Go.Proofs.YtbenihcaleiacaaDoorW.PrintLast Go.Proofs.YtbenihcaleiacaaDoorW.PrintMore
attribute [local go_sem] max2_int min2_int max_two min_two max_three min_three max_four min_four   -- for this text's walks alone
set_option linter.unusedVariables false
set_option linter.unusedSimpArgs false

/-! ### impl_FormatHandle: function 21 -/
def impl_FormatHandle.j0 : Nat → Int → ByteArray → Bool → Option (ByteArray)
  | 0, _, _, _ => none
  | k + 1, x0, x3, x15 => if x15 = true then (some (⟨#[]⟩ : ByteArray)) else ((impl_IsMarked.f x0).bind fun t135 => (if t135 = true then (if x3.size + 1 ≤ 9223372036854775807 then (some (x3 ++ (⟨#[42]⟩ : ByteArray))) else (none)) else (some x3)))
def impl_FormatHandle.f (k : Nat) (a0 : Int) : Option (ByteArray) := (impl_IsHandle.f a0).bind fun t129 => (if t129 = true then ((impl_IndexOf.f a0).bind fun t130 => ((impl_FormatInt.f t130).bind fun t131 => (if t131.size + 1 ≤ 9223372036854775807 then ((impl_GenerationOf.f a0).bind fun t132 => ((impl_FormatInt.f t132).bind fun t133 => (if (t131 ++ (⟨#[46]⟩ : ByteArray)).size + t133.size ≤ 9223372036854775807 then ((impl_IsMarked.f a0).bind fun t134 => (if t134 = true then (if ((t131 ++ (⟨#[46]⟩ : ByteArray)) ++ t133).size + 1 ≤ 9223372036854775807 then (some (((t131 ++ (⟨#[46]⟩ : ByteArray)) ++ t133) ++ (⟨#[42]⟩ : ByteArray))) else (none)) else (some ((t131 ++ (⟨#[46]⟩ : ByteArray)) ++ t133)))) else (none)))) else (none)))) else (if a0 = 0 then (impl_FormatHandle.j0 k a0 (⟨#[110, 111, 110, 101]⟩ : ByteArray) false) else (impl_FormatHandle.j0 k a0 (⟨#[110, 111, 110, 101]⟩ : ByteArray) (a0 != 1))))
theorem impl_FormatHandle.mono_l : ∀ k, (∀ y0 y1 y2, LeO (impl_FormatHandle.j0 k y0 y1 y2) (impl_FormatHandle.j0 (k + 1) y0 y1 y2))
  | 0 => fun _ _ _ r h => by simp [impl_FormatHandle.j0] at h
  | k + 1 => by
    have ih0 := impl_FormatHandle.mono_l k
    · intro y0 y1 y2
      unfold impl_FormatHandle.j0
      repeat' first
      | (with_reducible exact ih0 _ _ _)
      | (with_reducible exact LeO.refl _)
      | (with_reducible exact LeO.none _)
      | (with_reducible refine LeO.ite ?_ ?_)
      | (with_reducible refine LeO.bind ?_ (fun _ => ?_))
      | exact ih0 _ _ _
      | exact LeO.none _
      | refine LeO.ite ?_ ?_
      | refine LeO.bind ?_ (fun _ => ?_)
theorem impl_FormatHandle.mono : ∀ a0 k, LeO (impl_FormatHandle.f k a0) (impl_FormatHandle.f (k + 1) a0) := by
  intro a0 k
  have ih0 := impl_FormatHandle.mono_l k
  unfold impl_FormatHandle.f
  repeat' first
      | (with_reducible exact ih0 _ _ _)
      | (with_reducible exact LeO.refl _)
      | (with_reducible exact LeO.none _)
      | (with_reducible refine LeO.ite ?_ ?_)
      | (with_reducible refine LeO.bind ?_ (fun _ => ?_))
      | exact ih0 _ _ _
      | exact LeO.none _
      | refine LeO.ite ?_ ?_
      | refine LeO.bind ?_ (fun _ => ?_)
set_option maxHeartbeats 8000000 in
set_option maxRecDepth 100000 in
theorem impl_FormatHandle.calls (k : Nat) (a0 : Int) (r : ByteArray) (w : World) (hF : Fit w) (h : impl_FormatHandle.f k a0 = some r) :
    Calls Tryd.prog 21 #[.int .i64 a0] w fun e w' => e = .returned (.string r) ∧ Below w.heap.size w w' := by
  have HF := Aside0.mk hF
  clear hF
  have HB := Aside0.mk (Below.refl w.heap.size w)
  have H : ((impl_IsHandle.f a0).bind fun t129 => (if t129 = true then ((impl_IndexOf.f a0).bind fun t130 => ((impl_FormatInt.f t130).bind fun t131 => (if t131.size + 1 ≤ 9223372036854775807 then ((impl_GenerationOf.f a0).bind fun t132 => ((impl_FormatInt.f t132).bind fun t133 => (if (t131 ++ (⟨#[46]⟩ : ByteArray)).size + t133.size ≤ 9223372036854775807 then ((impl_IsMarked.f a0).bind fun t134 => (if t134 = true then (if ((t131 ++ (⟨#[46]⟩ : ByteArray)) ++ t133).size + 1 ≤ 9223372036854775807 then (some (((t131 ++ (⟨#[46]⟩ : ByteArray)) ++ t133) ++ (⟨#[42]⟩ : ByteArray))) else (none)) else (some ((t131 ++ (⟨#[46]⟩ : ByteArray)) ++ t133)))) else (none)))) else (none)))) else (if a0 = 0 then (impl_FormatHandle.j0 k a0 (⟨#[110, 111, 110, 101]⟩ : ByteArray) false) else (impl_FormatHandle.j0 k a0 (⟨#[110, 111, 110, 101]⟩ : ByteArray) (a0 != 1))))) = some r := h
  clear h
  replace H := Option.bind_eq_some_iff.mp H
  obtain ⟨t129, A20, H⟩ := H
  replace H : (if t129 = true then ((impl_IndexOf.f a0).bind fun t130 => ((impl_FormatInt.f t130).bind fun t131 => (if t131.size + 1 ≤ 9223372036854775807 then ((impl_GenerationOf.f a0).bind fun t132 => ((impl_FormatInt.f t132).bind fun t133 => (if (t131 ++ (⟨#[46]⟩ : ByteArray)).size + t133.size ≤ 9223372036854775807 then ((impl_IsMarked.f a0).bind fun t134 => (if t134 = true then (if ((t131 ++ (⟨#[46]⟩ : ByteArray)) ++ t133).size + 1 ≤ 9223372036854775807 then (some (((t131 ++ (⟨#[46]⟩ : ByteArray)) ++ t133) ++ (⟨#[42]⟩ : ByteArray))) else (none)) else (some ((t131 ++ (⟨#[46]⟩ : ByteArray)) ++ t133)))) else (none)))) else (none)))) else (if a0 = 0 then (impl_FormatHandle.j0 k a0 (⟨#[110, 111, 110, 101]⟩ : ByteArray) false) else (impl_FormatHandle.j0 k a0 (⟨#[110, 111, 110, 101]⟩ : ByteArray) (a0 != 1)))) = some r := H
  have A2 := Aside0.mk A20
  clear A20
  by_cases c3 : t129 = true
  · subst c3
    have H1 : ((impl_IndexOf.f a0).bind fun t130 => ((impl_FormatInt.f t130).bind fun t131 => (if t131.size + 1 ≤ 9223372036854775807 then ((impl_GenerationOf.f a0).bind fun t132 => ((impl_FormatInt.f t132).bind fun t133 => (if (t131 ++ (⟨#[46]⟩ : ByteArray)).size + t133.size ≤ 9223372036854775807 then ((impl_IsMarked.f a0).bind fun t134 => (if t134 = true then (if ((t131 ++ (⟨#[46]⟩ : ByteArray)) ++ t133).size + 1 ≤ 9223372036854775807 then (some (((t131 ++ (⟨#[46]⟩ : ByteArray)) ++ t133) ++ (⟨#[42]⟩ : ByteArray))) else (none)) else (some ((t131 ++ (⟨#[46]⟩ : ByteArray)) ++ t133)))) else (none)))) else (none)))) = some r := by rw [if_pos rfl] at H; exact H
    clear H
    have H := H1
    clear H1
    replace H := Option.bind_eq_some_iff.mp H
    obtain ⟨t130, A40, H⟩ := H
    replace H : ((impl_FormatInt.f t130).bind fun t131 => (if t131.size + 1 ≤ 9223372036854775807 then ((impl_GenerationOf.f a0).bind fun t132 => ((impl_FormatInt.f t132).bind fun t133 => (if (t131 ++ (⟨#[46]⟩ : ByteArray)).size + t133.size ≤ 9223372036854775807 then ((impl_IsMarked.f a0).bind fun t134 => (if t134 = true then (if ((t131 ++ (⟨#[46]⟩ : ByteArray)) ++ t133).size + 1 ≤ 9223372036854775807 then (some (((t131 ++ (⟨#[46]⟩ : ByteArray)) ++ t133) ++ (⟨#[42]⟩ : ByteArray))) else (none)) else (some ((t131 ++ (⟨#[46]⟩ : ByteArray)) ++ t133)))) else (none)))) else (none))) = some r := H
    have A4 := Aside0.mk A40
    clear A40
    replace H := Option.bind_eq_some_iff.mp H
    obtain ⟨t131, A50, H⟩ := H
    replace H : (if t131.size + 1 ≤ 9223372036854775807 then ((impl_GenerationOf.f a0).bind fun t132 => ((impl_FormatInt.f t132).bind fun t133 => (if (t131 ++ (⟨#[46]⟩ : ByteArray)).size + t133.size ≤ 9223372036854775807 then ((impl_IsMarked.f a0).bind fun t134 => (if t134 = true then (if ((t131 ++ (⟨#[46]⟩ : ByteArray)) ++ t133).size + 1 ≤ 9223372036854775807 then (some (((t131 ++ (⟨#[46]⟩ : ByteArray)) ++ t133) ++ (⟨#[42]⟩ : ByteArray))) else (none)) else (some ((t131 ++ (⟨#[46]⟩ : ByteArray)) ++ t133)))) else (none)))) else (none)) = some r := H
    have A5 := Aside0.mk A50
    clear A50
    by_cases c6 : t131.size + 1 ≤ 9223372036854775807
    · rw [if_pos c6] at H
      have c6b0 := eq_true c6
      have c6b1 : decide (t131.size + 1 ≤ 9223372036854775807) = true := decide_eq_true c6
      try have c6b2 : (9223372036854775807 < t131.size + 1) = False := eq_false (Nat.not_lt.2 c6)
      replace H := Option.bind_eq_some_iff.mp H
      obtain ⟨t132, A70, H⟩ := H
      replace H : ((impl_FormatInt.f t132).bind fun t133 => (if (t131 ++ (⟨#[46]⟩ : ByteArray)).size + t133.size ≤ 9223372036854775807 then ((impl_IsMarked.f a0).bind fun t134 => (if t134 = true then (if ((t131 ++ (⟨#[46]⟩ : ByteArray)) ++ t133).size + 1 ≤ 9223372036854775807 then (some (((t131 ++ (⟨#[46]⟩ : ByteArray)) ++ t133) ++ (⟨#[42]⟩ : ByteArray))) else (none)) else (some ((t131 ++ (⟨#[46]⟩ : ByteArray)) ++ t133)))) else (none))) = some r := H
      have A7 := Aside0.mk A70
      clear A70
      replace H := Option.bind_eq_some_iff.mp H
      obtain ⟨t133, A80, H⟩ := H
      replace H : (if (t131 ++ (⟨#[46]⟩ : ByteArray)).size + t133.size ≤ 9223372036854775807 then ((impl_IsMarked.f a0).bind fun t134 => (if t134 = true then (if ((t131 ++ (⟨#[46]⟩ : ByteArray)) ++ t133).size + 1 ≤ 9223372036854775807 then (some (((t131 ++ (⟨#[46]⟩ : ByteArray)) ++ t133) ++ (⟨#[42]⟩ : ByteArray))) else (none)) else (some ((t131 ++ (⟨#[46]⟩ : ByteArray)) ++ t133)))) else (none)) = some r := H
      have A8 := Aside0.mk A80
      clear A80
      by_cases c9 : (t131 ++ (⟨#[46]⟩ : ByteArray)).size + t133.size ≤ 9223372036854775807
      · rw [if_pos c9] at H
        have c9b0 := eq_true c9
        have c9b1 : decide ((t131 ++ (⟨#[46]⟩ : ByteArray)).size + t133.size ≤ 9223372036854775807) = true := decide_eq_true c9
        try have c9b2 : (9223372036854775807 < (t131 ++ (⟨#[46]⟩ : ByteArray)).size + t133.size) = False := eq_false (Nat.not_lt.2 c9)
        have c9n := c9
        try simp [go_sem] at c9n
        try have c9b3 := eq_false (Nat.not_lt.2 c9n)
        replace H := Option.bind_eq_some_iff.mp H
        obtain ⟨t134, A100, H⟩ := H
        replace H : (if t134 = true then (if ((t131 ++ (⟨#[46]⟩ : ByteArray)) ++ t133).size + 1 ≤ 9223372036854775807 then (some (((t131 ++ (⟨#[46]⟩ : ByteArray)) ++ t133) ++ (⟨#[42]⟩ : ByteArray))) else (none)) else (some ((t131 ++ (⟨#[46]⟩ : ByteArray)) ++ t133))) = some r := H
        have A10 := Aside0.mk A100
        clear A100
        by_cases c11 : t134 = true
        · subst c11
          have H1 : (if ((t131 ++ (⟨#[46]⟩ : ByteArray)) ++ t133).size + 1 ≤ 9223372036854775807 then (some (((t131 ++ (⟨#[46]⟩ : ByteArray)) ++ t133) ++ (⟨#[42]⟩ : ByteArray))) else (none)) = some r := by rw [if_pos rfl] at H; exact H
          clear H
          have H := H1
          clear H1
          by_cases c12 : ((t131 ++ (⟨#[46]⟩ : ByteArray)) ++ t133).size + 1 ≤ 9223372036854775807
          · rw [if_pos c12] at H
            have c12b0 := eq_true c12
            have c12b1 : decide (((t131 ++ (⟨#[46]⟩ : ByteArray)) ++ t133).size + 1 ≤ 9223372036854775807) = true := decide_eq_true c12
            try have c12b2 : (9223372036854775807 < ((t131 ++ (⟨#[46]⟩ : ByteArray)) ++ t133).size + 1) = False := eq_false (Nat.not_lt.2 c12)
            have c12n := c12
            try simp [go_sem] at c12n
            try have c12b3 := eq_false (Nat.not_lt.2 c12n)
            obtain rfl := Option.some.inj H
            go_enter Tryd.func21, Tryd.ntmps21
            go_wp2_with (first | ((with_reducible refine gate_callee (f := 60) rfl ?_); refine goesL_ (some 6) rfl rfl Tryd.func60 (by kernel_rfl) rfl #[.int .i64 a0] rfl (by (try simp only [List.map_toArray, List.map_cons, List.map_nil]); first | done | rfl | (simp only [List.length_drop, List.length_take]; rfl)) ?_; (with_reducible refine (impl_IsHandle.calls a0 true _ A2.out).mono ?_); rintro e w' ⟨rfl, ⟨nd, rfl⟩⟩; refine ⟨_, rfl, ?_⟩) | ((with_reducible refine gate_callee (f := 61) rfl ?_); refine goesL_ (some 8) rfl rfl Tryd.func61 (by kernel_rfl) rfl #[.int .i64 a0] rfl (by (try simp only [List.map_toArray, List.map_cons, List.map_nil]); first | done | rfl | (simp only [List.length_drop, List.length_take]; rfl)) ?_; (with_reducible refine (impl_IndexOf.calls a0 t130 _ A4.out).mono ?_); rintro e w' ⟨rfl, ⟨nd, rfl⟩⟩; refine ⟨_, rfl, ?_⟩) | ((with_reducible refine gate_callee (f := 13) rfl ?_); refine goesL_ (some 9) rfl rfl Tryd.func13 (by kernel_rfl) rfl #[.int .i64 t130] rfl (by (try simp only [List.map_toArray, List.map_cons, List.map_nil]); first | done | rfl | (simp only [List.length_drop, List.length_take]; rfl)) ?_; (with_reducible refine (impl_FormatInt.calls (hF := Fit.below HF.out (by repeat (first | (with_reducible first | exact HB.out | apply below_alloc | apply pw_below_drewN | apply below_drew1) | exact HB.out))) t130 t131 _ A5.out).mono ?_); rintro e w13 ⟨rfl, hb⟩; refine ⟨_, rfl, ?_⟩; have n0_ := Aside0.mk (below_step (by repeat (first | (with_reducible first | exact HB.out | apply below_alloc | apply pw_below_drewN | apply below_drew1) | exact HB.out)) hb); clear HB; have HB := n0_; clear n0_; (try clear hb); (try clear hb2); (try clear hk); (try clear hi)) | ((with_reducible refine gate_callee (f := 62) rfl ?_); refine goesL_ (some 12) rfl rfl Tryd.func62 (by kernel_rfl) rfl #[.int .i64 a0] rfl (by (try simp only [List.map_toArray, List.map_cons, List.map_nil]); first | done | rfl | (simp only [List.length_drop, List.length_take]; rfl)) ?_; (with_reducible refine (impl_GenerationOf.calls a0 t132 _ A7.out).mono ?_); rintro e w' ⟨rfl, ⟨nd, rfl⟩⟩; refine ⟨_, rfl, ?_⟩) | ((with_reducible refine gate_callee (f := 13) rfl ?_); refine goesL_ (some 13) rfl rfl Tryd.func13 (by kernel_rfl) rfl #[.int .i64 t132] rfl (by (try simp only [List.map_toArray, List.map_cons, List.map_nil]); first | done | rfl | (simp only [List.length_drop, List.length_take]; rfl)) ?_; (with_reducible refine (impl_FormatInt.calls (hF := Fit.below HF.out (by repeat (first | (with_reducible first | exact HB.out | apply below_alloc | apply pw_below_drewN | apply below_drew1) | exact HB.out))) t132 t133 _ A8.out).mono ?_); rintro e w14 ⟨rfl, hb⟩; refine ⟨_, rfl, ?_⟩; have n0_ := Aside0.mk (below_step (by repeat (first | (with_reducible first | exact HB.out | apply below_alloc | apply pw_below_drewN | apply below_drew1) | exact HB.out)) hb); clear HB; have HB := n0_; clear n0_; (try clear hb); (try clear hb2); (try clear hk); (try clear hi)) | ((with_reducible refine gate_callee (f := 63) rfl ?_); refine goesL_ (some 23) rfl rfl Tryd.func63 (by kernel_rfl) rfl #[.int .i64 a0] rfl (by (try simp only [List.map_toArray, List.map_cons, List.map_nil]); first | done | rfl | (simp only [List.length_drop, List.length_take]; rfl)) ?_; (with_reducible refine (impl_IsMarked.calls a0 true _ A10.out).mono ?_); rintro e w' ⟨rfl, ⟨nd, rfl⟩⟩; refine ⟨_, rfl, ?_⟩))
            go_ret
            exact ⟨by first | rfl | (refine congrArg Ending.returned (congrArg Value.bool ?_); generalize ByteArray.toList _ = l_; cases l_ <;> rfl) | (simp [errW_none, errW_some] <;> rfl) | (simp [*, errW_none, errW_some] <;> rfl), by repeat (first | (with_reducible first | exact HB.out | apply below_alloc | apply pw_below_drewN | apply below_drew1) | exact HB.out)⟩
          · rw [if_neg c12] at H
            exact absurd H (by simp)
        · replace c11 := Bool.eq_false_iff.mpr c11
          subst c11
          have H1 : (some ((t131 ++ (⟨#[46]⟩ : ByteArray)) ++ t133)) = some r := by rw [if_neg (show ¬ (false = true) by decide)] at H; exact H
          clear H
          have H := H1
          clear H1
          obtain rfl := Option.some.inj H
          go_enter Tryd.func21, Tryd.ntmps21
          go_wp2_with (first | ((with_reducible refine gate_callee (f := 60) rfl ?_); refine goesL_ (some 6) rfl rfl Tryd.func60 (by kernel_rfl) rfl #[.int .i64 a0] rfl (by (try simp only [List.map_toArray, List.map_cons, List.map_nil]); first | done | rfl | (simp only [List.length_drop, List.length_take]; rfl)) ?_; (with_reducible refine (impl_IsHandle.calls a0 true _ A2.out).mono ?_); rintro e w' ⟨rfl, ⟨nd, rfl⟩⟩; refine ⟨_, rfl, ?_⟩) | ((with_reducible refine gate_callee (f := 61) rfl ?_); refine goesL_ (some 8) rfl rfl Tryd.func61 (by kernel_rfl) rfl #[.int .i64 a0] rfl (by (try simp only [List.map_toArray, List.map_cons, List.map_nil]); first | done | rfl | (simp only [List.length_drop, List.length_take]; rfl)) ?_; (with_reducible refine (impl_IndexOf.calls a0 t130 _ A4.out).mono ?_); rintro e w' ⟨rfl, ⟨nd, rfl⟩⟩; refine ⟨_, rfl, ?_⟩) | ((with_reducible refine gate_callee (f := 13) rfl ?_); refine goesL_ (some 9) rfl rfl Tryd.func13 (by kernel_rfl) rfl #[.int .i64 t130] rfl (by (try simp only [List.map_toArray, List.map_cons, List.map_nil]); first | done | rfl | (simp only [List.length_drop, List.length_take]; rfl)) ?_; (with_reducible refine (impl_FormatInt.calls (hF := Fit.below HF.out (by repeat (first | (with_reducible first | exact HB.out | apply below_alloc | apply pw_below_drewN | apply below_drew1) | exact HB.out))) t130 t131 _ A5.out).mono ?_); rintro e w15 ⟨rfl, hb⟩; refine ⟨_, rfl, ?_⟩; have n0_ := Aside0.mk (below_step (by repeat (first | (with_reducible first | exact HB.out | apply below_alloc | apply pw_below_drewN | apply below_drew1) | exact HB.out)) hb); clear HB; have HB := n0_; clear n0_; (try clear hb); (try clear hb2); (try clear hk); (try clear hi)) | ((with_reducible refine gate_callee (f := 62) rfl ?_); refine goesL_ (some 12) rfl rfl Tryd.func62 (by kernel_rfl) rfl #[.int .i64 a0] rfl (by (try simp only [List.map_toArray, List.map_cons, List.map_nil]); first | done | rfl | (simp only [List.length_drop, List.length_take]; rfl)) ?_; (with_reducible refine (impl_GenerationOf.calls a0 t132 _ A7.out).mono ?_); rintro e w' ⟨rfl, ⟨nd, rfl⟩⟩; refine ⟨_, rfl, ?_⟩) | ((with_reducible refine gate_callee (f := 13) rfl ?_); refine goesL_ (some 13) rfl rfl Tryd.func13 (by kernel_rfl) rfl #[.int .i64 t132] rfl (by (try simp only [List.map_toArray, List.map_cons, List.map_nil]); first | done | rfl | (simp only [List.length_drop, List.length_take]; rfl)) ?_; (with_reducible refine (impl_FormatInt.calls (hF := Fit.below HF.out (by repeat (first | (with_reducible first | exact HB.out | apply below_alloc | apply pw_below_drewN | apply below_drew1) | exact HB.out))) t132 t133 _ A8.out).mono ?_); rintro e w16 ⟨rfl, hb⟩; refine ⟨_, rfl, ?_⟩; have n0_ := Aside0.mk (below_step (by repeat (first | (with_reducible first | exact HB.out | apply below_alloc | apply pw_below_drewN | apply below_drew1) | exact HB.out)) hb); clear HB; have HB := n0_; clear n0_; (try clear hb); (try clear hb2); (try clear hk); (try clear hi)) | ((with_reducible refine gate_callee (f := 63) rfl ?_); refine goesL_ (some 23) rfl rfl Tryd.func63 (by kernel_rfl) rfl #[.int .i64 a0] rfl (by (try simp only [List.map_toArray, List.map_cons, List.map_nil]); first | done | rfl | (simp only [List.length_drop, List.length_take]; rfl)) ?_; (with_reducible refine (impl_IsMarked.calls a0 false _ A10.out).mono ?_); rintro e w' ⟨rfl, ⟨nd, rfl⟩⟩; refine ⟨_, rfl, ?_⟩))
          go_ret
          exact ⟨by first | rfl | (refine congrArg Ending.returned (congrArg Value.bool ?_); generalize ByteArray.toList _ = l_; cases l_ <;> rfl) | (simp [errW_none, errW_some] <;> rfl) | (simp [*, errW_none, errW_some] <;> rfl), by repeat (first | (with_reducible first | exact HB.out | apply below_alloc | apply pw_below_drewN | apply below_drew1) | exact HB.out)⟩
      · rw [if_neg c9] at H
        exact absurd H (by simp)
    · rw [if_neg c6] at H
      exact absurd H (by simp)
  · replace c3 := Bool.eq_false_iff.mpr c3
    subst c3
    have H1 : (if a0 = 0 then (impl_FormatHandle.j0 k a0 (⟨#[110, 111, 110, 101]⟩ : ByteArray) false) else (impl_FormatHandle.j0 k a0 (⟨#[110, 111, 110, 101]⟩ : ByteArray) (a0 != 1))) = some r := by rw [if_neg (show ¬ (false = true) by decide)] at H; exact H
    clear H
    have H := H1
    clear H1
    have HC17 := Aside0.mk H
    clear H
    go_enter Tryd.func21, Tryd.ntmps21
    go_upto_region 4 with (first | ((with_reducible refine gate_callee (f := 60) rfl ?_); refine goesL_ (some 6) rfl rfl Tryd.func60 (by kernel_rfl) rfl #[.int .i64 a0] rfl (by (try simp only [List.map_toArray, List.map_cons, List.map_nil]); first | done | rfl | (simp only [List.length_drop, List.length_take]; rfl)) ?_; (with_reducible refine (impl_IsHandle.calls a0 false _ A2.out).mono ?_); rintro e w' ⟨rfl, ⟨nd, rfl⟩⟩; refine ⟨_, rfl, ?_⟩))
    (try simp only [Act.put, List.setIfInBounds_toArray, List.set_cons_zero, List.set_cons_succ])
    go_cut [15] (fun v15 wc => ∃ (kq : Nat) (x15_16 : Bool), v15 = .bool x15_16 ∧ Aside0 (impl_FormatHandle.j0 kq a0 (⟨#[110, 111, 110, 101]⟩ : ByteArray) x15_16 = some r) ∧ Aside0 (kq ≤ k) ∧ Aside0 (Below w.heap.size w wc))
    case first =>
      have H := HC17.out
      clear HC17
      by_cases c18 : a0 = 0
      · rw [if_pos c18] at H
        have c18b0 : (a0 == 0) = true := beq_iff_eq.mpr c18
        have c18b1 : (a0 != 0) = false := bne_eq_false_iff_eq.mpr c18
        clear c18
        (first | rw [c18b0] | (simp only [i64_w, i32_w]; rw [c18b0]) | skip)
        have H' := Aside0.mk H
        clear H
        go_wp2
        go_meet
        case rel => exact ⟨_, (false), (by first | rfl | (simp; done) | (simp [*]; done)), H', ⟨by first | omega | exact Nat.le_refl _⟩, ⟨by repeat (first | (with_reducible first | exact HB.out | apply below_alloc | apply pw_below_drewN | apply below_drew1) | exact HB.out)⟩⟩
      · rw [if_neg c18] at H
        have c18b0 : (a0 == 0) = false := beq_eq_false_iff_ne.mpr c18
        have c18b1 : (a0 != 0) = true := bne_iff_ne.mpr c18
        (first | rw [c18b0] | (simp only [i64_w, i32_w]; rw [c18b0]) | skip)
        have H' := Aside0.mk H
        clear H
        go_wp2
        go_meet
        case rel => exact ⟨_, ((a0 != 1)), (by first | rfl | (simp; done) | (simp [*]; done)), H', ⟨by first | omega | exact Nat.le_refl _⟩, ⟨by repeat (first | (with_reducible first | exact HB.out | apply below_alloc | apply pw_below_drewN | apply below_drew1) | exact HB.out)⟩⟩
    case rest =>
      clear HC17
      try clear c1
      try clear c2
      try clear p2
      try clear c3
      try clear c6
      try clear c6b0
      try clear c6b1
      try clear c6b2
      try clear c9
      try clear c9b0
      try clear c9b1
      try clear c9b2
      try clear c11
      try clear c12
      try clear c12b0
      try clear c12b1
      try clear c12b2
      try clear c13
      try clear c18
      try clear c18b0
      try clear c18b1
      obtain ⟨kq, x15_16, rfl, HA, HJ16, HB⟩ := hcut
      cases kq with
      | zero => exact absurd HA.out (by simp [impl_FormatHandle.j0])
      | succ kj16 =>
        have H := HA.out
        clear HA
        simp only [impl_FormatHandle.j0] at H
        by_cases c19 : x15_16 = true
        · subst c19
          have H1 : (some (⟨#[]⟩ : ByteArray)) = some r := by rw [if_pos rfl] at H; exact H
          clear H
          have H := H1
          clear H1
          obtain rfl := Option.some.inj H
          go_wp2
          go_ret
          exact ⟨by first | rfl | (refine congrArg Ending.returned (congrArg Value.bool ?_); generalize ByteArray.toList _ = l_; cases l_ <;> rfl) | (simp [errW_none, errW_some] <;> rfl) | (simp [*, errW_none, errW_some] <;> rfl), by repeat (first | (with_reducible first | exact HB.out | apply below_alloc | apply pw_below_drewN | apply below_drew1) | exact HB.out)⟩
        · replace c19 := Bool.eq_false_iff.mpr c19
          subst c19
          have H1 : ((impl_IsMarked.f a0).bind fun t135 => (if t135 = true then (if (⟨#[110, 111, 110, 101]⟩ : ByteArray).size + 1 ≤ 9223372036854775807 then (some ((⟨#[110, 111, 110, 101]⟩ : ByteArray) ++ (⟨#[42]⟩ : ByteArray))) else (none)) else (some (⟨#[110, 111, 110, 101]⟩ : ByteArray)))) = some r := by rw [if_neg (show ¬ (false = true) by decide)] at H; exact H
          clear H
          have H := H1
          clear H1
          replace H := Option.bind_eq_some_iff.mp H
          obtain ⟨t135, A200, H⟩ := H
          replace H : (if t135 = true then (if (⟨#[110, 111, 110, 101]⟩ : ByteArray).size + 1 ≤ 9223372036854775807 then (some ((⟨#[110, 111, 110, 101]⟩ : ByteArray) ++ (⟨#[42]⟩ : ByteArray))) else (none)) else (some (⟨#[110, 111, 110, 101]⟩ : ByteArray))) = some r := H
          have A20 := Aside0.mk A200
          clear A200
          by_cases c21 : t135 = true
          · subst c21
            have H1 : (if (⟨#[110, 111, 110, 101]⟩ : ByteArray).size + 1 ≤ 9223372036854775807 then (some ((⟨#[110, 111, 110, 101]⟩ : ByteArray) ++ (⟨#[42]⟩ : ByteArray))) else (none)) = some r := by rw [if_pos rfl] at H; exact H
            clear H
            have H := H1
            clear H1
            by_cases c22 : (⟨#[110, 111, 110, 101]⟩ : ByteArray).size + 1 ≤ 9223372036854775807
            · rw [if_pos c22] at H
              have c22b0 := eq_true c22
              have c22b1 : decide ((⟨#[110, 111, 110, 101]⟩ : ByteArray).size + 1 ≤ 9223372036854775807) = true := decide_eq_true c22
              try have c22b2 : (9223372036854775807 < (⟨#[110, 111, 110, 101]⟩ : ByteArray).size + 1) = False := eq_false (Nat.not_lt.2 c22)
              obtain rfl := Option.some.inj H
              go_wp2_with (first | ((with_reducible refine gate_callee (f := 63) rfl ?_); refine goesL_ (some 23) rfl rfl Tryd.func63 (by kernel_rfl) rfl #[.int .i64 a0] rfl (by (try simp only [List.map_toArray, List.map_cons, List.map_nil]); first | done | rfl | (simp only [List.length_drop, List.length_take]; rfl)) ?_; (with_reducible refine (impl_IsMarked.calls a0 true _ A20.out).mono ?_); rintro e w' ⟨rfl, ⟨nd, rfl⟩⟩; refine ⟨_, rfl, ?_⟩))
              go_ret
              exact ⟨by first | rfl | (refine congrArg Ending.returned (congrArg Value.bool ?_); generalize ByteArray.toList _ = l_; cases l_ <;> rfl) | (simp [errW_none, errW_some] <;> rfl) | (simp [*, errW_none, errW_some] <;> rfl), by repeat (first | (with_reducible first | exact HB.out | apply below_alloc | apply pw_below_drewN | apply below_drew1) | exact HB.out)⟩
            · rw [if_neg c22] at H
              exact absurd H (by simp)
          · replace c21 := Bool.eq_false_iff.mpr c21
            subst c21
            have H1 : (some (⟨#[110, 111, 110, 101]⟩ : ByteArray)) = some r := by rw [if_neg (show ¬ (false = true) by decide)] at H; exact H
            clear H
            have H := H1
            clear H1
            obtain rfl := Option.some.inj H
            go_wp2_with (first | ((with_reducible refine gate_callee (f := 63) rfl ?_); refine goesL_ (some 23) rfl rfl Tryd.func63 (by kernel_rfl) rfl #[.int .i64 a0] rfl (by (try simp only [List.map_toArray, List.map_cons, List.map_nil]); first | done | rfl | (simp only [List.length_drop, List.length_take]; rfl)) ?_; (with_reducible refine (impl_IsMarked.calls a0 false _ A20.out).mono ?_); rintro e w' ⟨rfl, ⟨nd, rfl⟩⟩; refine ⟨_, rfl, ?_⟩))
            go_ret
            exact ⟨by first | rfl | (refine congrArg Ending.returned (congrArg Value.bool ?_); generalize ByteArray.toList _ = l_; cases l_ <;> rfl) | (simp [errW_none, errW_some] <;> rfl) | (simp [*, errW_none, errW_some] <;> rfl), by repeat (first | (with_reducible first | exact HB.out | apply below_alloc | apply pw_below_drewN | apply below_drew1) | exact HB.out)⟩

/-! ### laws_FnExactFormatHandle: function 6 -/
def laws_FnExactFormatHandle.f (k : Nat) (a0 : Int) : Option (Bool) := (spec_FormatHandle.f k a0).bind fun t136 => ((impl_FormatHandle.f k a0).bind fun t137 => (if t137.toList = t136.toList then (some true) else (some false)))
theorem laws_FnExactFormatHandle.mono : ∀ a0 k, LeO (laws_FnExactFormatHandle.f k a0) (laws_FnExactFormatHandle.f (k + 1) a0) := by
  intro a0 k
  unfold laws_FnExactFormatHandle.f
  repeat' first
      | (with_reducible exact impl_FormatHandle.mono _ _)
      | (with_reducible exact spec_FormatHandle.mono _ _)
      | (with_reducible exact LeO.refl _)
      | (with_reducible exact LeO.none _)
      | (with_reducible refine LeO.ite ?_ ?_)
      | (with_reducible refine LeO.bind ?_ (fun _ => ?_))
      | exact impl_FormatHandle.mono _ _
      | exact spec_FormatHandle.mono _ _
      | exact LeO.none _
      | refine LeO.ite ?_ ?_
      | refine LeO.bind ?_ (fun _ => ?_)
set_option maxHeartbeats 8000000 in
set_option maxRecDepth 100000 in
theorem laws_FnExactFormatHandle.calls (k : Nat) (a0 : Int) (r : Bool) (w : World) (hF : Fit w) (h : laws_FnExactFormatHandle.f k a0 = some r) :
    Calls Tryd.prog 6 #[.int .i64 a0] w fun e w' => e = .returned (.bool r) ∧ Below w.heap.size w w' := by
  have HF := Aside0.mk hF
  clear hF
  have HB := Aside0.mk (Below.refl w.heap.size w)
  have H : ((spec_FormatHandle.f k a0).bind fun t136 => ((impl_FormatHandle.f k a0).bind fun t137 => (if t137.toList = t136.toList then (some true) else (some false)))) = some r := h
  clear h
  replace H := Option.bind_eq_some_iff.mp H
  obtain ⟨t136, A20, H⟩ := H
  replace H : ((impl_FormatHandle.f k a0).bind fun t137 => (if t137.toList = t136.toList then (some true) else (some false))) = some r := H
  have A2 := Aside0.mk A20
  clear A20
  replace H := Option.bind_eq_some_iff.mp H
  obtain ⟨t137, A30, H⟩ := H
  replace H : (if t137.toList = t136.toList then (some true) else (some false)) = some r := H
  have A3 := Aside0.mk A30
  clear A30
  by_cases c4 : t137.toList = t136.toList
  · rw [if_pos c4] at H
    have c4b0 : (t137.toList == t136.toList) = true := beq_iff_eq.mpr c4
    have c4b1 : (t137.toList != t136.toList) = false := bne_eq_false_iff_eq.mpr c4
    clear c4
    obtain rfl := Option.some.inj H
    go_enter Tryd.func6, Tryd.ntmps6
    go_wp2_with (first | ((with_reducible refine gate_callee (f := 20) rfl ?_); refine goesL_ (some 6) rfl rfl Tryd.func20 (by kernel_rfl) rfl #[.int .i64 a0] rfl (by (try simp only [List.map_toArray, List.map_cons, List.map_nil]); first | done | rfl | (simp only [List.length_drop, List.length_take]; rfl)) ?_; (with_reducible refine (spec_FormatHandle.calls k a0 t136 _ A2.out).mono ?_); rintro e w5 ⟨rfl, hb⟩; refine ⟨_, rfl, ?_⟩; have n0_ := Aside0.mk (below_step (by repeat (first | (with_reducible first | exact HB.out | apply below_alloc | apply pw_below_drewN | apply below_drew1) | exact HB.out)) hb); clear HB; have HB := n0_; clear n0_; (try clear hb); (try clear hb2); (try clear hk); (try clear hi)) | ((with_reducible refine gate_callee (f := 21) rfl ?_); refine goesL_ (some 8) rfl rfl Tryd.func21 (by kernel_rfl) rfl #[.int .i64 a0] rfl (by (try simp only [List.map_toArray, List.map_cons, List.map_nil]); first | done | rfl | (simp only [List.length_drop, List.length_take]; rfl)) ?_; (with_reducible refine (impl_FormatHandle.calls (hF := Fit.below HF.out (by repeat (first | (with_reducible first | exact HB.out | apply below_alloc | apply pw_below_drewN | apply below_drew1) | exact HB.out))) k a0 t137 _ A3.out).mono ?_); rintro e w6 ⟨rfl, hb⟩; refine ⟨_, rfl, ?_⟩; have n0_ := Aside0.mk (below_step (by repeat (first | (with_reducible first | exact HB.out | apply below_alloc | apply pw_below_drewN | apply below_drew1) | exact HB.out)) hb); clear HB; have HB := n0_; clear n0_; (try clear hb); (try clear hb2); (try clear hk); (try clear hi)))
    go_ret
    exact ⟨by first | rfl | (refine congrArg Ending.returned (congrArg Value.bool ?_); generalize ByteArray.toList _ = l_; cases l_ <;> rfl) | (simp [errW_none, errW_some] <;> rfl) | (simp [*, errW_none, errW_some] <;> rfl), by repeat (first | (with_reducible first | exact HB.out | apply below_alloc | apply pw_below_drewN | apply below_drew1) | exact HB.out)⟩
  · rw [if_neg c4] at H
    have c4b0 : (t137.toList == t136.toList) = false := beq_eq_false_iff_ne.mpr c4
    have c4b1 : (t137.toList != t136.toList) = true := bne_iff_ne.mpr c4
    obtain rfl := Option.some.inj H
    go_enter Tryd.func6, Tryd.ntmps6
    go_wp2_with (first | ((with_reducible refine gate_callee (f := 20) rfl ?_); refine goesL_ (some 6) rfl rfl Tryd.func20 (by kernel_rfl) rfl #[.int .i64 a0] rfl (by (try simp only [List.map_toArray, List.map_cons, List.map_nil]); first | done | rfl | (simp only [List.length_drop, List.length_take]; rfl)) ?_; (with_reducible refine (spec_FormatHandle.calls k a0 t136 _ A2.out).mono ?_); rintro e w7 ⟨rfl, hb⟩; refine ⟨_, rfl, ?_⟩; have n0_ := Aside0.mk (below_step (by repeat (first | (with_reducible first | exact HB.out | apply below_alloc | apply pw_below_drewN | apply below_drew1) | exact HB.out)) hb); clear HB; have HB := n0_; clear n0_; (try clear hb); (try clear hb2); (try clear hk); (try clear hi)) | ((with_reducible refine gate_callee (f := 21) rfl ?_); refine goesL_ (some 8) rfl rfl Tryd.func21 (by kernel_rfl) rfl #[.int .i64 a0] rfl (by (try simp only [List.map_toArray, List.map_cons, List.map_nil]); first | done | rfl | (simp only [List.length_drop, List.length_take]; rfl)) ?_; (with_reducible refine (impl_FormatHandle.calls (hF := Fit.below HF.out (by repeat (first | (with_reducible first | exact HB.out | apply below_alloc | apply pw_below_drewN | apply below_drew1) | exact HB.out))) k a0 t137 _ A3.out).mono ?_); rintro e w8 ⟨rfl, hb⟩; refine ⟨_, rfl, ?_⟩; have n0_ := Aside0.mk (below_step (by repeat (first | (with_reducible first | exact HB.out | apply below_alloc | apply pw_below_drewN | apply below_drew1) | exact HB.out)) hb); clear HB; have HB := n0_; clear n0_; (try clear hb); (try clear hb2); (try clear hk); (try clear hi)))
    go_ret
    exact ⟨by first | rfl | (refine congrArg Ending.returned (congrArg Value.bool ?_); generalize ByteArray.toList _ = l_; cases l_ <;> rfl) | (simp [errW_none, errW_some] <;> rfl) | (simp [*, errW_none, errW_some] <;> rfl), by repeat (first | (with_reducible first | exact HB.out | apply below_alloc | apply pw_below_drewN | apply below_drew1) | exact HB.out)⟩

/-- THE ONE PURE STATEMENT of laws_FnExactFormatHandle: yours. -/
def laws_FnExactFormatHandle.Pure : Prop := ∀ (a0 : Int), (Lit.int .i64 a0).wf = true → ∃ k, laws_FnExactFormatHandle.f k a0 = some true

end Go.Proofs.YtbenihcaleiacaaDoor.GFnExactFormatHandle
