/- Of each Go function that the law FnIntegerEncodings reaches: a Lean function, and the proof that the call comes to just its answer; written by a turned copy of the kit's printer, with contracts typed by hand for functions that it does not take. No condition. -/
import Derived.Test.YtbenihcaleiacabDoorGFnIntegerEncodingsx0
import Derived.Test.YtbenihcaleiacabDoorGFnIntegerEncodingsx1
import Derived.Test.YtbenihcaleiacabDoorGFnIntegerEncodingsx2
import Derived.Test.YtbenihcaleiacabDoorGFnIntegerEncodingsx3
import Derived.Test.YtbenihcaleiacabDoorGFnIntegerEncodingsx4
namespace Go.Proofs.YtbenihcaleiacabDoor.GFnIntegerEncodings
open Go.RowKit Go.Proofs.YtbenihcaleiacabDoorW.PrintWords Go.Proofs.YtbenihcaleiacabDoorW.PrintLast Go.Proofs.YtbenihcaleiacabDoorW.PrintMore
attribute [local go_sem] max2_int min2_int max_two min_two max_three min_three max_four min_four   -- for this text's walks alone
set_option linter.unusedVariables false
set_option linter.unusedSimpArgs false

/-! ### laws_FnIntegerEncodings: function 4 -/
mutual
def laws_FnIntegerEncodings.j0 : Nat → List Int → ByteArray → Bool → Option (Bool)
  | 0, _, _, _ => none
  | k + 1, x0, x4, x57 => if x57 = true then (none) else ((spec_DrawEncodeFixed.f k x0).bind fun bt241 => ((impl_EncodeFixed.f k bt241.1 bt241.2).bind fun t243 => (if t243.size + x4.size ≤ 9223372036854775807 then ((impl_DecodeFixed.f k (t243 ++ x4) bt241.2).bind fun bt244 => (if t243.toList = ([] : List UInt8) then ((spec_EncodeFixed.f k bt241.1 bt241.2).bind fun t246 => (laws_FnIntegerEncodings.j1 k x4 bt241.1 ((t243.toList != ([] : List UInt8)) != (t246.toList != ([] : List UInt8))))) else (if bt244.2 = true then (if bt244.1 = bt241.1 then (if (t243.size : Int) = bt241.2 then ((spec_EncodeFixed.f k bt241.1 bt241.2).bind fun t247 => (laws_FnIntegerEncodings.j1 k x4 bt241.1 ((t243.toList != ([] : List UInt8)) != (t247.toList != ([] : List UInt8))))) else (laws_FnIntegerEncodings.j1 k x4 bt241.1 true)) else (laws_FnIntegerEncodings.j1 k x4 bt241.1 true)) else (laws_FnIntegerEncodings.j1 k x4 bt241.1 true)))) else (none))))
def laws_FnIntegerEncodings.j1 : Nat → ByteArray → Int → Bool → Option (Bool)
  | 0, _, _, _ => none
  | k + 1, x4, x8, x99 => if x99 = true then (none) else ((impl_EncodeHex.f k x4).bind fun t248 => ((impl_DecodeHex.f k t248).bind fun bt249 => ((impl_FormatInt.f x8).bind fun t251 => ((impl_ParseInt.f t251).bind fun bt252 => (if bt249.2 = true then (if bt249.1.toList = x4.toList then (if (t248.size : Int) = (wrap64 (2 * (x4.size : Int))) then ((spec_FormatInt.f k x8).bind fun t254 => (if t251.toList = t254.toList then (if bt252.2 = true then (if bt252.1 = x8 then (if x8 > (-1000000000) then (some (bt252.2 == (decide (x8 < 1000000000)))) else (some (bt252.2 == false))) else (none)) else (if x8 > (-1000000000) then (some (bt252.2 == (decide (x8 < 1000000000)))) else (some (bt252.2 == false)))) else (none))) else (none)) else (none)) else (none))))))
end
def laws_FnIntegerEncodings.f (k : Nat) (l0 : List Int) : Option (Bool) := (laws_big.f l0).bind fun t235 => (if t235 = true then (some true) else ((spec_DrawEncodeVarint.f k l0).bind fun t236 => ((spec_DrawEncodeHex.f k l0).bind fun t237 => ((impl_EncodeVarint.f k t236).bind fun t238 => (if t238.size + t237.size ≤ 9223372036854775807 then ((impl_DecodeVarint.f k (t238 ++ t237)).bind fun bt239 => (if t236 ≥ 0 then (if ((t238.toList != ([] : List UInt8)) != (decide (t236 ≤ 562949953421311))) = true then (laws_FnIntegerEncodings.j0 k l0 t237 true) else (if t238.toList = ([] : List UInt8) then (laws_FnIntegerEncodings.j0 k l0 t237 false) else (if bt239.1 = t236 then (laws_FnIntegerEncodings.j0 k l0 t237 (bt239.2 != (t238.size : Int))) else (laws_FnIntegerEncodings.j0 k l0 t237 true)))) else (if ((t238.toList != ([] : List UInt8)) != false) = true then (laws_FnIntegerEncodings.j0 k l0 t237 true) else (if t238.toList = ([] : List UInt8) then (laws_FnIntegerEncodings.j0 k l0 t237 false) else (if bt239.1 = t236 then (laws_FnIntegerEncodings.j0 k l0 t237 (bt239.2 != (t238.size : Int))) else (laws_FnIntegerEncodings.j0 k l0 t237 true)))))) else (none))))))
theorem laws_FnIntegerEncodings.j0_true : ∀ k y0 y1, laws_FnIntegerEncodings.j0 k y0 y1 true = none
  | 0, _, _ => rfl
  | k + 1, _, _ => by simp only [laws_FnIntegerEncodings.j0, if_true]
theorem laws_FnIntegerEncodings.j1_true : ∀ k y0 y1, laws_FnIntegerEncodings.j1 k y0 y1 true = none
  | 0, _, _ => rfl
  | k + 1, _, _ => by simp only [laws_FnIntegerEncodings.j1, if_true]
theorem laws_FnIntegerEncodings.mono_l : ∀ k, (∀ y0 y1 y2, LeO (laws_FnIntegerEncodings.j0 k y0 y1 y2) (laws_FnIntegerEncodings.j0 (k + 1) y0 y1 y2)) ∧ (∀ y0 y1 y2, LeO (laws_FnIntegerEncodings.j1 k y0 y1 y2) (laws_FnIntegerEncodings.j1 (k + 1) y0 y1 y2))
  | 0 => ⟨fun _ _ _ r h => by simp [laws_FnIntegerEncodings.j0] at h, fun _ _ _ r h => by simp [laws_FnIntegerEncodings.j1] at h⟩
  | k + 1 => by
    obtain ⟨ih0, ih1⟩ := laws_FnIntegerEncodings.mono_l k
    refine ⟨?_, ?_⟩
    · intro y0 y1 y2
      unfold laws_FnIntegerEncodings.j0
      repeat' first
      | (with_reducible exact ih0 _ _ _)
      | (with_reducible exact ih1 _ _ _)
      | (with_reducible exact impl_DecodeFixed.mono _ _ _)
      | (with_reducible exact impl_DecodeHex.mono _ _)
      | (with_reducible exact impl_DecodeVarint.mono _ _)
      | (with_reducible exact impl_EncodeFixed.mono _ _ _)
      | (with_reducible exact impl_EncodeHex.mono _ _)
      | (with_reducible exact impl_EncodeVarint.mono _ _)
      | (with_reducible exact spec_DrawEncodeFixed.mono _ _)
      | (with_reducible exact spec_DrawEncodeHex.mono _ _)
      | (with_reducible exact spec_DrawEncodeVarint.mono _ _)
      | (with_reducible exact spec_EncodeFixed.mono _ _ _)
      | (with_reducible exact spec_FormatInt.mono _ _)
      | (with_reducible exact LeO.refl _)
      | (with_reducible exact LeO.none _)
      | (with_reducible refine LeO.ite ?_ ?_)
      | (with_reducible refine LeO.bind ?_ (fun _ => ?_))
      | exact ih0 _ _ _
      | exact ih1 _ _ _
      | exact impl_DecodeFixed.mono _ _ _
      | exact impl_DecodeHex.mono _ _
      | exact impl_DecodeVarint.mono _ _
      | exact impl_EncodeFixed.mono _ _ _
      | exact impl_EncodeHex.mono _ _
      | exact impl_EncodeVarint.mono _ _
      | exact spec_DrawEncodeFixed.mono _ _
      | exact spec_DrawEncodeHex.mono _ _
      | exact spec_DrawEncodeVarint.mono _ _
      | exact spec_EncodeFixed.mono _ _ _
      | exact spec_FormatInt.mono _ _
      | exact LeO.none _
      | refine LeO.ite ?_ ?_
      | refine LeO.bind ?_ (fun _ => ?_)
    · intro y0 y1 y2
      unfold laws_FnIntegerEncodings.j1
      repeat' first
      | (with_reducible exact ih0 _ _ _)
      | (with_reducible exact ih1 _ _ _)
      | (with_reducible exact impl_DecodeFixed.mono _ _ _)
      | (with_reducible exact impl_DecodeHex.mono _ _)
      | (with_reducible exact impl_DecodeVarint.mono _ _)
      | (with_reducible exact impl_EncodeFixed.mono _ _ _)
      | (with_reducible exact impl_EncodeHex.mono _ _)
      | (with_reducible exact impl_EncodeVarint.mono _ _)
      | (with_reducible exact spec_DrawEncodeFixed.mono _ _)
      | (with_reducible exact spec_DrawEncodeHex.mono _ _)
      | (with_reducible exact spec_DrawEncodeVarint.mono _ _)
      | (with_reducible exact spec_EncodeFixed.mono _ _ _)
      | (with_reducible exact spec_FormatInt.mono _ _)
      | (with_reducible exact LeO.refl _)
      | (with_reducible exact LeO.none _)
      | (with_reducible refine LeO.ite ?_ ?_)
      | (with_reducible refine LeO.bind ?_ (fun _ => ?_))
      | exact ih0 _ _ _
      | exact ih1 _ _ _
      | exact impl_DecodeFixed.mono _ _ _
      | exact impl_DecodeHex.mono _ _
      | exact impl_DecodeVarint.mono _ _
      | exact impl_EncodeFixed.mono _ _ _
      | exact impl_EncodeHex.mono _ _
      | exact impl_EncodeVarint.mono _ _
      | exact spec_DrawEncodeFixed.mono _ _
      | exact spec_DrawEncodeHex.mono _ _
      | exact spec_DrawEncodeVarint.mono _ _
      | exact spec_EncodeFixed.mono _ _ _
      | exact spec_FormatInt.mono _ _
      | exact LeO.none _
      | refine LeO.ite ?_ ?_
      | refine LeO.bind ?_ (fun _ => ?_)
theorem laws_FnIntegerEncodings.mono : ∀ a0 k, LeO (laws_FnIntegerEncodings.f k a0) (laws_FnIntegerEncodings.f (k + 1) a0) := by
  intro a0 k
  obtain ⟨ih0, ih1⟩ := laws_FnIntegerEncodings.mono_l k
  unfold laws_FnIntegerEncodings.f
  repeat' first
      | (with_reducible exact ih0 _ _ _)
      | (with_reducible exact ih1 _ _ _)
      | (with_reducible exact impl_DecodeFixed.mono _ _ _)
      | (with_reducible exact impl_DecodeHex.mono _ _)
      | (with_reducible exact impl_DecodeVarint.mono _ _)
      | (with_reducible exact impl_EncodeFixed.mono _ _ _)
      | (with_reducible exact impl_EncodeHex.mono _ _)
      | (with_reducible exact impl_EncodeVarint.mono _ _)
      | (with_reducible exact spec_DrawEncodeFixed.mono _ _)
      | (with_reducible exact spec_DrawEncodeHex.mono _ _)
      | (with_reducible exact spec_DrawEncodeVarint.mono _ _)
      | (with_reducible exact spec_EncodeFixed.mono _ _ _)
      | (with_reducible exact spec_FormatInt.mono _ _)
      | (with_reducible exact LeO.refl _)
      | (with_reducible exact LeO.none _)
      | (with_reducible refine LeO.ite ?_ ?_)
      | (with_reducible refine LeO.bind ?_ (fun _ => ?_))
      | exact ih0 _ _ _
      | exact ih1 _ _ _
      | exact impl_DecodeFixed.mono _ _ _
      | exact impl_DecodeHex.mono _ _
      | exact impl_DecodeVarint.mono _ _
      | exact impl_EncodeFixed.mono _ _ _
      | exact impl_EncodeHex.mono _ _
      | exact impl_EncodeVarint.mono _ _
      | exact spec_DrawEncodeFixed.mono _ _
      | exact spec_DrawEncodeHex.mono _ _
      | exact spec_DrawEncodeVarint.mono _ _
      | exact spec_EncodeFixed.mono _ _ _
      | exact spec_FormatInt.mono _ _
      | exact LeO.none _
      | refine LeO.ite ?_ ?_
      | refine LeO.bind ?_ (fun _ => ?_)
set_option maxHeartbeats 8000000 in
set_option maxRecDepth 100000 in
theorem laws_FnIntegerEncodings.calls (k : Nat) (A0 : Option Addr) (c0 : Nat) (l0 : List Int) (r : Bool) (w : World) (hr0 : Kd.C (Kd.int .u8) w A0 l0.length l0) (hc0 : l0.length ≤ c0) (hF : Fit w) (h : laws_FnIntegerEncodings.f k l0 = some r) :
    Calls Tryd.prog 4 #[.slice A0 l0.length c0] w fun e w' => e = .returned (.bool r) ∧ Below w.heap.size w w' := by
  have HF := Aside0.mk hF
  clear hF
  have HR0 := Aside0.mk hr0
  have HC0 := Aside0.mk hc0
  clear hr0 hc0
  have HB := Aside0.mk (Below.refl w.heap.size w)
  have H : ((laws_big.f l0).bind fun t235 => (if t235 = true then (some true) else ((spec_DrawEncodeVarint.f k l0).bind fun t236 => ((spec_DrawEncodeHex.f k l0).bind fun t237 => ((impl_EncodeVarint.f k t236).bind fun t238 => (if t238.size + t237.size ≤ 9223372036854775807 then ((impl_DecodeVarint.f k (t238 ++ t237)).bind fun bt239 => (if t236 ≥ 0 then (if ((t238.toList != ([] : List UInt8)) != (decide (t236 ≤ 562949953421311))) = true then (laws_FnIntegerEncodings.j0 k l0 t237 true) else (if t238.toList = ([] : List UInt8) then (laws_FnIntegerEncodings.j0 k l0 t237 false) else (if bt239.1 = t236 then (laws_FnIntegerEncodings.j0 k l0 t237 (bt239.2 != (t238.size : Int))) else (laws_FnIntegerEncodings.j0 k l0 t237 true)))) else (if ((t238.toList != ([] : List UInt8)) != false) = true then (laws_FnIntegerEncodings.j0 k l0 t237 true) else (if t238.toList = ([] : List UInt8) then (laws_FnIntegerEncodings.j0 k l0 t237 false) else (if bt239.1 = t236 then (laws_FnIntegerEncodings.j0 k l0 t237 (bt239.2 != (t238.size : Int))) else (laws_FnIntegerEncodings.j0 k l0 t237 true)))))) else (none))))))) = some r := h
  clear h
  replace H := Option.bind_eq_some_iff.mp H
  obtain ⟨t235, A20, H⟩ := H
  replace H : (if t235 = true then (some true) else ((spec_DrawEncodeVarint.f k l0).bind fun t236 => ((spec_DrawEncodeHex.f k l0).bind fun t237 => ((impl_EncodeVarint.f k t236).bind fun t238 => (if t238.size + t237.size ≤ 9223372036854775807 then ((impl_DecodeVarint.f k (t238 ++ t237)).bind fun bt239 => (if t236 ≥ 0 then (if ((t238.toList != ([] : List UInt8)) != (decide (t236 ≤ 562949953421311))) = true then (laws_FnIntegerEncodings.j0 k l0 t237 true) else (if t238.toList = ([] : List UInt8) then (laws_FnIntegerEncodings.j0 k l0 t237 false) else (if bt239.1 = t236 then (laws_FnIntegerEncodings.j0 k l0 t237 (bt239.2 != (t238.size : Int))) else (laws_FnIntegerEncodings.j0 k l0 t237 true)))) else (if ((t238.toList != ([] : List UInt8)) != false) = true then (laws_FnIntegerEncodings.j0 k l0 t237 true) else (if t238.toList = ([] : List UInt8) then (laws_FnIntegerEncodings.j0 k l0 t237 false) else (if bt239.1 = t236 then (laws_FnIntegerEncodings.j0 k l0 t237 (bt239.2 != (t238.size : Int))) else (laws_FnIntegerEncodings.j0 k l0 t237 true)))))) else (none)))))) = some r := H
  have A2 := Aside0.mk A20
  clear A20
  by_cases c3 : t235 = true
  · subst c3
    have H1 : (some true) = some r := by rw [if_pos rfl] at H; exact H
    clear H
    have H := H1
    clear H1
    obtain rfl := Option.some.inj H
    go_enter Tryd.func4, Tryd.ntmps4
    go_wp2_with (first | ((with_reducible refine gate_callee (f := 13) rfl ?_); refine goesL_ (some 20) rfl rfl Tryd.func13 (by kernel_rfl) rfl #[.slice A0 l0.length c0] rfl (by (try simp only [List.map_toArray, List.map_cons, List.map_nil]); first | done | rfl | (simp only [List.length_drop, List.length_take]; rfl)) ?_; (with_reducible refine (laws_big.calls _ _ l0 true _ ?side1 ?side2 A2.out).mono ?_); (case side1 => repeat (first | exact HR0.out | (with_reducible refine Kd.C_alloc ?_ _) | (with_reducible refine Kd.C_drewN ?_ _) | (with_reducible refine Kd.C_drew ?_))); (case side2 => exact HC0.out); rintro e w' ⟨rfl, ⟨nd, rfl⟩⟩; refine ⟨_, rfl, ?_⟩))
    go_ret
    exact ⟨by first | rfl | (refine congrArg Ending.returned (congrArg Value.bool ?_); generalize ByteArray.toList _ = l_; cases l_ <;> rfl) | (simp [errW_none, errW_some] <;> rfl) | (simp [*, errW_none, errW_some] <;> rfl), by repeat (first | (with_reducible first | exact HB.out | apply below_alloc | apply pw_below_drewN | apply below_drew1) | exact HB.out)⟩
  · replace c3 := Bool.eq_false_iff.mpr c3
    subst c3
    have H1 : ((spec_DrawEncodeVarint.f k l0).bind fun t236 => ((spec_DrawEncodeHex.f k l0).bind fun t237 => ((impl_EncodeVarint.f k t236).bind fun t238 => (if t238.size + t237.size ≤ 9223372036854775807 then ((impl_DecodeVarint.f k (t238 ++ t237)).bind fun bt239 => (if t236 ≥ 0 then (if ((t238.toList != ([] : List UInt8)) != (decide (t236 ≤ 562949953421311))) = true then (laws_FnIntegerEncodings.j0 k l0 t237 true) else (if t238.toList = ([] : List UInt8) then (laws_FnIntegerEncodings.j0 k l0 t237 false) else (if bt239.1 = t236 then (laws_FnIntegerEncodings.j0 k l0 t237 (bt239.2 != (t238.size : Int))) else (laws_FnIntegerEncodings.j0 k l0 t237 true)))) else (if ((t238.toList != ([] : List UInt8)) != false) = true then (laws_FnIntegerEncodings.j0 k l0 t237 true) else (if t238.toList = ([] : List UInt8) then (laws_FnIntegerEncodings.j0 k l0 t237 false) else (if bt239.1 = t236 then (laws_FnIntegerEncodings.j0 k l0 t237 (bt239.2 != (t238.size : Int))) else (laws_FnIntegerEncodings.j0 k l0 t237 true)))))) else (none))))) = some r := by rw [if_neg (show ¬ (false = true) by decide)] at H; exact H
    clear H
    have H := H1
    clear H1
    replace H := Option.bind_eq_some_iff.mp H
    obtain ⟨t236, A40, H⟩ := H
    replace H : ((spec_DrawEncodeHex.f k l0).bind fun t237 => ((impl_EncodeVarint.f k t236).bind fun t238 => (if t238.size + t237.size ≤ 9223372036854775807 then ((impl_DecodeVarint.f k (t238 ++ t237)).bind fun bt239 => (if t236 ≥ 0 then (if ((t238.toList != ([] : List UInt8)) != (decide (t236 ≤ 562949953421311))) = true then (laws_FnIntegerEncodings.j0 k l0 t237 true) else (if t238.toList = ([] : List UInt8) then (laws_FnIntegerEncodings.j0 k l0 t237 false) else (if bt239.1 = t236 then (laws_FnIntegerEncodings.j0 k l0 t237 (bt239.2 != (t238.size : Int))) else (laws_FnIntegerEncodings.j0 k l0 t237 true)))) else (if ((t238.toList != ([] : List UInt8)) != false) = true then (laws_FnIntegerEncodings.j0 k l0 t237 true) else (if t238.toList = ([] : List UInt8) then (laws_FnIntegerEncodings.j0 k l0 t237 false) else (if bt239.1 = t236 then (laws_FnIntegerEncodings.j0 k l0 t237 (bt239.2 != (t238.size : Int))) else (laws_FnIntegerEncodings.j0 k l0 t237 true)))))) else (none)))) = some r := H
    have A4 := Aside0.mk A40
    clear A40
    replace H := Option.bind_eq_some_iff.mp H
    obtain ⟨t237, A50, H⟩ := H
    replace H : ((impl_EncodeVarint.f k t236).bind fun t238 => (if t238.size + t237.size ≤ 9223372036854775807 then ((impl_DecodeVarint.f k (t238 ++ t237)).bind fun bt239 => (if t236 ≥ 0 then (if ((t238.toList != ([] : List UInt8)) != (decide (t236 ≤ 562949953421311))) = true then (laws_FnIntegerEncodings.j0 k l0 t237 true) else (if t238.toList = ([] : List UInt8) then (laws_FnIntegerEncodings.j0 k l0 t237 false) else (if bt239.1 = t236 then (laws_FnIntegerEncodings.j0 k l0 t237 (bt239.2 != (t238.size : Int))) else (laws_FnIntegerEncodings.j0 k l0 t237 true)))) else (if ((t238.toList != ([] : List UInt8)) != false) = true then (laws_FnIntegerEncodings.j0 k l0 t237 true) else (if t238.toList = ([] : List UInt8) then (laws_FnIntegerEncodings.j0 k l0 t237 false) else (if bt239.1 = t236 then (laws_FnIntegerEncodings.j0 k l0 t237 (bt239.2 != (t238.size : Int))) else (laws_FnIntegerEncodings.j0 k l0 t237 true)))))) else (none))) = some r := H
    have A5 := Aside0.mk A50
    clear A50
    replace H := Option.bind_eq_some_iff.mp H
    obtain ⟨t238, A60, H⟩ := H
    replace H : (if t238.size + t237.size ≤ 9223372036854775807 then ((impl_DecodeVarint.f k (t238 ++ t237)).bind fun bt239 => (if t236 ≥ 0 then (if ((t238.toList != ([] : List UInt8)) != (decide (t236 ≤ 562949953421311))) = true then (laws_FnIntegerEncodings.j0 k l0 t237 true) else (if t238.toList = ([] : List UInt8) then (laws_FnIntegerEncodings.j0 k l0 t237 false) else (if bt239.1 = t236 then (laws_FnIntegerEncodings.j0 k l0 t237 (bt239.2 != (t238.size : Int))) else (laws_FnIntegerEncodings.j0 k l0 t237 true)))) else (if ((t238.toList != ([] : List UInt8)) != false) = true then (laws_FnIntegerEncodings.j0 k l0 t237 true) else (if t238.toList = ([] : List UInt8) then (laws_FnIntegerEncodings.j0 k l0 t237 false) else (if bt239.1 = t236 then (laws_FnIntegerEncodings.j0 k l0 t237 (bt239.2 != (t238.size : Int))) else (laws_FnIntegerEncodings.j0 k l0 t237 true)))))) else (none)) = some r := H
    have A6 := Aside0.mk A60
    clear A60
    by_cases c7 : t238.size + t237.size ≤ 9223372036854775807
    · rw [if_pos c7] at H
      have c7b0 := eq_true c7
      have c7b1 : decide (t238.size + t237.size ≤ 9223372036854775807) = true := decide_eq_true c7
      try have c7b2 : (9223372036854775807 < t238.size + t237.size) = False := eq_false (Nat.not_lt.2 c7)
      replace H := Option.bind_eq_some_iff.mp H
      obtain ⟨⟨t239, t240⟩, A80, H⟩ := H
      replace H : (if t236 ≥ 0 then (if ((t238.toList != ([] : List UInt8)) != (decide (t236 ≤ 562949953421311))) = true then (laws_FnIntegerEncodings.j0 k l0 t237 true) else (if t238.toList = ([] : List UInt8) then (laws_FnIntegerEncodings.j0 k l0 t237 false) else (if t239 = t236 then (laws_FnIntegerEncodings.j0 k l0 t237 (t240 != (t238.size : Int))) else (laws_FnIntegerEncodings.j0 k l0 t237 true)))) else (if ((t238.toList != ([] : List UInt8)) != false) = true then (laws_FnIntegerEncodings.j0 k l0 t237 true) else (if t238.toList = ([] : List UInt8) then (laws_FnIntegerEncodings.j0 k l0 t237 false) else (if t239 = t236 then (laws_FnIntegerEncodings.j0 k l0 t237 (t240 != (t238.size : Int))) else (laws_FnIntegerEncodings.j0 k l0 t237 true))))) = some r := H
      have A8 := Aside0.mk A80
      clear A80
      have HC9 := Aside0.mk H
      clear H
      go_enter Tryd.func4, Tryd.ntmps4
      go_upto_region 7 with (first | ((with_reducible refine gate_callee (f := 13) rfl ?_); refine goesL_ (some 20) rfl rfl Tryd.func13 (by kernel_rfl) rfl #[.slice A0 l0.length c0] rfl (by (try simp only [List.map_toArray, List.map_cons, List.map_nil]); first | done | rfl | (simp only [List.length_drop, List.length_take]; rfl)) ?_; (with_reducible refine (laws_big.calls _ _ l0 false _ ?side1 ?side2 A2.out).mono ?_); (case side1 => repeat (first | exact HR0.out | (with_reducible refine Kd.C_alloc ?_ _) | (with_reducible refine Kd.C_drewN ?_ _) | (with_reducible refine Kd.C_drew ?_))); (case side2 => exact HC0.out); rintro e w' ⟨rfl, ⟨nd, rfl⟩⟩; refine ⟨_, rfl, ?_⟩) | ((with_reducible refine gate_callee (f := 14) rfl ?_); refine goesL_ (some 22) rfl rfl Tryd.func14 (by kernel_rfl) rfl #[.slice A0 l0.length c0] rfl (by (try simp only [List.map_toArray, List.map_cons, List.map_nil]); first | done | rfl | (simp only [List.length_drop, List.length_take]; rfl)) ?_; (with_reducible refine (spec_DrawEncodeVarint.calls k _ _ l0 t236 _ ?side1 ?side2 A4.out).mono ?_); (case side1 => repeat (first | exact HR0.out | (with_reducible refine Kd.C_alloc ?_ _) | (with_reducible refine Kd.C_drewN ?_ _) | (with_reducible refine Kd.C_drew ?_))); (case side2 => exact HC0.out); rintro e w10 ⟨rfl, hb⟩; refine ⟨_, rfl, ?_⟩; have n0_ := Aside0.mk (below_step (by repeat (first | (with_reducible first | exact HB.out | apply below_alloc | apply pw_below_drewN | apply below_drew1) | exact HB.out)) hb); clear HB; have HB := n0_; clear n0_; (try clear hb); (try clear hb2); (try clear hk); (try clear hi)) | ((with_reducible refine gate_callee (f := 15) rfl ?_); refine goesL_ (some 24) rfl rfl Tryd.func15 (by kernel_rfl) rfl #[.slice A0 l0.length c0] rfl (by (try simp only [List.map_toArray, List.map_cons, List.map_nil]); first | done | rfl | (simp only [List.length_drop, List.length_take]; rfl)) ?_; (with_reducible refine (spec_DrawEncodeHex.calls k _ _ l0 t237 _ ?side1 ?side2 A5.out).mono ?_); (case side1 => repeat (first | exact (Kd.C_below HR0.out HB.out) | (with_reducible refine Kd.C_alloc ?_ _) | (with_reducible refine Kd.C_drewN ?_ _) | (with_reducible refine Kd.C_drew ?_))); (case side2 => exact HC0.out); rintro e w11 ⟨rfl, hb⟩; refine ⟨_, rfl, ?_⟩; have n0_ := Aside0.mk (below_step (by repeat (first | (with_reducible first | exact HB.out | apply below_alloc | apply pw_below_drewN | apply below_drew1) | exact HB.out)) hb); clear HB; have HB := n0_; clear n0_; (try clear hb); (try clear hb2); (try clear hk); (try clear hi)) | ((with_reducible refine gate_callee (f := 16) rfl ?_); refine goesL_ (some 26) rfl rfl Tryd.func16 (by kernel_rfl) rfl #[.int .i64 t236] rfl (by (try simp only [List.map_toArray, List.map_cons, List.map_nil]); first | done | rfl | (simp only [List.length_drop, List.length_take]; rfl)) ?_; (with_reducible refine (impl_EncodeVarint.calls k t236 t238 _ A6.out).mono ?_); rintro e w12 ⟨rfl, hb⟩; refine ⟨_, rfl, ?_⟩; have n0_ := Aside0.mk (below_step (by repeat (first | (with_reducible first | exact HB.out | apply below_alloc | apply pw_below_drewN | apply below_drew1) | exact HB.out)) hb); clear HB; have HB := n0_; clear n0_; (try clear hb); (try clear hb2); (try clear hk); (try clear hi)) | ((with_reducible refine gate_callee (f := 17) rfl ?_); refine goesL_ (some 31) rfl rfl Tryd.func17 (by kernel_rfl) rfl #[.string (t238 ++ t237)] rfl (by (try simp only [List.map_toArray, List.map_cons, List.map_nil]); first | done | rfl | (simp only [List.length_drop, List.length_take]; rfl)) ?_; (with_reducible refine (impl_DecodeVarint.calls k (t238 ++ t237) t239 t240 _ A8.out).mono ?_); rintro e w13 ⟨rfl, hb⟩; refine ⟨_, rfl, ?_⟩; have n0_ := Aside0.mk (below_step (by repeat (first | (with_reducible first | exact HB.out | apply below_alloc | apply pw_below_drewN | apply below_drew1) | exact HB.out)) hb); clear HB; have HB := n0_; clear n0_; (try clear hb); (try clear hb2); (try clear hk); (try clear hi)))
      (try simp only [Act.put, List.setIfInBounds_toArray, List.set_cons_zero, List.set_cons_succ])
      go_cut [57] (fun v57 wc => ∃ (kq : Nat) (x57_8 : Bool), v57 = .bool x57_8 ∧ Aside0 (laws_FnIntegerEncodings.j0 kq l0 t237 x57_8 = some r) ∧ Aside0 (kq ≤ k) ∧ Aside0 (Below w.heap.size w wc))
      case first =>
        have H := HC9.out
        clear HC9
        by_cases c14 : t236 ≥ 0
        · rw [if_pos c14] at H
          have c14b0 : decide (0 ≤ t236) = true := decide_eq_true c14
          clear c14
          (first | rw [c14b0] | (simp only [i64_w, i32_w]; rw [c14b0]) | skip)
          by_cases c15 : ((t238.toList != ([] : List UInt8)) != (decide (t236 ≤ 562949953421311))) = true
          · rw [if_pos c15] at H
            have c15b0 : ((t238.toList != ([] : List UInt8)) != (decide (t236 ≤ 562949953421311))) = true := c15
            (try (have c15b1 : decide ((t238.toList != ([] : List UInt8)) = (decide (t236 ≤ 562949953421311))) = false := by simpa using c15))
            (try (have c15b2 : ((t238.toList != ([] : List UInt8)) == (decide (t236 ≤ 562949953421311))) = false := by simpa using c15))
            (try (have c15b3 : ¬ ((t238.toList != ([] : List UInt8)) = (decide (t236 ≤ 562949953421311))) := by simpa using c15))
            clear c15
            exact absurd H (by first | simp [laws_FnIntegerEncodings.j0_true] | simp [laws_FnIntegerEncodings.j1_true])
          · rw [if_neg c15] at H
            have c15b0 : ((t238.toList != ([] : List UInt8)) != (decide (t236 ≤ 562949953421311))) = false := by simpa using c15
            (try (have c15b1 : decide ((t238.toList != ([] : List UInt8)) = (decide (t236 ≤ 562949953421311))) = true := by simpa using c15))
            (try (have c15b2 : ((t238.toList != ([] : List UInt8)) == (decide (t236 ≤ 562949953421311))) = true := by simpa using c15))
            clear c15
            by_cases c16 : t238.toList = ([] : List UInt8)
            · rw [if_pos c16] at H
              have c16b0 : (t238.toList == ([] : List UInt8)) = true := beq_iff_eq.mpr c16
              have c16b1 : (t238.toList != ([] : List UInt8)) = false := bne_eq_false_iff_eq.mpr c16
              have c16d : decide (t236 ≤ 562949953421311) = false := by have h_ := c15b0; rw [c16b1] at h_; revert h_; cases (decide (t236 ≤ 562949953421311)) <;> simp
              clear c16
              have H' := Aside0.mk H
              clear H
              go_wp2
              go_meet
              case rel => exact ⟨_, (false), (by first | rfl | (simp; done) | (simp [*]; done) | (simp [*]; generalize ByteArray.toList _ = l_; cases l_ <;> rfl)), H', ⟨by first | omega | exact Nat.le_refl _⟩, ⟨by repeat (first | (with_reducible first | exact HB.out | apply below_alloc | apply pw_below_drewN | apply below_drew1) | exact HB.out)⟩⟩
            · rw [if_neg c16] at H
              have c16b0 : (t238.toList == ([] : List UInt8)) = false := beq_eq_false_iff_ne.mpr c16
              have c16b1 : (t238.toList != ([] : List UInt8)) = true := bne_iff_ne.mpr c16
              have c16d : decide (t236 ≤ 562949953421311) = true := by have h_ := c15b0; rw [c16b1] at h_; revert h_; cases (decide (t236 ≤ 562949953421311)) <;> simp
              by_cases c17 : t239 = t236
              · rw [if_pos c17] at H
                have c17b0 : (t239 == t236) = true := beq_iff_eq.mpr c17
                have c17b1 : (t239 != t236) = false := bne_eq_false_iff_eq.mpr c17
                clear c17
                have H' := Aside0.mk H
                clear H
                go_wp2
                go_meet
                case rel => exact ⟨_, ((t240 != (t238.size : Int))), (by first | rfl | (simp; done) | (simp [*]; done) | (simp [*]; generalize ByteArray.toList _ = l_; cases l_ <;> rfl)), H', ⟨by first | omega | exact Nat.le_refl _⟩, ⟨by repeat (first | (with_reducible first | exact HB.out | apply below_alloc | apply pw_below_drewN | apply below_drew1) | exact HB.out)⟩⟩
              · rw [if_neg c17] at H
                have c17b0 : (t239 == t236) = false := beq_eq_false_iff_ne.mpr c17
                have c17b1 : (t239 != t236) = true := bne_iff_ne.mpr c17
                exact absurd H (by first | simp [laws_FnIntegerEncodings.j0_true] | simp [laws_FnIntegerEncodings.j1_true])
        · rw [if_neg c14] at H
          have c14b0 : decide (0 ≤ t236) = false := decide_eq_false c14
          clear c14
          (first | rw [c14b0] | (simp only [i64_w, i32_w]; rw [c14b0]) | skip)
          by_cases c18 : ((t238.toList != ([] : List UInt8)) != false) = true
          · rw [if_pos c18] at H
            have c18b0 : ((t238.toList != ([] : List UInt8)) != false) = true := c18
            (try (have c18b1 : decide ((t238.toList != ([] : List UInt8)) = false) = false := by simpa using c18))
            (try (have c18b2 : ((t238.toList != ([] : List UInt8)) == false) = false := by simpa using c18))
            (try (have c18b3 : ¬ ((t238.toList != ([] : List UInt8)) = false) := by simpa using c18))
            clear c18
            exact absurd H (by first | simp [laws_FnIntegerEncodings.j0_true] | simp [laws_FnIntegerEncodings.j1_true])
          · rw [if_neg c18] at H
            have c18b0 : ((t238.toList != ([] : List UInt8)) != false) = false := by simpa using c18
            (try (have c18b1 : decide ((t238.toList != ([] : List UInt8)) = false) = true := by simpa using c18))
            (try (have c18b2 : ((t238.toList != ([] : List UInt8)) == false) = true := by simpa using c18))
            clear c18
            by_cases c19 : t238.toList = ([] : List UInt8)
            · rw [if_pos c19] at H
              have c19b0 : (t238.toList == ([] : List UInt8)) = true := beq_iff_eq.mpr c19
              have c19b1 : (t238.toList != ([] : List UInt8)) = false := bne_eq_false_iff_eq.mpr c19
              clear c19
              have H' := Aside0.mk H
              clear H
              go_wp2
              go_meet
              case rel => exact ⟨_, (false), (by first | rfl | (simp; done) | (simp [*]; done) | (simp [*]; generalize ByteArray.toList _ = l_; cases l_ <;> rfl)), H', ⟨by first | omega | exact Nat.le_refl _⟩, ⟨by repeat (first | (with_reducible first | exact HB.out | apply below_alloc | apply pw_below_drewN | apply below_drew1) | exact HB.out)⟩⟩
            · rw [if_neg c19] at H
              have c19b0 : (t238.toList == ([] : List UInt8)) = false := beq_eq_false_iff_ne.mpr c19
              have c19b1 : (t238.toList != ([] : List UInt8)) = true := bne_iff_ne.mpr c19
              exact absurd c18b0 (by rw [c19b1]; decide)
      case rest =>
        clear HC9
        try clear c1
        try clear c2
        try clear p2
        try clear c3
        try clear c4
        try clear c7
        try clear c7b0
        try clear c7b1
        try clear c7b2
        try clear c13
        try clear c14
        try clear c14b0
        try clear c15
        try clear c15b0
        try clear c15b1
        try clear c15b2
        try clear c16
        try clear c16b0
        try clear c16b1
        try clear c17
        try clear c17b0
        try clear c17b1
        try clear c18
        try clear c18b0
        try clear c18b1
        try clear c18b2
        try clear c19
        try clear c19b0
        try clear c19b1
        try clear c20
        try clear c20b0
        try clear c20b1
        obtain ⟨kq, x57_8, rfl, HA, HJ8, HB⟩ := hcut
        cases kq with
        | zero => exact absurd HA.out (by simp [laws_FnIntegerEncodings.j0])
        | succ kj8 =>
          have H := HA.out
          clear HA
          simp only [laws_FnIntegerEncodings.j0] at H
          by_cases c21 : x57_8 = true
          · subst c21
            have H1 : (none) = some r := by rw [if_pos rfl] at H; exact H
            clear H
            have H := H1
            clear H1
            exact absurd H (by simp)
          · replace c21 := Bool.eq_false_iff.mpr c21
            subst c21
            have H1 : ((spec_DrawEncodeFixed.f kj8 l0).bind fun bt241 => ((impl_EncodeFixed.f kj8 bt241.1 bt241.2).bind fun t243 => (if t243.size + t237.size ≤ 9223372036854775807 then ((impl_DecodeFixed.f kj8 (t243 ++ t237) bt241.2).bind fun bt244 => (if t243.toList = ([] : List UInt8) then ((spec_EncodeFixed.f kj8 bt241.1 bt241.2).bind fun t246 => (laws_FnIntegerEncodings.j1 kj8 t237 bt241.1 ((t243.toList != ([] : List UInt8)) != (t246.toList != ([] : List UInt8))))) else (if bt244.2 = true then (if bt244.1 = bt241.1 then (if (t243.size : Int) = bt241.2 then ((spec_EncodeFixed.f kj8 bt241.1 bt241.2).bind fun t247 => (laws_FnIntegerEncodings.j1 kj8 t237 bt241.1 ((t243.toList != ([] : List UInt8)) != (t247.toList != ([] : List UInt8))))) else (laws_FnIntegerEncodings.j1 kj8 t237 bt241.1 true)) else (laws_FnIntegerEncodings.j1 kj8 t237 bt241.1 true)) else (laws_FnIntegerEncodings.j1 kj8 t237 bt241.1 true)))) else (none)))) = some r := by rw [if_neg (show ¬ (false = true) by decide)] at H; exact H
            clear H
            have H := H1
            clear H1
            replace H := Option.bind_eq_some_iff.mp H
            obtain ⟨⟨t241, t242⟩, A220, H⟩ := H
            replace H : ((impl_EncodeFixed.f kj8 t241 t242).bind fun t243 => (if t243.size + t237.size ≤ 9223372036854775807 then ((impl_DecodeFixed.f kj8 (t243 ++ t237) t242).bind fun bt244 => (if t243.toList = ([] : List UInt8) then ((spec_EncodeFixed.f kj8 t241 t242).bind fun t246 => (laws_FnIntegerEncodings.j1 kj8 t237 t241 ((t243.toList != ([] : List UInt8)) != (t246.toList != ([] : List UInt8))))) else (if bt244.2 = true then (if bt244.1 = t241 then (if (t243.size : Int) = t242 then ((spec_EncodeFixed.f kj8 t241 t242).bind fun t247 => (laws_FnIntegerEncodings.j1 kj8 t237 t241 ((t243.toList != ([] : List UInt8)) != (t247.toList != ([] : List UInt8))))) else (laws_FnIntegerEncodings.j1 kj8 t237 t241 true)) else (laws_FnIntegerEncodings.j1 kj8 t237 t241 true)) else (laws_FnIntegerEncodings.j1 kj8 t237 t241 true)))) else (none))) = some r := H
            have A22 := Aside0.mk A220
            clear A220
            replace H := Option.bind_eq_some_iff.mp H
            obtain ⟨t243, A230, H⟩ := H
            replace H : (if t243.size + t237.size ≤ 9223372036854775807 then ((impl_DecodeFixed.f kj8 (t243 ++ t237) t242).bind fun bt244 => (if t243.toList = ([] : List UInt8) then ((spec_EncodeFixed.f kj8 t241 t242).bind fun t246 => (laws_FnIntegerEncodings.j1 kj8 t237 t241 ((t243.toList != ([] : List UInt8)) != (t246.toList != ([] : List UInt8))))) else (if bt244.2 = true then (if bt244.1 = t241 then (if (t243.size : Int) = t242 then ((spec_EncodeFixed.f kj8 t241 t242).bind fun t247 => (laws_FnIntegerEncodings.j1 kj8 t237 t241 ((t243.toList != ([] : List UInt8)) != (t247.toList != ([] : List UInt8))))) else (laws_FnIntegerEncodings.j1 kj8 t237 t241 true)) else (laws_FnIntegerEncodings.j1 kj8 t237 t241 true)) else (laws_FnIntegerEncodings.j1 kj8 t237 t241 true)))) else (none)) = some r := H
            have A23 := Aside0.mk A230
            clear A230
            by_cases c24 : t243.size + t237.size ≤ 9223372036854775807
            · rw [if_pos c24] at H
              have c24b0 := eq_true c24
              have c24b1 : decide (t243.size + t237.size ≤ 9223372036854775807) = true := decide_eq_true c24
              try have c24b2 : (9223372036854775807 < t243.size + t237.size) = False := eq_false (Nat.not_lt.2 c24)
              replace H := Option.bind_eq_some_iff.mp H
              obtain ⟨⟨t244, t245⟩, A250, H⟩ := H
              replace H : (if t243.toList = ([] : List UInt8) then ((spec_EncodeFixed.f kj8 t241 t242).bind fun t246 => (laws_FnIntegerEncodings.j1 kj8 t237 t241 ((t243.toList != ([] : List UInt8)) != (t246.toList != ([] : List UInt8))))) else (if t245 = true then (if t244 = t241 then (if (t243.size : Int) = t242 then ((spec_EncodeFixed.f kj8 t241 t242).bind fun t247 => (laws_FnIntegerEncodings.j1 kj8 t237 t241 ((t243.toList != ([] : List UInt8)) != (t247.toList != ([] : List UInt8))))) else (laws_FnIntegerEncodings.j1 kj8 t237 t241 true)) else (laws_FnIntegerEncodings.j1 kj8 t237 t241 true)) else (laws_FnIntegerEncodings.j1 kj8 t237 t241 true))) = some r := H
              have A25 := Aside0.mk A250
              clear A250
              have HC26 := Aside0.mk H
              clear H
              go_upto_region 12 with (first | ((with_reducible refine gate_callee (f := 18) rfl ?_); refine goesL_ (some 60) rfl rfl Tryd.func18 (by kernel_rfl) rfl #[.slice A0 l0.length c0] rfl (by (try simp only [List.map_toArray, List.map_cons, List.map_nil]); first | done | rfl | (simp only [List.length_drop, List.length_take]; rfl)) ?_; (with_reducible refine (spec_DrawEncodeFixed.calls kj8 _ _ l0 t241 t242 _ ?side1 ?side2 A22.out).mono ?_); (case side1 => repeat (first | exact (Kd.C_below HR0.out HB.out) | (with_reducible refine Kd.C_alloc ?_ _) | (with_reducible refine Kd.C_drewN ?_ _) | (with_reducible refine Kd.C_drew ?_))); (case side2 => exact HC0.out); rintro e w27 ⟨rfl, hb⟩; refine ⟨_, rfl, ?_⟩; have n0_ := Aside0.mk (below_step (by repeat (first | (with_reducible first | exact HB.out | apply below_alloc | apply pw_below_drewN | apply below_drew1) | exact HB.out)) hb); clear HB; have HB := n0_; clear n0_; (try clear hb); (try clear hb2); (try clear hk); (try clear hi)) | ((with_reducible refine gate_callee (f := 19) rfl ?_); refine goesL_ (some 65) rfl rfl Tryd.func19 (by kernel_rfl) rfl #[.int .i64 t241, .int .i64 t242] rfl (by (try simp only [List.map_toArray, List.map_cons, List.map_nil]); first | done | rfl | (simp only [List.length_drop, List.length_take]; rfl)) ?_; (with_reducible refine (impl_EncodeFixed.calls kj8 t241 t242 t243 _ A23.out).mono ?_); rintro e w28 ⟨rfl, hb⟩; refine ⟨_, rfl, ?_⟩; have n0_ := Aside0.mk (below_step (by repeat (first | (with_reducible first | exact HB.out | apply below_alloc | apply pw_below_drewN | apply below_drew1) | exact HB.out)) hb); clear HB; have HB := n0_; clear n0_; (try clear hb); (try clear hb2); (try clear hk); (try clear hi)) | ((with_reducible refine gate_callee (f := 20) rfl ?_); refine goesL_ (some 71) rfl rfl Tryd.func20 (by kernel_rfl) rfl #[.string (t243 ++ t237), .int .i64 t242] rfl (by (try simp only [List.map_toArray, List.map_cons, List.map_nil]); first | done | rfl | (simp only [List.length_drop, List.length_take]; rfl)) ?_; (with_reducible refine (impl_DecodeFixed.calls kj8 (t243 ++ t237) t242 t244 t245 _ A25.out).mono ?_); rintro e w' ⟨rfl, ⟨nd, rfl⟩⟩; refine ⟨_, rfl, ?_⟩))
              (try simp only [Act.put, List.setIfInBounds_toArray, List.set_cons_zero, List.set_cons_succ])
              go_cut [99] (fun v99 wc => ∃ (kq : Nat) (x99_25 : Bool), v99 = .bool x99_25 ∧ Aside0 (laws_FnIntegerEncodings.j1 kq t237 t241 x99_25 = some r) ∧ Aside0 (kq ≤ kj8) ∧ Aside0 (Below w.heap.size w wc))
              case first =>
                have H := HC26.out
                clear HC26
                by_cases c29 : t243.toList = ([] : List UInt8)
                · rw [if_pos c29] at H
                  have c29b0 : (t243.toList == ([] : List UInt8)) = true := beq_iff_eq.mpr c29
                  have c29b1 : (t243.toList != ([] : List UInt8)) = false := bne_eq_false_iff_eq.mpr c29
                  clear c29
                  (first | rw [c29b0] | (simp only [i64_w, i32_w]; rw [c29b0]) | skip)
                  replace H := Option.bind_eq_some_iff.mp H
                  obtain ⟨t246, A300, H⟩ := H
                  replace H : (laws_FnIntegerEncodings.j1 kj8 t237 t241 ((t243.toList != ([] : List UInt8)) != (t246.toList != ([] : List UInt8)))) = some r := H
                  have A30 := Aside0.mk A300
                  clear A300
                  have H' := Aside0.mk H
                  clear H
                  go_wp2_with (first | (go_at_call 21; (with_reducible refine (spec_EncodeFixed.calls kj8 t241 t242 t246 _ A30.out).mono ?_); rintro e w31 ⟨rfl, hb⟩; have n0_ := Aside0.mk (below_step (by repeat (first | (with_reducible first | exact HB.out | apply below_alloc | apply pw_below_drewN | apply below_drew1) | exact HB.out)) hb); clear HB; have HB := n0_; clear n0_; (try clear hb); (try clear hb2); (try clear hk); (try clear hi)))
                  go_meet
                  case rel => exact ⟨_, (((t243.toList != ([] : List UInt8)) != (t246.toList != ([] : List UInt8)))), (by first | rfl | (simp; done) | (simp [*]; done) | (simp [*]; generalize ByteArray.toList _ = l_; cases l_ <;> rfl)), H', ⟨by have := HJ8.out; first | omega | exact Nat.le_refl _⟩, ⟨by repeat (first | (with_reducible first | exact HB.out | apply below_alloc | apply pw_below_drewN | apply below_drew1) | exact HB.out)⟩⟩
                · rw [if_neg c29] at H
                  have c29b0 : (t243.toList == ([] : List UInt8)) = false := beq_eq_false_iff_ne.mpr c29
                  have c29b1 : (t243.toList != ([] : List UInt8)) = true := bne_iff_ne.mpr c29
                  (first | rw [c29b0] | (simp only [i64_w, i32_w]; rw [c29b0]) | skip)
                  by_cases c32 : t245 = true
                  · subst c32
                    have H1 : (if t244 = t241 then (if (t243.size : Int) = t242 then ((spec_EncodeFixed.f kj8 t241 t242).bind fun t247 => (laws_FnIntegerEncodings.j1 kj8 t237 t241 ((t243.toList != ([] : List UInt8)) != (t247.toList != ([] : List UInt8))))) else (laws_FnIntegerEncodings.j1 kj8 t237 t241 true)) else (laws_FnIntegerEncodings.j1 kj8 t237 t241 true)) = some r := by rw [if_pos rfl] at H; exact H
                    clear H
                    have H := H1
                    clear H1
                    by_cases c33 : t244 = t241
                    · rw [if_pos c33] at H
                      have c33b0 : (t244 == t241) = true := beq_iff_eq.mpr c33
                      have c33b1 : (t244 != t241) = false := bne_eq_false_iff_eq.mpr c33
                      clear c33
                      by_cases c34 : (t243.size : Int) = t242
                      · rw [if_pos c34] at H
                        have c34b0 : ((t243.size : Int) == t242) = true := beq_iff_eq.mpr c34
                        have c34b1 : ((t243.size : Int) != t242) = false := bne_eq_false_iff_eq.mpr c34
                        clear c34
                        replace H := Option.bind_eq_some_iff.mp H
                        obtain ⟨t247, A350, H⟩ := H
                        replace H : (laws_FnIntegerEncodings.j1 kj8 t237 t241 ((t243.toList != ([] : List UInt8)) != (t247.toList != ([] : List UInt8)))) = some r := H
                        have A35 := Aside0.mk A350
                        clear A350
                        have H' := Aside0.mk H
                        clear H
                        go_wp2_with (first | (go_at_call 21; (with_reducible refine (spec_EncodeFixed.calls kj8 t241 t242 t247 _ A35.out).mono ?_); rintro e w36 ⟨rfl, hb⟩; have n0_ := Aside0.mk (below_step (by repeat (first | (with_reducible first | exact HB.out | apply below_alloc | apply pw_below_drewN | apply below_drew1) | exact HB.out)) hb); clear HB; have HB := n0_; clear n0_; (try clear hb); (try clear hb2); (try clear hk); (try clear hi)))
                        go_meet
                        case rel => exact ⟨_, (((t243.toList != ([] : List UInt8)) != (t247.toList != ([] : List UInt8)))), (by first | rfl | (simp; done) | (simp [*]; done) | (simp [*]; generalize ByteArray.toList _ = l_; cases l_ <;> rfl)), H', ⟨by have := HJ8.out; first | omega | exact Nat.le_refl _⟩, ⟨by repeat (first | (with_reducible first | exact HB.out | apply below_alloc | apply pw_below_drewN | apply below_drew1) | exact HB.out)⟩⟩
                      · rw [if_neg c34] at H
                        have c34b0 : ((t243.size : Int) == t242) = false := beq_eq_false_iff_ne.mpr c34
                        have c34b1 : ((t243.size : Int) != t242) = true := bne_iff_ne.mpr c34
                        exact absurd H (by first | simp [laws_FnIntegerEncodings.j0_true] | simp [laws_FnIntegerEncodings.j1_true])
                    · rw [if_neg c33] at H
                      have c33b0 : (t244 == t241) = false := beq_eq_false_iff_ne.mpr c33
                      have c33b1 : (t244 != t241) = true := bne_iff_ne.mpr c33
                      exact absurd H (by first | simp [laws_FnIntegerEncodings.j0_true] | simp [laws_FnIntegerEncodings.j1_true])
                  · replace c32 := Bool.eq_false_iff.mpr c32
                    subst c32
                    have H1 : (laws_FnIntegerEncodings.j1 kj8 t237 t241 true) = some r := by rw [if_neg (show ¬ (false = true) by decide)] at H; exact H
                    clear H
                    have H := H1
                    clear H1
                    exact absurd H (by first | simp [laws_FnIntegerEncodings.j0_true] | simp [laws_FnIntegerEncodings.j1_true])
              case rest =>
                clear HC26
                try clear c1
                try clear c2
                try clear p2
                try clear c3
                try clear c4
                try clear c7
                try clear c7b0
                try clear c7b1
                try clear c7b2
                try clear c13
                try clear c14
                try clear c14b0
                try clear c15
                try clear c15b0
                try clear c15b1
                try clear c15b2
                try clear c16
                try clear c16b0
                try clear c16b1
                try clear c17
                try clear c17b0
                try clear c17b1
                try clear c18
                try clear c18b0
                try clear c18b1
                try clear c18b2
                try clear c19
                try clear c19b0
                try clear c19b1
                try clear c20
                try clear c20b0
                try clear c20b1
                try clear c21
                try clear c24
                try clear c24b0
                try clear c24b1
                try clear c24b2
                try clear c29
                try clear c29b0
                try clear c29b1
                try clear c32
                try clear c33
                try clear c33b0
                try clear c33b1
                try clear c34
                try clear c34b0
                try clear c34b1
                try clear p2
                obtain ⟨kq, x99_25, rfl, HA, HJ25, HB⟩ := hcut
                cases kq with
                | zero => exact absurd HA.out (by simp [laws_FnIntegerEncodings.j1])
                | succ kj25 =>
                  have H := HA.out
                  clear HA
                  simp only [laws_FnIntegerEncodings.j1] at H
                  by_cases c37 : x99_25 = true
                  · subst c37
                    have H1 : (none) = some r := by rw [if_pos rfl] at H; exact H
                    clear H
                    have H := H1
                    clear H1
                    exact absurd H (by simp)
                  · replace c37 := Bool.eq_false_iff.mpr c37
                    subst c37
                    have H1 : ((impl_EncodeHex.f kj25 t237).bind fun t248 => ((impl_DecodeHex.f kj25 t248).bind fun bt249 => ((impl_FormatInt.f t241).bind fun t251 => ((impl_ParseInt.f t251).bind fun bt252 => (if bt249.2 = true then (if bt249.1.toList = t237.toList then (if (t248.size : Int) = (wrap64 (2 * (t237.size : Int))) then ((spec_FormatInt.f kj25 t241).bind fun t254 => (if t251.toList = t254.toList then (if bt252.2 = true then (if bt252.1 = t241 then (if t241 > (-1000000000) then (some (bt252.2 == (decide (t241 < 1000000000)))) else (some (bt252.2 == false))) else (none)) else (if t241 > (-1000000000) then (some (bt252.2 == (decide (t241 < 1000000000)))) else (some (bt252.2 == false)))) else (none))) else (none)) else (none)) else (none)))))) = some r := by rw [if_neg (show ¬ (false = true) by decide)] at H; exact H
                    clear H
                    have H := H1
                    clear H1
                    replace H := Option.bind_eq_some_iff.mp H
                    obtain ⟨t248, A380, H⟩ := H
                    replace H : ((impl_DecodeHex.f kj25 t248).bind fun bt249 => ((impl_FormatInt.f t241).bind fun t251 => ((impl_ParseInt.f t251).bind fun bt252 => (if bt249.2 = true then (if bt249.1.toList = t237.toList then (if (t248.size : Int) = (wrap64 (2 * (t237.size : Int))) then ((spec_FormatInt.f kj25 t241).bind fun t254 => (if t251.toList = t254.toList then (if bt252.2 = true then (if bt252.1 = t241 then (if t241 > (-1000000000) then (some (bt252.2 == (decide (t241 < 1000000000)))) else (some (bt252.2 == false))) else (none)) else (if t241 > (-1000000000) then (some (bt252.2 == (decide (t241 < 1000000000)))) else (some (bt252.2 == false)))) else (none))) else (none)) else (none)) else (none))))) = some r := H
                    have A38 := Aside0.mk A380
                    clear A380
                    replace H := Option.bind_eq_some_iff.mp H
                    obtain ⟨⟨t249, t250⟩, A390, H⟩ := H
                    replace H : ((impl_FormatInt.f t241).bind fun t251 => ((impl_ParseInt.f t251).bind fun bt252 => (if t250 = true then (if t249.toList = t237.toList then (if (t248.size : Int) = (wrap64 (2 * (t237.size : Int))) then ((spec_FormatInt.f kj25 t241).bind fun t254 => (if t251.toList = t254.toList then (if bt252.2 = true then (if bt252.1 = t241 then (if t241 > (-1000000000) then (some (bt252.2 == (decide (t241 < 1000000000)))) else (some (bt252.2 == false))) else (none)) else (if t241 > (-1000000000) then (some (bt252.2 == (decide (t241 < 1000000000)))) else (some (bt252.2 == false)))) else (none))) else (none)) else (none)) else (none)))) = some r := H
                    have A39 := Aside0.mk A390
                    clear A390
                    replace H := Option.bind_eq_some_iff.mp H
                    obtain ⟨t251, A400, H⟩ := H
                    replace H : ((impl_ParseInt.f t251).bind fun bt252 => (if t250 = true then (if t249.toList = t237.toList then (if (t248.size : Int) = (wrap64 (2 * (t237.size : Int))) then ((spec_FormatInt.f kj25 t241).bind fun t254 => (if t251.toList = t254.toList then (if bt252.2 = true then (if bt252.1 = t241 then (if t241 > (-1000000000) then (some (bt252.2 == (decide (t241 < 1000000000)))) else (some (bt252.2 == false))) else (none)) else (if t241 > (-1000000000) then (some (bt252.2 == (decide (t241 < 1000000000)))) else (some (bt252.2 == false)))) else (none))) else (none)) else (none)) else (none))) = some r := H
                    have A40 := Aside0.mk A400
                    clear A400
                    replace H := Option.bind_eq_some_iff.mp H
                    obtain ⟨⟨t252, t253⟩, A410, H⟩ := H
                    replace H : (if t250 = true then (if t249.toList = t237.toList then (if (t248.size : Int) = (wrap64 (2 * (t237.size : Int))) then ((spec_FormatInt.f kj25 t241).bind fun t254 => (if t251.toList = t254.toList then (if t253 = true then (if t252 = t241 then (if t241 > (-1000000000) then (some (t253 == (decide (t241 < 1000000000)))) else (some (t253 == false))) else (none)) else (if t241 > (-1000000000) then (some (t253 == (decide (t241 < 1000000000)))) else (some (t253 == false)))) else (none))) else (none)) else (none)) else (none)) = some r := H
                    have A41 := Aside0.mk A410
                    clear A410
                    by_cases c42 : t250 = true
                    · subst c42
                      have H1 : (if t249.toList = t237.toList then (if (t248.size : Int) = (wrap64 (2 * (t237.size : Int))) then ((spec_FormatInt.f kj25 t241).bind fun t254 => (if t251.toList = t254.toList then (if t253 = true then (if t252 = t241 then (if t241 > (-1000000000) then (some (t253 == (decide (t241 < 1000000000)))) else (some (t253 == false))) else (none)) else (if t241 > (-1000000000) then (some (t253 == (decide (t241 < 1000000000)))) else (some (t253 == false)))) else (none))) else (none)) else (none)) = some r := by rw [if_pos rfl] at H; exact H
                      clear H
                      have H := H1
                      clear H1
                      by_cases c43 : t249.toList = t237.toList
                      · rw [if_pos c43] at H
                        have c43b0 : (t249.toList == t237.toList) = true := beq_iff_eq.mpr c43
                        have c43b1 : (t249.toList != t237.toList) = false := bne_eq_false_iff_eq.mpr c43
                        clear c43
                        by_cases c44 : (t248.size : Int) = (wrap64 (2 * (t237.size : Int)))
                        · rw [if_pos c44] at H
                          have c44b0 : ((t248.size : Int) == (wrap64 (2 * (t237.size : Int)))) = true := beq_iff_eq.mpr c44
                          have c44b1 : ((t248.size : Int) != (wrap64 (2 * (t237.size : Int)))) = false := bne_eq_false_iff_eq.mpr c44
                          clear c44
                          replace H := Option.bind_eq_some_iff.mp H
                          obtain ⟨t254, A450, H⟩ := H
                          replace H : (if t251.toList = t254.toList then (if t253 = true then (if t252 = t241 then (if t241 > (-1000000000) then (some (t253 == (decide (t241 < 1000000000)))) else (some (t253 == false))) else (none)) else (if t241 > (-1000000000) then (some (t253 == (decide (t241 < 1000000000)))) else (some (t253 == false)))) else (none)) = some r := H
                          have A45 := Aside0.mk A450
                          clear A450
                          by_cases c46 : t251.toList = t254.toList
                          · rw [if_pos c46] at H
                            have c46b0 : (t251.toList == t254.toList) = true := beq_iff_eq.mpr c46
                            have c46b1 : (t251.toList != t254.toList) = false := bne_eq_false_iff_eq.mpr c46
                            clear c46
                            by_cases c47 : t253 = true
                            · subst c47
                              have H1 : (if t252 = t241 then (if t241 > (-1000000000) then (some (true == (decide (t241 < 1000000000)))) else (some (true == false))) else (none)) = some r := by rw [if_pos rfl] at H; exact H
                              clear H
                              have H := H1
                              clear H1
                              by_cases c48 : t252 = t241
                              · rw [if_pos c48] at H
                                have c48b0 : (t252 == t241) = true := beq_iff_eq.mpr c48
                                have c48b1 : (t252 != t241) = false := bne_eq_false_iff_eq.mpr c48
                                clear c48
                                by_cases c49 : t241 > (-1000000000)
                                · rw [if_pos c49] at H
                                  have c49b0 : decide ((-1000000000) < t241) = true := decide_eq_true c49
                                  clear c49
                                  obtain rfl := Option.some.inj H
                                  go_wp2_with (first | ((with_reducible refine gate_callee (f := 22) rfl ?_); refine goesL_ (some 101) rfl rfl Tryd.func22 (by kernel_rfl) rfl #[.string t237] rfl (by (try simp only [List.map_toArray, List.map_cons, List.map_nil]); first | done | rfl | (simp only [List.length_drop, List.length_take]; rfl)) ?_; (with_reducible refine (impl_EncodeHex.calls kj25 t237 t248 _ A38.out).mono ?_); rintro e w50 ⟨rfl, hb⟩; refine ⟨_, rfl, ?_⟩; have n0_ := Aside0.mk (below_step (by repeat (first | (with_reducible first | exact HB.out | apply below_alloc | apply pw_below_drewN | apply below_drew1) | exact HB.out)) hb); clear HB; have HB := n0_; clear n0_; (try clear hb); (try clear hb2); (try clear hk); (try clear hi)) | ((with_reducible refine gate_callee (f := 23) rfl ?_); refine goesL_ (some 104) rfl rfl Tryd.func23 (by kernel_rfl) rfl #[.string t248] rfl (by (try simp only [List.map_toArray, List.map_cons, List.map_nil]); first | done | rfl | (simp only [List.length_drop, List.length_take]; rfl)) ?_; (with_reducible refine (impl_DecodeHex.calls kj25 t248 t249 true _ A39.out).mono ?_); rintro e w51 ⟨rfl, hb⟩; refine ⟨_, rfl, ?_⟩; have n0_ := Aside0.mk (below_step (by repeat (first | (with_reducible first | exact HB.out | apply below_alloc | apply pw_below_drewN | apply below_drew1) | exact HB.out)) hb); clear HB; have HB := n0_; clear n0_; (try clear hb); (try clear hb2); (try clear hk); (try clear hi)) | ((with_reducible refine gate_callee (f := 24) rfl ?_); refine goesL_ (some 108) rfl rfl Tryd.func24 (by kernel_rfl) rfl #[.int .i64 t241] rfl (by (try simp only [List.map_toArray, List.map_cons, List.map_nil]); first | done | rfl | (simp only [List.length_drop, List.length_take]; rfl)) ?_; (with_reducible refine (impl_FormatInt.calls (hF := Fit.below HF.out (by repeat (first | (with_reducible first | exact HB.out | apply below_alloc | apply pw_below_drewN | apply below_drew1) | exact HB.out))) t241 t251 _ A40.out).mono ?_); rintro e w52 ⟨rfl, hb⟩; refine ⟨_, rfl, ?_⟩; have n0_ := Aside0.mk (below_step (by repeat (first | (with_reducible first | exact HB.out | apply below_alloc | apply pw_below_drewN | apply below_drew1) | exact HB.out)) hb); clear HB; have HB := n0_; clear n0_; (try clear hb); (try clear hb2); (try clear hk); (try clear hi)) | ((with_reducible refine gate_callee (f := 12) rfl ?_); refine goesL_ (some 111) rfl rfl Tryd.func12 (by kernel_rfl) rfl #[.string t251] rfl (by (try simp only [List.map_toArray, List.map_cons, List.map_nil]); first | done | rfl | (simp only [List.length_drop, List.length_take]; rfl)) ?_; (with_reducible refine (impl_ParseInt.calls (hF := Fit.below HF.out (by repeat (first | (with_reducible first | exact HB.out | apply below_alloc | apply pw_below_drewN | apply below_drew1) | exact HB.out))) t251 t252 true _ A41.out).mono ?_); rintro e w53 ⟨rfl, hb⟩; refine ⟨_, rfl, ?_⟩; have n0_ := Aside0.mk (below_step (by repeat (first | (with_reducible first | exact HB.out | apply below_alloc | apply pw_below_drewN | apply below_drew1) | exact HB.out)) hb); clear HB; have HB := n0_; clear n0_; (try clear hb); (try clear hb2); (try clear hk); (try clear hi)) | (go_at_call 25; (with_reducible refine (spec_FormatInt.calls kj25 t241 t254 _ A45.out).mono ?_); rintro e w54 ⟨rfl, hb⟩; have n0_ := Aside0.mk (below_step (by repeat (first | (with_reducible first | exact HB.out | apply below_alloc | apply pw_below_drewN | apply below_drew1) | exact HB.out)) hb); clear HB; have HB := n0_; clear n0_; (try clear hb); (try clear hb2); (try clear hk); (try clear hi)))
                                  go_ret
                                  exact ⟨by first | rfl | (refine congrArg Ending.returned (congrArg Value.bool ?_); generalize ByteArray.toList _ = l_; cases l_ <;> rfl) | (simp [errW_none, errW_some] <;> rfl) | (simp [*, errW_none, errW_some] <;> rfl), by repeat (first | (with_reducible first | exact HB.out | apply below_alloc | apply pw_below_drewN | apply below_drew1) | exact HB.out)⟩
                                · rw [if_neg c49] at H
                                  have c49b0 : decide ((-1000000000) < t241) = false := decide_eq_false c49
                                  clear c49
                                  obtain rfl := Option.some.inj H
                                  go_wp2_with (first | ((with_reducible refine gate_callee (f := 22) rfl ?_); refine goesL_ (some 101) rfl rfl Tryd.func22 (by kernel_rfl) rfl #[.string t237] rfl (by (try simp only [List.map_toArray, List.map_cons, List.map_nil]); first | done | rfl | (simp only [List.length_drop, List.length_take]; rfl)) ?_; (with_reducible refine (impl_EncodeHex.calls kj25 t237 t248 _ A38.out).mono ?_); rintro e w55 ⟨rfl, hb⟩; refine ⟨_, rfl, ?_⟩; have n0_ := Aside0.mk (below_step (by repeat (first | (with_reducible first | exact HB.out | apply below_alloc | apply pw_below_drewN | apply below_drew1) | exact HB.out)) hb); clear HB; have HB := n0_; clear n0_; (try clear hb); (try clear hb2); (try clear hk); (try clear hi)) | ((with_reducible refine gate_callee (f := 23) rfl ?_); refine goesL_ (some 104) rfl rfl Tryd.func23 (by kernel_rfl) rfl #[.string t248] rfl (by (try simp only [List.map_toArray, List.map_cons, List.map_nil]); first | done | rfl | (simp only [List.length_drop, List.length_take]; rfl)) ?_; (with_reducible refine (impl_DecodeHex.calls kj25 t248 t249 true _ A39.out).mono ?_); rintro e w56 ⟨rfl, hb⟩; refine ⟨_, rfl, ?_⟩; have n0_ := Aside0.mk (below_step (by repeat (first | (with_reducible first | exact HB.out | apply below_alloc | apply pw_below_drewN | apply below_drew1) | exact HB.out)) hb); clear HB; have HB := n0_; clear n0_; (try clear hb); (try clear hb2); (try clear hk); (try clear hi)) | ((with_reducible refine gate_callee (f := 24) rfl ?_); refine goesL_ (some 108) rfl rfl Tryd.func24 (by kernel_rfl) rfl #[.int .i64 t241] rfl (by (try simp only [List.map_toArray, List.map_cons, List.map_nil]); first | done | rfl | (simp only [List.length_drop, List.length_take]; rfl)) ?_; (with_reducible refine (impl_FormatInt.calls (hF := Fit.below HF.out (by repeat (first | (with_reducible first | exact HB.out | apply below_alloc | apply pw_below_drewN | apply below_drew1) | exact HB.out))) t241 t251 _ A40.out).mono ?_); rintro e w57 ⟨rfl, hb⟩; refine ⟨_, rfl, ?_⟩; have n0_ := Aside0.mk (below_step (by repeat (first | (with_reducible first | exact HB.out | apply below_alloc | apply pw_below_drewN | apply below_drew1) | exact HB.out)) hb); clear HB; have HB := n0_; clear n0_; (try clear hb); (try clear hb2); (try clear hk); (try clear hi)) | ((with_reducible refine gate_callee (f := 12) rfl ?_); refine goesL_ (some 111) rfl rfl Tryd.func12 (by kernel_rfl) rfl #[.string t251] rfl (by (try simp only [List.map_toArray, List.map_cons, List.map_nil]); first | done | rfl | (simp only [List.length_drop, List.length_take]; rfl)) ?_; (with_reducible refine (impl_ParseInt.calls (hF := Fit.below HF.out (by repeat (first | (with_reducible first | exact HB.out | apply below_alloc | apply pw_below_drewN | apply below_drew1) | exact HB.out))) t251 t252 true _ A41.out).mono ?_); rintro e w58 ⟨rfl, hb⟩; refine ⟨_, rfl, ?_⟩; have n0_ := Aside0.mk (below_step (by repeat (first | (with_reducible first | exact HB.out | apply below_alloc | apply pw_below_drewN | apply below_drew1) | exact HB.out)) hb); clear HB; have HB := n0_; clear n0_; (try clear hb); (try clear hb2); (try clear hk); (try clear hi)) | (go_at_call 25; (with_reducible refine (spec_FormatInt.calls kj25 t241 t254 _ A45.out).mono ?_); rintro e w59 ⟨rfl, hb⟩; have n0_ := Aside0.mk (below_step (by repeat (first | (with_reducible first | exact HB.out | apply below_alloc | apply pw_below_drewN | apply below_drew1) | exact HB.out)) hb); clear HB; have HB := n0_; clear n0_; (try clear hb); (try clear hb2); (try clear hk); (try clear hi)))
                                  go_ret
                                  exact ⟨by first | rfl | (refine congrArg Ending.returned (congrArg Value.bool ?_); generalize ByteArray.toList _ = l_; cases l_ <;> rfl) | (simp [errW_none, errW_some] <;> rfl) | (simp [*, errW_none, errW_some] <;> rfl), by repeat (first | (with_reducible first | exact HB.out | apply below_alloc | apply pw_below_drewN | apply below_drew1) | exact HB.out)⟩
                              · rw [if_neg c48] at H
                                exact absurd H (by simp)
                            · replace c47 := Bool.eq_false_iff.mpr c47
                              subst c47
                              have H1 : (if t241 > (-1000000000) then (some (false == (decide (t241 < 1000000000)))) else (some (false == false))) = some r := by rw [if_neg (show ¬ (false = true) by decide)] at H; exact H
                              clear H
                              have H := H1
                              clear H1
                              by_cases c60 : t241 > (-1000000000)
                              · rw [if_pos c60] at H
                                have c60b0 : decide ((-1000000000) < t241) = true := decide_eq_true c60
                                clear c60
                                obtain rfl := Option.some.inj H
                                go_wp2_with (first | ((with_reducible refine gate_callee (f := 22) rfl ?_); refine goesL_ (some 101) rfl rfl Tryd.func22 (by kernel_rfl) rfl #[.string t237] rfl (by (try simp only [List.map_toArray, List.map_cons, List.map_nil]); first | done | rfl | (simp only [List.length_drop, List.length_take]; rfl)) ?_; (with_reducible refine (impl_EncodeHex.calls kj25 t237 t248 _ A38.out).mono ?_); rintro e w61 ⟨rfl, hb⟩; refine ⟨_, rfl, ?_⟩; have n0_ := Aside0.mk (below_step (by repeat (first | (with_reducible first | exact HB.out | apply below_alloc | apply pw_below_drewN | apply below_drew1) | exact HB.out)) hb); clear HB; have HB := n0_; clear n0_; (try clear hb); (try clear hb2); (try clear hk); (try clear hi)) | ((with_reducible refine gate_callee (f := 23) rfl ?_); refine goesL_ (some 104) rfl rfl Tryd.func23 (by kernel_rfl) rfl #[.string t248] rfl (by (try simp only [List.map_toArray, List.map_cons, List.map_nil]); first | done | rfl | (simp only [List.length_drop, List.length_take]; rfl)) ?_; (with_reducible refine (impl_DecodeHex.calls kj25 t248 t249 true _ A39.out).mono ?_); rintro e w62 ⟨rfl, hb⟩; refine ⟨_, rfl, ?_⟩; have n0_ := Aside0.mk (below_step (by repeat (first | (with_reducible first | exact HB.out | apply below_alloc | apply pw_below_drewN | apply below_drew1) | exact HB.out)) hb); clear HB; have HB := n0_; clear n0_; (try clear hb); (try clear hb2); (try clear hk); (try clear hi)) | ((with_reducible refine gate_callee (f := 24) rfl ?_); refine goesL_ (some 108) rfl rfl Tryd.func24 (by kernel_rfl) rfl #[.int .i64 t241] rfl (by (try simp only [List.map_toArray, List.map_cons, List.map_nil]); first | done | rfl | (simp only [List.length_drop, List.length_take]; rfl)) ?_; (with_reducible refine (impl_FormatInt.calls (hF := Fit.below HF.out (by repeat (first | (with_reducible first | exact HB.out | apply below_alloc | apply pw_below_drewN | apply below_drew1) | exact HB.out))) t241 t251 _ A40.out).mono ?_); rintro e w63 ⟨rfl, hb⟩; refine ⟨_, rfl, ?_⟩; have n0_ := Aside0.mk (below_step (by repeat (first | (with_reducible first | exact HB.out | apply below_alloc | apply pw_below_drewN | apply below_drew1) | exact HB.out)) hb); clear HB; have HB := n0_; clear n0_; (try clear hb); (try clear hb2); (try clear hk); (try clear hi)) | ((with_reducible refine gate_callee (f := 12) rfl ?_); refine goesL_ (some 111) rfl rfl Tryd.func12 (by kernel_rfl) rfl #[.string t251] rfl (by (try simp only [List.map_toArray, List.map_cons, List.map_nil]); first | done | rfl | (simp only [List.length_drop, List.length_take]; rfl)) ?_; (with_reducible refine (impl_ParseInt.calls (hF := Fit.below HF.out (by repeat (first | (with_reducible first | exact HB.out | apply below_alloc | apply pw_below_drewN | apply below_drew1) | exact HB.out))) t251 t252 false _ A41.out).mono ?_); rintro e w64 ⟨rfl, hb⟩; refine ⟨_, rfl, ?_⟩; have n0_ := Aside0.mk (below_step (by repeat (first | (with_reducible first | exact HB.out | apply below_alloc | apply pw_below_drewN | apply below_drew1) | exact HB.out)) hb); clear HB; have HB := n0_; clear n0_; (try clear hb); (try clear hb2); (try clear hk); (try clear hi)) | (go_at_call 25; (with_reducible refine (spec_FormatInt.calls kj25 t241 t254 _ A45.out).mono ?_); rintro e w65 ⟨rfl, hb⟩; have n0_ := Aside0.mk (below_step (by repeat (first | (with_reducible first | exact HB.out | apply below_alloc | apply pw_below_drewN | apply below_drew1) | exact HB.out)) hb); clear HB; have HB := n0_; clear n0_; (try clear hb); (try clear hb2); (try clear hk); (try clear hi)))
                                go_ret
                                exact ⟨by first | rfl | (refine congrArg Ending.returned (congrArg Value.bool ?_); generalize ByteArray.toList _ = l_; cases l_ <;> rfl) | (simp [errW_none, errW_some] <;> rfl) | (simp [*, errW_none, errW_some] <;> rfl), by repeat (first | (with_reducible first | exact HB.out | apply below_alloc | apply pw_below_drewN | apply below_drew1) | exact HB.out)⟩
                              · rw [if_neg c60] at H
                                have c60b0 : decide ((-1000000000) < t241) = false := decide_eq_false c60
                                clear c60
                                obtain rfl := Option.some.inj H
                                go_wp2_with (first | ((with_reducible refine gate_callee (f := 22) rfl ?_); refine goesL_ (some 101) rfl rfl Tryd.func22 (by kernel_rfl) rfl #[.string t237] rfl (by (try simp only [List.map_toArray, List.map_cons, List.map_nil]); first | done | rfl | (simp only [List.length_drop, List.length_take]; rfl)) ?_; (with_reducible refine (impl_EncodeHex.calls kj25 t237 t248 _ A38.out).mono ?_); rintro e w66 ⟨rfl, hb⟩; refine ⟨_, rfl, ?_⟩; have n0_ := Aside0.mk (below_step (by repeat (first | (with_reducible first | exact HB.out | apply below_alloc | apply pw_below_drewN | apply below_drew1) | exact HB.out)) hb); clear HB; have HB := n0_; clear n0_; (try clear hb); (try clear hb2); (try clear hk); (try clear hi)) | ((with_reducible refine gate_callee (f := 23) rfl ?_); refine goesL_ (some 104) rfl rfl Tryd.func23 (by kernel_rfl) rfl #[.string t248] rfl (by (try simp only [List.map_toArray, List.map_cons, List.map_nil]); first | done | rfl | (simp only [List.length_drop, List.length_take]; rfl)) ?_; (with_reducible refine (impl_DecodeHex.calls kj25 t248 t249 true _ A39.out).mono ?_); rintro e w67 ⟨rfl, hb⟩; refine ⟨_, rfl, ?_⟩; have n0_ := Aside0.mk (below_step (by repeat (first | (with_reducible first | exact HB.out | apply below_alloc | apply pw_below_drewN | apply below_drew1) | exact HB.out)) hb); clear HB; have HB := n0_; clear n0_; (try clear hb); (try clear hb2); (try clear hk); (try clear hi)) | ((with_reducible refine gate_callee (f := 24) rfl ?_); refine goesL_ (some 108) rfl rfl Tryd.func24 (by kernel_rfl) rfl #[.int .i64 t241] rfl (by (try simp only [List.map_toArray, List.map_cons, List.map_nil]); first | done | rfl | (simp only [List.length_drop, List.length_take]; rfl)) ?_; (with_reducible refine (impl_FormatInt.calls (hF := Fit.below HF.out (by repeat (first | (with_reducible first | exact HB.out | apply below_alloc | apply pw_below_drewN | apply below_drew1) | exact HB.out))) t241 t251 _ A40.out).mono ?_); rintro e w68 ⟨rfl, hb⟩; refine ⟨_, rfl, ?_⟩; have n0_ := Aside0.mk (below_step (by repeat (first | (with_reducible first | exact HB.out | apply below_alloc | apply pw_below_drewN | apply below_drew1) | exact HB.out)) hb); clear HB; have HB := n0_; clear n0_; (try clear hb); (try clear hb2); (try clear hk); (try clear hi)) | ((with_reducible refine gate_callee (f := 12) rfl ?_); refine goesL_ (some 111) rfl rfl Tryd.func12 (by kernel_rfl) rfl #[.string t251] rfl (by (try simp only [List.map_toArray, List.map_cons, List.map_nil]); first | done | rfl | (simp only [List.length_drop, List.length_take]; rfl)) ?_; (with_reducible refine (impl_ParseInt.calls (hF := Fit.below HF.out (by repeat (first | (with_reducible first | exact HB.out | apply below_alloc | apply pw_below_drewN | apply below_drew1) | exact HB.out))) t251 t252 false _ A41.out).mono ?_); rintro e w69 ⟨rfl, hb⟩; refine ⟨_, rfl, ?_⟩; have n0_ := Aside0.mk (below_step (by repeat (first | (with_reducible first | exact HB.out | apply below_alloc | apply pw_below_drewN | apply below_drew1) | exact HB.out)) hb); clear HB; have HB := n0_; clear n0_; (try clear hb); (try clear hb2); (try clear hk); (try clear hi)) | (go_at_call 25; (with_reducible refine (spec_FormatInt.calls kj25 t241 t254 _ A45.out).mono ?_); rintro e w70 ⟨rfl, hb⟩; have n0_ := Aside0.mk (below_step (by repeat (first | (with_reducible first | exact HB.out | apply below_alloc | apply pw_below_drewN | apply below_drew1) | exact HB.out)) hb); clear HB; have HB := n0_; clear n0_; (try clear hb); (try clear hb2); (try clear hk); (try clear hi)))
                                go_ret
                                exact ⟨by first | rfl | (refine congrArg Ending.returned (congrArg Value.bool ?_); generalize ByteArray.toList _ = l_; cases l_ <;> rfl) | (simp [errW_none, errW_some] <;> rfl) | (simp [*, errW_none, errW_some] <;> rfl), by repeat (first | (with_reducible first | exact HB.out | apply below_alloc | apply pw_below_drewN | apply below_drew1) | exact HB.out)⟩
                          · rw [if_neg c46] at H
                            exact absurd H (by simp)
                        · rw [if_neg c44] at H
                          exact absurd H (by simp)
                      · rw [if_neg c43] at H
                        exact absurd H (by simp)
                    · replace c42 := Bool.eq_false_iff.mpr c42
                      subst c42
                      have H1 : (none) = some r := by rw [if_neg (show ¬ (false = true) by decide)] at H; exact H
                      clear H
                      have H := H1
                      clear H1
                      exact absurd H (by simp)
            · rw [if_neg c24] at H
              exact absurd H (by simp)
    · rw [if_neg c7] at H
      exact absurd H (by simp)

/-- THE ONE PURE STATEMENT of laws_FnIntegerEncodings: yours. -/
def laws_FnIntegerEncodings.Pure : Prop := ∀ (l0 : List Int), l0.length ≤ maxLen → l0.length * 1 ≤ 140737488351232 → (∀ x ∈ l0, (Lit.int .u8 x).wf = true) → ∃ k, laws_FnIntegerEncodings.f k l0 = some true

end Go.Proofs.YtbenihcaleiacabDoor.GFnIntegerEncodings
