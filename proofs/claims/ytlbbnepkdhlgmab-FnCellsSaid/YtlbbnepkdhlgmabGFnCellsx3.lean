/- Of each Go function that the law FnCells reaches: a Lean function, and the proof that the call comes to just its answer; written by a turned copy of the kit's printer, with contracts typed by hand for functions that it does not take. No condition. -/
import Derived.Test.YtlbbnepkdhlgmabGFnCellsx0
import Derived.Test.YtlbbnepkdhlgmabGFnCellsx1
import Derived.Test.YtlbbnepkdhlgmabGFnCellsx2
namespace Go.Proofs.Ytlbbnepkdhlgmab.GFnCells
open Go.RowKit Go.Proofs.YtlbbnepkdhlgmabW.PrintWords Go.Proofs.YtlbbnepkdhlgmabW.PrintLast Go.Proofs.YtlbbnepkdhlgmabW.PrintMore
attribute [local go_sem] max2_int min2_int max_two min_two max_three min_three max_four min_four   -- for this text's walks alone
set_option linter.unusedVariables false
set_option linter.unusedSimpArgs false

/-! ### laws_FnCells: function 13 -/
def laws_FnCells.j0 : Nat → List Int → Int → Bool → List Int → Int → Bool → Bool → Option (Bool)
  | 0, _, _, _, _, _, _, _ => none
  | k + 1, x3, x5, x8, x11, x15, x16, x105 => if x105 = true then (some false) else (if x16 = true then (if (x8 == (x15 == x5)) = true then ((impl_CountDifferences.f k x3 x11).bind fun t213 => (if t213 ≤ 1 then ((impl_CountDifferences.f k x3 x3).bind fun t214 => (if t214 = 0 then ((impl_CountDifferences.f k x3 ([] : List Int)).bind fun t215 => (some (t215 == (x3.length : Int)))) else (some false))) else (some false))) else (some false)) else (if (x8 == false) = true then ((impl_CountDifferences.f k x3 x11).bind fun t216 => (if t216 ≤ 1 then ((impl_CountDifferences.f k x3 x3).bind fun t217 => (if t217 = 0 then ((impl_CountDifferences.f k x3 ([] : List Int)).bind fun t218 => (some (t218 == (x3.length : Int)))) else (some false))) else (some false))) else (some false)))
def laws_FnCells.f (k : Nat) (l0 : List Int) : Option (Bool) := (laws_big.f l0).bind fun t184 => (if t184 = true then (some true) else ((spec_DrawSwapCell.f k l0).bind fun bt185 => ((impl_SwapCell.f bt185.1 bt185.2.1 bt185.2.2.1 bt185.2.2.2).bind fun bt191 => ((spec_SwapCell.f bt185.1 bt185.2.1 bt185.2.2.1 bt185.2.2.2).bind fun bt195 => ((impl_StoreCell.f bt185.1 bt185.2.1 bt185.2.2.2).bind fun bt199 => ((spec_StoreCell.f bt185.1 bt185.2.1 bt185.2.2.2).bind fun bt203 => ((impl_LoadCell.f bt185.1 bt185.2.1).bind fun bt207 => (if (bt191.2 != bt195.2) = true then (laws_FnCells.j0 k bt185.1 bt185.2.2.1 bt191.2 bt199.1 bt207.1 bt207.2 true) else ((laws_sameInts.f k bt191.1 bt195.1).bind fun t209 => (if t209 = true then (if (bt199.2 != bt203.2) = true then (laws_FnCells.j0 k bt185.1 bt185.2.2.1 bt191.2 bt199.1 bt207.1 bt207.2 true) else ((laws_sameInts.f k bt199.1 bt203.1).bind fun t210 => (if t210 = true then (if (bt207.2 != bt199.2) = true then (laws_FnCells.j0 k bt185.1 bt185.2.2.1 bt191.2 bt199.1 bt207.1 bt207.2 true) else (if bt191.2 = true then ((laws_sameInts.f k bt191.1 bt199.1).bind fun t211 => (if t211 = true then (laws_FnCells.j0 k bt185.1 bt185.2.2.1 bt191.2 bt199.1 bt207.1 bt207.2 false) else (laws_FnCells.j0 k bt185.1 bt185.2.2.1 bt191.2 bt199.1 bt207.1 bt207.2 true))) else ((laws_sameInts.f k bt191.1 bt185.1).bind fun t212 => (laws_FnCells.j0 k bt185.1 bt185.2.2.1 bt191.2 bt199.1 bt207.1 bt207.2 (!t212))))) else (laws_FnCells.j0 k bt185.1 bt185.2.2.1 bt191.2 bt199.1 bt207.1 bt207.2 true)))) else (laws_FnCells.j0 k bt185.1 bt185.2.2.1 bt191.2 bt199.1 bt207.1 bt207.2 true)))))))))))
theorem laws_FnCells.mono_l : ∀ k, (∀ y0 y1 y2 y3 y4 y5 y6, LeO (laws_FnCells.j0 k y0 y1 y2 y3 y4 y5 y6) (laws_FnCells.j0 (k + 1) y0 y1 y2 y3 y4 y5 y6))
  | 0 => fun _ _ _ _ _ _ _ r h => by simp [laws_FnCells.j0] at h
  | k + 1 => by
    have ih0 := laws_FnCells.mono_l k
    · intro y0 y1 y2 y3 y4 y5 y6
      unfold laws_FnCells.j0
      repeat' first
      | (with_reducible exact ih0 _ _ _ _ _ _ _)
      | (with_reducible exact impl_CountDifferences.mono _ _ _)
      | (with_reducible exact laws_sameInts.mono _ _ _)
      | (with_reducible exact spec_DrawSwapCell.mono _ _)
      | (with_reducible exact LeO.refl _)
      | (with_reducible exact LeO.none _)
      | (with_reducible refine LeO.ite ?_ ?_)
      | (with_reducible refine LeO.bind ?_ (fun _ => ?_))
      | exact ih0 _ _ _ _ _ _ _
      | exact impl_CountDifferences.mono _ _ _
      | exact laws_sameInts.mono _ _ _
      | exact spec_DrawSwapCell.mono _ _
      | exact LeO.none _
      | refine LeO.ite ?_ ?_
      | refine LeO.bind ?_ (fun _ => ?_)
theorem laws_FnCells.mono : ∀ a0 k, LeO (laws_FnCells.f k a0) (laws_FnCells.f (k + 1) a0) := by
  intro a0 k
  have ih0 := laws_FnCells.mono_l k
  unfold laws_FnCells.f
  repeat' first
      | (with_reducible exact ih0 _ _ _ _ _ _ _)
      | (with_reducible exact impl_CountDifferences.mono _ _ _)
      | (with_reducible exact laws_sameInts.mono _ _ _)
      | (with_reducible exact spec_DrawSwapCell.mono _ _)
      | (with_reducible exact LeO.refl _)
      | (with_reducible exact LeO.none _)
      | (with_reducible refine LeO.ite ?_ ?_)
      | (with_reducible refine LeO.bind ?_ (fun _ => ?_))
      | exact ih0 _ _ _ _ _ _ _
      | exact impl_CountDifferences.mono _ _ _
      | exact laws_sameInts.mono _ _ _
      | exact spec_DrawSwapCell.mono _ _
      | exact LeO.none _
      | refine LeO.ite ?_ ?_
      | refine LeO.bind ?_ (fun _ => ?_)
set_option maxHeartbeats 8000000 in
set_option maxRecDepth 100000 in
theorem laws_FnCells.calls (k : Nat) (A0 : Option Addr) (c0 : Nat) (l0 : List Int) (r : Bool) (w : World) (hr0 : Kd.C (Kd.int .u8) w A0 l0.length l0) (hc0 : l0.length ≤ c0) (h : laws_FnCells.f k l0 = some r) :
    Calls Try.prog 13 #[.slice A0 l0.length c0] w fun e w' => e = .returned (.bool r) ∧ Below w.heap.size w w' := by
  have HR0 := Aside0.mk hr0
  have HC0 := Aside0.mk hc0
  clear hr0 hc0
  have HB := Aside0.mk (Below.refl w.heap.size w)
  have H : ((laws_big.f l0).bind fun t184 => (if t184 = true then (some true) else ((spec_DrawSwapCell.f k l0).bind fun bt185 => ((impl_SwapCell.f bt185.1 bt185.2.1 bt185.2.2.1 bt185.2.2.2).bind fun bt191 => ((spec_SwapCell.f bt185.1 bt185.2.1 bt185.2.2.1 bt185.2.2.2).bind fun bt195 => ((impl_StoreCell.f bt185.1 bt185.2.1 bt185.2.2.2).bind fun bt199 => ((spec_StoreCell.f bt185.1 bt185.2.1 bt185.2.2.2).bind fun bt203 => ((impl_LoadCell.f bt185.1 bt185.2.1).bind fun bt207 => (if (bt191.2 != bt195.2) = true then (laws_FnCells.j0 k bt185.1 bt185.2.2.1 bt191.2 bt199.1 bt207.1 bt207.2 true) else ((laws_sameInts.f k bt191.1 bt195.1).bind fun t209 => (if t209 = true then (if (bt199.2 != bt203.2) = true then (laws_FnCells.j0 k bt185.1 bt185.2.2.1 bt191.2 bt199.1 bt207.1 bt207.2 true) else ((laws_sameInts.f k bt199.1 bt203.1).bind fun t210 => (if t210 = true then (if (bt207.2 != bt199.2) = true then (laws_FnCells.j0 k bt185.1 bt185.2.2.1 bt191.2 bt199.1 bt207.1 bt207.2 true) else (if bt191.2 = true then ((laws_sameInts.f k bt191.1 bt199.1).bind fun t211 => (if t211 = true then (laws_FnCells.j0 k bt185.1 bt185.2.2.1 bt191.2 bt199.1 bt207.1 bt207.2 false) else (laws_FnCells.j0 k bt185.1 bt185.2.2.1 bt191.2 bt199.1 bt207.1 bt207.2 true))) else ((laws_sameInts.f k bt191.1 bt185.1).bind fun t212 => (laws_FnCells.j0 k bt185.1 bt185.2.2.1 bt191.2 bt199.1 bt207.1 bt207.2 (!t212))))) else (laws_FnCells.j0 k bt185.1 bt185.2.2.1 bt191.2 bt199.1 bt207.1 bt207.2 true)))) else (laws_FnCells.j0 k bt185.1 bt185.2.2.1 bt191.2 bt199.1 bt207.1 bt207.2 true)))))))))))) = some r := h
  clear h
  replace H := Option.bind_eq_some_iff.mp H
  obtain ⟨t184, A20, H⟩ := H
  replace H : (if t184 = true then (some true) else ((spec_DrawSwapCell.f k l0).bind fun bt185 => ((impl_SwapCell.f bt185.1 bt185.2.1 bt185.2.2.1 bt185.2.2.2).bind fun bt191 => ((spec_SwapCell.f bt185.1 bt185.2.1 bt185.2.2.1 bt185.2.2.2).bind fun bt195 => ((impl_StoreCell.f bt185.1 bt185.2.1 bt185.2.2.2).bind fun bt199 => ((spec_StoreCell.f bt185.1 bt185.2.1 bt185.2.2.2).bind fun bt203 => ((impl_LoadCell.f bt185.1 bt185.2.1).bind fun bt207 => (if (bt191.2 != bt195.2) = true then (laws_FnCells.j0 k bt185.1 bt185.2.2.1 bt191.2 bt199.1 bt207.1 bt207.2 true) else ((laws_sameInts.f k bt191.1 bt195.1).bind fun t209 => (if t209 = true then (if (bt199.2 != bt203.2) = true then (laws_FnCells.j0 k bt185.1 bt185.2.2.1 bt191.2 bt199.1 bt207.1 bt207.2 true) else ((laws_sameInts.f k bt199.1 bt203.1).bind fun t210 => (if t210 = true then (if (bt207.2 != bt199.2) = true then (laws_FnCells.j0 k bt185.1 bt185.2.2.1 bt191.2 bt199.1 bt207.1 bt207.2 true) else (if bt191.2 = true then ((laws_sameInts.f k bt191.1 bt199.1).bind fun t211 => (if t211 = true then (laws_FnCells.j0 k bt185.1 bt185.2.2.1 bt191.2 bt199.1 bt207.1 bt207.2 false) else (laws_FnCells.j0 k bt185.1 bt185.2.2.1 bt191.2 bt199.1 bt207.1 bt207.2 true))) else ((laws_sameInts.f k bt191.1 bt185.1).bind fun t212 => (laws_FnCells.j0 k bt185.1 bt185.2.2.1 bt191.2 bt199.1 bt207.1 bt207.2 (!t212))))) else (laws_FnCells.j0 k bt185.1 bt185.2.2.1 bt191.2 bt199.1 bt207.1 bt207.2 true)))) else (laws_FnCells.j0 k bt185.1 bt185.2.2.1 bt191.2 bt199.1 bt207.1 bt207.2 true))))))))))) = some r := H
  have A2 := Aside0.mk A20
  clear A20
  by_cases c3 : t184 = true
  · subst c3
    have H1 : (some true) = some r := by rw [if_pos rfl] at H; exact H
    clear H
    have H := H1
    clear H1
    obtain rfl := Option.some.inj H
    go_enter Try.func13, Try.ntmps13
    go_wp2_with (first | ((with_reducible refine gate_callee (f := 41) rfl ?_); refine goesL_ (some 18) rfl rfl Try.func41 (by kernel_rfl) rfl #[.slice A0 l0.length c0] rfl (by (try simp only [List.map_toArray, List.map_cons, List.map_nil]); first | done | rfl | (simp only [List.length_drop, List.length_take]; rfl)) ?_; (with_reducible refine (laws_big.calls _ _ l0 true _ ?side1 ?side2 A2.out).mono ?_); (case side1 => repeat (first | exact HR0.out | (with_reducible refine Kd.C_alloc ?_ _) | (with_reducible refine Kd.C_drewN ?_ _) | (with_reducible refine Kd.C_drew ?_))); (case side2 => exact HC0.out); rintro e w' ⟨rfl, ⟨nd, rfl⟩⟩; refine ⟨_, rfl, ?_⟩))
    go_ret
    exact ⟨by first | rfl | (simp [errW_none, errW_some] <;> rfl) | (simp [*, errW_none, errW_some] <;> rfl), by repeat (first | (with_reducible first | exact HB.out | apply below_alloc | apply pw_below_drewN | apply below_drew1) | exact HB.out)⟩
  · replace c3 := Bool.eq_false_iff.mpr c3
    subst c3
    have H1 : ((spec_DrawSwapCell.f k l0).bind fun bt185 => ((impl_SwapCell.f bt185.1 bt185.2.1 bt185.2.2.1 bt185.2.2.2).bind fun bt191 => ((spec_SwapCell.f bt185.1 bt185.2.1 bt185.2.2.1 bt185.2.2.2).bind fun bt195 => ((impl_StoreCell.f bt185.1 bt185.2.1 bt185.2.2.2).bind fun bt199 => ((spec_StoreCell.f bt185.1 bt185.2.1 bt185.2.2.2).bind fun bt203 => ((impl_LoadCell.f bt185.1 bt185.2.1).bind fun bt207 => (if (bt191.2 != bt195.2) = true then (laws_FnCells.j0 k bt185.1 bt185.2.2.1 bt191.2 bt199.1 bt207.1 bt207.2 true) else ((laws_sameInts.f k bt191.1 bt195.1).bind fun t209 => (if t209 = true then (if (bt199.2 != bt203.2) = true then (laws_FnCells.j0 k bt185.1 bt185.2.2.1 bt191.2 bt199.1 bt207.1 bt207.2 true) else ((laws_sameInts.f k bt199.1 bt203.1).bind fun t210 => (if t210 = true then (if (bt207.2 != bt199.2) = true then (laws_FnCells.j0 k bt185.1 bt185.2.2.1 bt191.2 bt199.1 bt207.1 bt207.2 true) else (if bt191.2 = true then ((laws_sameInts.f k bt191.1 bt199.1).bind fun t211 => (if t211 = true then (laws_FnCells.j0 k bt185.1 bt185.2.2.1 bt191.2 bt199.1 bt207.1 bt207.2 false) else (laws_FnCells.j0 k bt185.1 bt185.2.2.1 bt191.2 bt199.1 bt207.1 bt207.2 true))) else ((laws_sameInts.f k bt191.1 bt185.1).bind fun t212 => (laws_FnCells.j0 k bt185.1 bt185.2.2.1 bt191.2 bt199.1 bt207.1 bt207.2 (!t212))))) else (laws_FnCells.j0 k bt185.1 bt185.2.2.1 bt191.2 bt199.1 bt207.1 bt207.2 true)))) else (laws_FnCells.j0 k bt185.1 bt185.2.2.1 bt191.2 bt199.1 bt207.1 bt207.2 true)))))))))) = some r := by rw [if_neg (show ¬ (false = true) by decide)] at H; exact H
    clear H
    have H := H1
    clear H1
    replace H := Option.bind_eq_some_iff.mp H
    obtain ⟨⟨t185, t186, t187, t188⟩, A40, H⟩ := H
    replace H : ((impl_SwapCell.f t185 t186 t187 t188).bind fun bt191 => ((spec_SwapCell.f t185 t186 t187 t188).bind fun bt195 => ((impl_StoreCell.f t185 t186 t188).bind fun bt199 => ((spec_StoreCell.f t185 t186 t188).bind fun bt203 => ((impl_LoadCell.f t185 t186).bind fun bt207 => (if (bt191.2 != bt195.2) = true then (laws_FnCells.j0 k t185 t187 bt191.2 bt199.1 bt207.1 bt207.2 true) else ((laws_sameInts.f k bt191.1 bt195.1).bind fun t209 => (if t209 = true then (if (bt199.2 != bt203.2) = true then (laws_FnCells.j0 k t185 t187 bt191.2 bt199.1 bt207.1 bt207.2 true) else ((laws_sameInts.f k bt199.1 bt203.1).bind fun t210 => (if t210 = true then (if (bt207.2 != bt199.2) = true then (laws_FnCells.j0 k t185 t187 bt191.2 bt199.1 bt207.1 bt207.2 true) else (if bt191.2 = true then ((laws_sameInts.f k bt191.1 bt199.1).bind fun t211 => (if t211 = true then (laws_FnCells.j0 k t185 t187 bt191.2 bt199.1 bt207.1 bt207.2 false) else (laws_FnCells.j0 k t185 t187 bt191.2 bt199.1 bt207.1 bt207.2 true))) else ((laws_sameInts.f k bt191.1 t185).bind fun t212 => (laws_FnCells.j0 k t185 t187 bt191.2 bt199.1 bt207.1 bt207.2 (!t212))))) else (laws_FnCells.j0 k t185 t187 bt191.2 bt199.1 bt207.1 bt207.2 true)))) else (laws_FnCells.j0 k t185 t187 bt191.2 bt199.1 bt207.1 bt207.2 true))))))))) = some r := H
    have A4 := Aside0.mk A40
    clear A40
    replace H := Option.bind_eq_some_iff.mp H
    obtain ⟨⟨t191, t192⟩, A50, H⟩ := H
    replace H : ((spec_SwapCell.f t185 t186 t187 t188).bind fun bt195 => ((impl_StoreCell.f t185 t186 t188).bind fun bt199 => ((spec_StoreCell.f t185 t186 t188).bind fun bt203 => ((impl_LoadCell.f t185 t186).bind fun bt207 => (if (t192 != bt195.2) = true then (laws_FnCells.j0 k t185 t187 t192 bt199.1 bt207.1 bt207.2 true) else ((laws_sameInts.f k t191 bt195.1).bind fun t209 => (if t209 = true then (if (bt199.2 != bt203.2) = true then (laws_FnCells.j0 k t185 t187 t192 bt199.1 bt207.1 bt207.2 true) else ((laws_sameInts.f k bt199.1 bt203.1).bind fun t210 => (if t210 = true then (if (bt207.2 != bt199.2) = true then (laws_FnCells.j0 k t185 t187 t192 bt199.1 bt207.1 bt207.2 true) else (if t192 = true then ((laws_sameInts.f k t191 bt199.1).bind fun t211 => (if t211 = true then (laws_FnCells.j0 k t185 t187 t192 bt199.1 bt207.1 bt207.2 false) else (laws_FnCells.j0 k t185 t187 t192 bt199.1 bt207.1 bt207.2 true))) else ((laws_sameInts.f k t191 t185).bind fun t212 => (laws_FnCells.j0 k t185 t187 t192 bt199.1 bt207.1 bt207.2 (!t212))))) else (laws_FnCells.j0 k t185 t187 t192 bt199.1 bt207.1 bt207.2 true)))) else (laws_FnCells.j0 k t185 t187 t192 bt199.1 bt207.1 bt207.2 true)))))))) = some r := H
    have A5 := Aside0.mk A50
    clear A50
    replace H := Option.bind_eq_some_iff.mp H
    obtain ⟨⟨t195, t196⟩, A60, H⟩ := H
    replace H : ((impl_StoreCell.f t185 t186 t188).bind fun bt199 => ((spec_StoreCell.f t185 t186 t188).bind fun bt203 => ((impl_LoadCell.f t185 t186).bind fun bt207 => (if (t192 != t196) = true then (laws_FnCells.j0 k t185 t187 t192 bt199.1 bt207.1 bt207.2 true) else ((laws_sameInts.f k t191 t195).bind fun t209 => (if t209 = true then (if (bt199.2 != bt203.2) = true then (laws_FnCells.j0 k t185 t187 t192 bt199.1 bt207.1 bt207.2 true) else ((laws_sameInts.f k bt199.1 bt203.1).bind fun t210 => (if t210 = true then (if (bt207.2 != bt199.2) = true then (laws_FnCells.j0 k t185 t187 t192 bt199.1 bt207.1 bt207.2 true) else (if t192 = true then ((laws_sameInts.f k t191 bt199.1).bind fun t211 => (if t211 = true then (laws_FnCells.j0 k t185 t187 t192 bt199.1 bt207.1 bt207.2 false) else (laws_FnCells.j0 k t185 t187 t192 bt199.1 bt207.1 bt207.2 true))) else ((laws_sameInts.f k t191 t185).bind fun t212 => (laws_FnCells.j0 k t185 t187 t192 bt199.1 bt207.1 bt207.2 (!t212))))) else (laws_FnCells.j0 k t185 t187 t192 bt199.1 bt207.1 bt207.2 true)))) else (laws_FnCells.j0 k t185 t187 t192 bt199.1 bt207.1 bt207.2 true))))))) = some r := H
    have A6 := Aside0.mk A60
    clear A60
    replace H := Option.bind_eq_some_iff.mp H
    obtain ⟨⟨t199, t200⟩, A70, H⟩ := H
    replace H : ((spec_StoreCell.f t185 t186 t188).bind fun bt203 => ((impl_LoadCell.f t185 t186).bind fun bt207 => (if (t192 != t196) = true then (laws_FnCells.j0 k t185 t187 t192 t199 bt207.1 bt207.2 true) else ((laws_sameInts.f k t191 t195).bind fun t209 => (if t209 = true then (if (t200 != bt203.2) = true then (laws_FnCells.j0 k t185 t187 t192 t199 bt207.1 bt207.2 true) else ((laws_sameInts.f k t199 bt203.1).bind fun t210 => (if t210 = true then (if (bt207.2 != t200) = true then (laws_FnCells.j0 k t185 t187 t192 t199 bt207.1 bt207.2 true) else (if t192 = true then ((laws_sameInts.f k t191 t199).bind fun t211 => (if t211 = true then (laws_FnCells.j0 k t185 t187 t192 t199 bt207.1 bt207.2 false) else (laws_FnCells.j0 k t185 t187 t192 t199 bt207.1 bt207.2 true))) else ((laws_sameInts.f k t191 t185).bind fun t212 => (laws_FnCells.j0 k t185 t187 t192 t199 bt207.1 bt207.2 (!t212))))) else (laws_FnCells.j0 k t185 t187 t192 t199 bt207.1 bt207.2 true)))) else (laws_FnCells.j0 k t185 t187 t192 t199 bt207.1 bt207.2 true)))))) = some r := H
    have A7 := Aside0.mk A70
    clear A70
    replace H := Option.bind_eq_some_iff.mp H
    obtain ⟨⟨t203, t204⟩, A80, H⟩ := H
    replace H : ((impl_LoadCell.f t185 t186).bind fun bt207 => (if (t192 != t196) = true then (laws_FnCells.j0 k t185 t187 t192 t199 bt207.1 bt207.2 true) else ((laws_sameInts.f k t191 t195).bind fun t209 => (if t209 = true then (if (t200 != t204) = true then (laws_FnCells.j0 k t185 t187 t192 t199 bt207.1 bt207.2 true) else ((laws_sameInts.f k t199 t203).bind fun t210 => (if t210 = true then (if (bt207.2 != t200) = true then (laws_FnCells.j0 k t185 t187 t192 t199 bt207.1 bt207.2 true) else (if t192 = true then ((laws_sameInts.f k t191 t199).bind fun t211 => (if t211 = true then (laws_FnCells.j0 k t185 t187 t192 t199 bt207.1 bt207.2 false) else (laws_FnCells.j0 k t185 t187 t192 t199 bt207.1 bt207.2 true))) else ((laws_sameInts.f k t191 t185).bind fun t212 => (laws_FnCells.j0 k t185 t187 t192 t199 bt207.1 bt207.2 (!t212))))) else (laws_FnCells.j0 k t185 t187 t192 t199 bt207.1 bt207.2 true)))) else (laws_FnCells.j0 k t185 t187 t192 t199 bt207.1 bt207.2 true))))) = some r := H
    have A8 := Aside0.mk A80
    clear A80
    replace H := Option.bind_eq_some_iff.mp H
    obtain ⟨⟨t207, t208⟩, A90, H⟩ := H
    replace H : (if (t192 != t196) = true then (laws_FnCells.j0 k t185 t187 t192 t199 t207 t208 true) else ((laws_sameInts.f k t191 t195).bind fun t209 => (if t209 = true then (if (t200 != t204) = true then (laws_FnCells.j0 k t185 t187 t192 t199 t207 t208 true) else ((laws_sameInts.f k t199 t203).bind fun t210 => (if t210 = true then (if (t208 != t200) = true then (laws_FnCells.j0 k t185 t187 t192 t199 t207 t208 true) else (if t192 = true then ((laws_sameInts.f k t191 t199).bind fun t211 => (if t211 = true then (laws_FnCells.j0 k t185 t187 t192 t199 t207 t208 false) else (laws_FnCells.j0 k t185 t187 t192 t199 t207 t208 true))) else ((laws_sameInts.f k t191 t185).bind fun t212 => (laws_FnCells.j0 k t185 t187 t192 t199 t207 t208 (!t212))))) else (laws_FnCells.j0 k t185 t187 t192 t199 t207 t208 true)))) else (laws_FnCells.j0 k t185 t187 t192 t199 t207 t208 true)))) = some r := H
    have A9 := Aside0.mk A90
    clear A90
    have HC10 := Aside0.mk H
    clear H
    go_enter Try.func13, Try.ntmps13
    go_upto_region 9 with (first | ((with_reducible refine gate_callee (f := 41) rfl ?_); refine goesL_ (some 18) rfl rfl Try.func41 (by kernel_rfl) rfl #[.slice A0 l0.length c0] rfl (by (try simp only [List.map_toArray, List.map_cons, List.map_nil]); first | done | rfl | (simp only [List.length_drop, List.length_take]; rfl)) ?_; (with_reducible refine (laws_big.calls _ _ l0 false _ ?side1 ?side2 A2.out).mono ?_); (case side1 => repeat (first | exact HR0.out | (with_reducible refine Kd.C_alloc ?_ _) | (with_reducible refine Kd.C_drewN ?_ _) | (with_reducible refine Kd.C_drew ?_))); (case side2 => exact HC0.out); rintro e w' ⟨rfl, ⟨nd, rfl⟩⟩; refine ⟨_, rfl, ?_⟩) | ((with_reducible refine gate_callee (f := 42) rfl ?_); refine goesL_ (some 21) rfl rfl Try.func42 (by kernel_rfl) rfl #[.slice A0 l0.length c0] rfl (by (try simp only [List.map_toArray, List.map_cons, List.map_nil]); first | done | rfl | (simp only [List.length_drop, List.length_take]; rfl)) ?_; (with_reducible refine (spec_DrawSwapCell.calls k _ _ l0 t185 t186 t187 t188 _ ?side1 ?side2 A4.out).mono ?_); (case side1 => repeat (first | exact HR0.out | (with_reducible refine Kd.C_alloc ?_ _) | (with_reducible refine Kd.C_drewN ?_ _) | (with_reducible refine Kd.C_drew ?_))); (case side2 => exact HC0.out); rintro e w11 ⟨v189, rfl, ho0, hb⟩; refine ⟨_, rfl, ?_⟩; have n0_ := Aside0.mk (Kd.R_lower ho0 (below_size (by repeat (first | (with_reducible first | exact HB.out | apply below_alloc | apply pw_below_drewN | apply below_drew1) | exact HB.out)))); have n1_ := Aside0.mk (below_step (by repeat (first | (with_reducible first | exact HB.out | apply below_alloc | apply pw_below_drewN | apply below_drew1) | exact HB.out)) hb); clear HB; have HO190 := n0_; have HB := n1_; clear n0_ n1_; (try clear hb); (try clear hb2); (try clear hk); (try clear hi); (try clear ho0); obtain ⟨Ao12, co12, eo12⟩ := Kd.R_slice HO190.out; subst eo12) | ((with_reducible refine gate_callee (f := 33) rfl ?_); refine goesL_ (some 31) rfl rfl Try.func33 (by kernel_rfl) rfl #[.slice Ao12 t185.length co12, .int .i64 t186, .int .i64 t187, .int .i64 t188] rfl (by (try simp only [List.map_toArray, List.map_cons, List.map_nil]); first | done | rfl | (simp only [List.length_drop, List.length_take]; rfl)) ?_; (with_reducible refine (impl_SwapCell.calls _ _ t185 t186 t187 t188 t191 t192 _ ?side1 ?side2 A5.out).mono ?_); (case side1 => repeat (first | exact (Kd.R_reads' HO190.out).2.2 | (with_reducible refine Kd.C_alloc ?_ _) | (with_reducible refine Kd.C_drewN ?_ _) | (with_reducible refine Kd.C_drew ?_))); (case side2 => exact (Kd.R_reads' HO190.out).2.1); rintro e w13 ⟨v193, rfl, ho0, hb⟩; refine ⟨_, rfl, ?_⟩; have n0_ := Aside0.mk (Kd.R_elder' (by (with_reducible repeat (first | apply Kd.R_alloc | apply Kd.R_drewN | apply Kd.R_drew)); exact HO190.out) (Kd.R_base ho0) hb); have n1_ := Aside0.mk (Kd.R_lower (Kd.R_new' ho0 (Kd.R_lt (by (with_reducible repeat (first | apply Kd.R_alloc | apply Kd.R_drewN | apply Kd.R_drew)); exact HO190.out))) (below_size (by repeat (first | (with_reducible first | exact HB.out | apply below_alloc | apply pw_below_drewN | apply below_drew1) | exact HB.out)))); have n2_ := Aside0.mk (below_step (by repeat (first | (with_reducible first | exact HB.out | apply below_alloc | apply pw_below_drewN | apply below_drew1) | exact HB.out)) hb); clear HO190; clear HB; have HO190 := n0_; have HO194 := n1_; have HB := n2_; clear n0_ n1_ n2_; (try clear hb); (try clear hb2); (try clear hk); (try clear hi); (try clear ho0)) | ((with_reducible refine gate_callee (f := 32) rfl ?_); refine goesL_ (some 39) rfl rfl Try.func32 (by kernel_rfl) rfl #[.slice Ao12 t185.length co12, .int .i64 t186, .int .i64 t187, .int .i64 t188] rfl (by (try simp only [List.map_toArray, List.map_cons, List.map_nil]); first | done | rfl | (simp only [List.length_drop, List.length_take]; rfl)) ?_; (with_reducible refine (spec_SwapCell.calls _ _ t185 t186 t187 t188 t195 t196 _ ?side1 ?side2 A6.out).mono ?_); (case side1 => repeat (first | exact (Kd.R_reads' HO190.out).2.2 | (with_reducible refine Kd.C_alloc ?_ _) | (with_reducible refine Kd.C_drewN ?_ _) | (with_reducible refine Kd.C_drew ?_))); (case side2 => exact (Kd.R_reads' HO190.out).2.1); rintro e w14 ⟨v197, rfl, ho0, hb⟩; refine ⟨_, rfl, ?_⟩; have n0_ := Aside0.mk (Kd.R_elder' (by (with_reducible repeat (first | apply Kd.R_alloc | apply Kd.R_drewN | apply Kd.R_drew)); exact HO190.out) (Kd.R_base ho0) hb); have n1_ := Aside0.mk (Kd.R_elder' (by (with_reducible repeat (first | apply Kd.R_alloc | apply Kd.R_drewN | apply Kd.R_drew)); exact HO194.out) (Kd.R_base ho0) hb); have n2_ := Aside0.mk (Kd.R_lower (Kd.R_new' (Kd.R_new' ho0 (Kd.R_lt (by (with_reducible repeat (first | apply Kd.R_alloc | apply Kd.R_drewN | apply Kd.R_drew)); exact HO190.out))) (Kd.R_lt (by (with_reducible repeat (first | apply Kd.R_alloc | apply Kd.R_drewN | apply Kd.R_drew)); exact HO194.out))) (below_size (by repeat (first | (with_reducible first | exact HB.out | apply below_alloc | apply pw_below_drewN | apply below_drew1) | exact HB.out)))); have n3_ := Aside0.mk (below_step (by repeat (first | (with_reducible first | exact HB.out | apply below_alloc | apply pw_below_drewN | apply below_drew1) | exact HB.out)) hb); clear HO190; clear HO194; clear HB; have HO190 := n0_; have HO194 := n1_; have HO198 := n2_; have HB := n3_; clear n0_ n1_ n2_ n3_; (try clear hb); (try clear hb2); (try clear hk); (try clear hi); (try clear ho0)) | ((with_reducible refine gate_callee (f := 29) rfl ?_); refine goesL_ (some 46) rfl rfl Try.func29 (by kernel_rfl) rfl #[.slice Ao12 t185.length co12, .int .i64 t186, .int .i64 t188] rfl (by (try simp only [List.map_toArray, List.map_cons, List.map_nil]); first | done | rfl | (simp only [List.length_drop, List.length_take]; rfl)) ?_; (with_reducible refine (impl_StoreCell.calls _ _ t185 t186 t188 t199 t200 _ ?side1 ?side2 A7.out).mono ?_); (case side1 => repeat (first | exact (Kd.R_reads' HO190.out).2.2 | (with_reducible refine Kd.C_alloc ?_ _) | (with_reducible refine Kd.C_drewN ?_ _) | (with_reducible refine Kd.C_drew ?_))); (case side2 => exact (Kd.R_reads' HO190.out).2.1); rintro e w15 ⟨v201, rfl, ho0, hb⟩; refine ⟨_, rfl, ?_⟩; have n0_ := Aside0.mk (Kd.R_elder' (by (with_reducible repeat (first | apply Kd.R_alloc | apply Kd.R_drewN | apply Kd.R_drew)); exact HO190.out) (Kd.R_base ho0) hb); have n1_ := Aside0.mk (Kd.R_elder' (by (with_reducible repeat (first | apply Kd.R_alloc | apply Kd.R_drewN | apply Kd.R_drew)); exact HO194.out) (Kd.R_base ho0) hb); have n2_ := Aside0.mk (Kd.R_elder' (by (with_reducible repeat (first | apply Kd.R_alloc | apply Kd.R_drewN | apply Kd.R_drew)); exact HO198.out) (Kd.R_base ho0) hb); have n3_ := Aside0.mk (Kd.R_lower (Kd.R_new' (Kd.R_new' (Kd.R_new' ho0 (Kd.R_lt (by (with_reducible repeat (first | apply Kd.R_alloc | apply Kd.R_drewN | apply Kd.R_drew)); exact HO190.out))) (Kd.R_lt (by (with_reducible repeat (first | apply Kd.R_alloc | apply Kd.R_drewN | apply Kd.R_drew)); exact HO194.out))) (Kd.R_lt (by (with_reducible repeat (first | apply Kd.R_alloc | apply Kd.R_drewN | apply Kd.R_drew)); exact HO198.out))) (below_size (by repeat (first | (with_reducible first | exact HB.out | apply below_alloc | apply pw_below_drewN | apply below_drew1) | exact HB.out)))); have n4_ := Aside0.mk (below_step (by repeat (first | (with_reducible first | exact HB.out | apply below_alloc | apply pw_below_drewN | apply below_drew1) | exact HB.out)) hb); clear HO190; clear HO194; clear HO198; clear HB; have HO190 := n0_; have HO194 := n1_; have HO198 := n2_; have HO202 := n3_; have HB := n4_; clear n0_ n1_ n2_ n3_ n4_; (try clear hb); (try clear hb2); (try clear hk); (try clear hi); (try clear ho0)) | ((with_reducible refine gate_callee (f := 28) rfl ?_); refine goesL_ (some 53) rfl rfl Try.func28 (by kernel_rfl) rfl #[.slice Ao12 t185.length co12, .int .i64 t186, .int .i64 t188] rfl (by (try simp only [List.map_toArray, List.map_cons, List.map_nil]); first | done | rfl | (simp only [List.length_drop, List.length_take]; rfl)) ?_; (with_reducible refine (spec_StoreCell.calls _ _ t185 t186 t188 t203 t204 _ ?side1 ?side2 A8.out).mono ?_); (case side1 => repeat (first | exact (Kd.R_reads' HO190.out).2.2 | (with_reducible refine Kd.C_alloc ?_ _) | (with_reducible refine Kd.C_drewN ?_ _) | (with_reducible refine Kd.C_drew ?_))); (case side2 => exact (Kd.R_reads' HO190.out).2.1); rintro e w16 ⟨v205, rfl, ho0, hb⟩; refine ⟨_, rfl, ?_⟩; have n0_ := Aside0.mk (Kd.R_elder' (by (with_reducible repeat (first | apply Kd.R_alloc | apply Kd.R_drewN | apply Kd.R_drew)); exact HO190.out) (Kd.R_base ho0) hb); have n1_ := Aside0.mk (Kd.R_elder' (by (with_reducible repeat (first | apply Kd.R_alloc | apply Kd.R_drewN | apply Kd.R_drew)); exact HO194.out) (Kd.R_base ho0) hb); have n2_ := Aside0.mk (Kd.R_elder' (by (with_reducible repeat (first | apply Kd.R_alloc | apply Kd.R_drewN | apply Kd.R_drew)); exact HO198.out) (Kd.R_base ho0) hb); have n3_ := Aside0.mk (Kd.R_elder' (by (with_reducible repeat (first | apply Kd.R_alloc | apply Kd.R_drewN | apply Kd.R_drew)); exact HO202.out) (Kd.R_base ho0) hb); have n4_ := Aside0.mk (Kd.R_lower (Kd.R_new' (Kd.R_new' (Kd.R_new' (Kd.R_new' ho0 (Kd.R_lt (by (with_reducible repeat (first | apply Kd.R_alloc | apply Kd.R_drewN | apply Kd.R_drew)); exact HO190.out))) (Kd.R_lt (by (with_reducible repeat (first | apply Kd.R_alloc | apply Kd.R_drewN | apply Kd.R_drew)); exact HO194.out))) (Kd.R_lt (by (with_reducible repeat (first | apply Kd.R_alloc | apply Kd.R_drewN | apply Kd.R_drew)); exact HO198.out))) (Kd.R_lt (by (with_reducible repeat (first | apply Kd.R_alloc | apply Kd.R_drewN | apply Kd.R_drew)); exact HO202.out))) (below_size (by repeat (first | (with_reducible first | exact HB.out | apply below_alloc | apply pw_below_drewN | apply below_drew1) | exact HB.out)))); have n5_ := Aside0.mk (below_step (by repeat (first | (with_reducible first | exact HB.out | apply below_alloc | apply pw_below_drewN | apply below_drew1) | exact HB.out)) hb); clear HO190; clear HO194; clear HO198; clear HO202; clear HB; have HO190 := n0_; have HO194 := n1_; have HO198 := n2_; have HO202 := n3_; have HO206 := n4_; have HB := n5_; clear n0_ n1_ n2_ n3_ n4_ n5_; (try clear hb); (try clear hb2); (try clear hk); (try clear hi); (try clear ho0)) | ((with_reducible refine gate_callee (f := 43) rfl ?_); refine goesL_ (some 59) rfl rfl Try.func43 (by kernel_rfl) rfl #[.slice Ao12 t185.length co12, .int .i64 t186] rfl (by (try simp only [List.map_toArray, List.map_cons, List.map_nil]); first | done | rfl | (simp only [List.length_drop, List.length_take]; rfl)) ?_; (with_reducible refine (impl_LoadCell.calls _ _ t185 t186 t207 t208 _ ?side1 ?side2 A9.out).mono ?_); (case side1 => repeat (first | exact (Kd.R_reads' HO190.out).2.2 | (with_reducible refine Kd.C_alloc ?_ _) | (with_reducible refine Kd.C_drewN ?_ _) | (with_reducible refine Kd.C_drew ?_))); (case side2 => exact (Kd.R_reads' HO190.out).2.1); rintro e w' ⟨rfl, ⟨nd, rfl⟩⟩; refine ⟨_, rfl, ?_⟩))
    (try simp only [Act.put, List.setIfInBounds_toArray, List.set_cons_zero, List.set_cons_succ])
    go_cut [105] (fun v105 wc => ∃ (kq : Nat) (x105_9 : Bool), v105 = .bool x105_9 ∧ Aside0 (laws_FnCells.j0 kq t185 t187 t192 t199 t207 t208 x105_9 = some r) ∧ Aside0 (kq ≤ k) ∧ Aside0 (Kd.R (Kd.int .i64) 3 wc w.heap.size (fun k_ => some k_ ≠ (v201 : Value).ownBlock) (.slice Ao12 t185.length co12) t185) ∧ Aside0 (Kd.R (Kd.int .i64) 3 wc w.heap.size (fun k_ => some k_ ≠ ((.slice Ao12 t185.length co12) : Value).ownBlock) v201 t199) ∧ Aside0 (Below w.heap.size w wc))
    case first =>
      have H := HC10.out
      clear HC10
      by_cases c17 : (t192 != t196) = true
      · rw [if_pos c17] at H
        have c17b0 : (t192 != t196) = true := c17
        (try (have c17b1 : decide (t192 = t196) = false := by simpa using c17))
        (try (have c17b2 : (t192 == t196) = false := by simpa using c17))
        (try (have c17b3 : ¬ (t192 = t196) := by simpa using c17))
        clear c17
        (first | rw [c17b0] | (simp only [i64_w, i32_w]; rw [c17b0]) | skip)
        have H' := Aside0.mk H
        clear H
        go_wp2
        go_meet
        case rel => exact ⟨_, (true), (by first | rfl | (simp; done) | (simp [*]; done)), H', ⟨by first | omega | exact Nat.le_refl _⟩, ⟨by (with_reducible repeat (first | apply Kd.R_alloc | apply Kd.R_drewN | apply Kd.R_drew)); exact Kd.R_mono HO190.out (fun _ hk => hk.1.2)⟩, ⟨by (with_reducible repeat (first | apply Kd.R_alloc | apply Kd.R_drewN | apply Kd.R_drew)); exact Kd.R_mono HO202.out (fun _ hk => hk.1.1.1.2)⟩, ⟨by repeat (first | (with_reducible first | exact HB.out | apply below_alloc | apply pw_below_drewN | apply below_drew1) | exact HB.out)⟩⟩
      · rw [if_neg c17] at H
        have c17b0 : (t192 != t196) = false := by simpa using c17
        (try (have c17b1 : decide (t192 = t196) = true := by simpa using c17))
        (try (have c17b2 : (t192 == t196) = true := by simpa using c17))
        clear c17
        (first | rw [c17b0] | (simp only [i64_w, i32_w]; rw [c17b0]) | skip)
        replace H := Option.bind_eq_some_iff.mp H
        obtain ⟨t209, A180, H⟩ := H
        replace H : (if t209 = true then (if (t200 != t204) = true then (laws_FnCells.j0 k t185 t187 t192 t199 t207 t208 true) else ((laws_sameInts.f k t199 t203).bind fun t210 => (if t210 = true then (if (t208 != t200) = true then (laws_FnCells.j0 k t185 t187 t192 t199 t207 t208 true) else (if t192 = true then ((laws_sameInts.f k t191 t199).bind fun t211 => (if t211 = true then (laws_FnCells.j0 k t185 t187 t192 t199 t207 t208 false) else (laws_FnCells.j0 k t185 t187 t192 t199 t207 t208 true))) else ((laws_sameInts.f k t191 t185).bind fun t212 => (laws_FnCells.j0 k t185 t187 t192 t199 t207 t208 (!t212))))) else (laws_FnCells.j0 k t185 t187 t192 t199 t207 t208 true)))) else (laws_FnCells.j0 k t185 t187 t192 t199 t207 t208 true)) = some r := H
        have A18 := Aside0.mk A180
        clear A180
        by_cases c19 : t209 = true
        · subst c19
          have H1 : (if (t200 != t204) = true then (laws_FnCells.j0 k t185 t187 t192 t199 t207 t208 true) else ((laws_sameInts.f k t199 t203).bind fun t210 => (if t210 = true then (if (t208 != t200) = true then (laws_FnCells.j0 k t185 t187 t192 t199 t207 t208 true) else (if t192 = true then ((laws_sameInts.f k t191 t199).bind fun t211 => (if t211 = true then (laws_FnCells.j0 k t185 t187 t192 t199 t207 t208 false) else (laws_FnCells.j0 k t185 t187 t192 t199 t207 t208 true))) else ((laws_sameInts.f k t191 t185).bind fun t212 => (laws_FnCells.j0 k t185 t187 t192 t199 t207 t208 (!t212))))) else (laws_FnCells.j0 k t185 t187 t192 t199 t207 t208 true)))) = some r := by rw [if_pos rfl] at H; exact H
          clear H
          have H := H1
          clear H1
          by_cases c20 : (t200 != t204) = true
          · rw [if_pos c20] at H
            have c20b0 : (t200 != t204) = true := c20
            (try (have c20b1 : decide (t200 = t204) = false := by simpa using c20))
            (try (have c20b2 : (t200 == t204) = false := by simpa using c20))
            (try (have c20b3 : ¬ (t200 = t204) := by simpa using c20))
            clear c20
            have H' := Aside0.mk H
            clear H
            obtain ⟨Ao21, co21, eo21⟩ := Kd.R_slice HO194.out
            subst eo21
            obtain ⟨Ao22, co22, eo22⟩ := Kd.R_slice HO198.out
            subst eo22
            go_wp2_with (first | (go_at_call 44; (with_reducible refine (laws_sameInts.calls k _ _ t191 _ _ t195 true _ ?side1 ?side2 ?side3 ?side4 A18.out).mono ?_); (case side1 => repeat (first | exact (Kd.R_reads' HO194.out).2.2 | (with_reducible refine Kd.C_alloc ?_ _) | (with_reducible refine Kd.C_drewN ?_ _) | (with_reducible refine Kd.C_drew ?_))); (case side2 => exact (Kd.R_reads' HO194.out).2.1); (case side3 => repeat (first | exact (Kd.R_reads' HO198.out).2.2 | (with_reducible refine Kd.C_alloc ?_ _) | (with_reducible refine Kd.C_drewN ?_ _) | (with_reducible refine Kd.C_drew ?_))); (case side4 => exact (Kd.R_reads' HO198.out).2.1); rintro e w' ⟨rfl, ⟨nd, rfl⟩⟩))
            go_meet
            case rel => exact ⟨_, (true), (by first | rfl | (simp; done) | (simp [*]; done)), H', ⟨by first | omega | exact Nat.le_refl _⟩, ⟨by (with_reducible repeat (first | apply Kd.R_alloc | apply Kd.R_drewN | apply Kd.R_drew)); exact Kd.R_mono HO190.out (fun _ hk => hk.1.2)⟩, ⟨by (with_reducible repeat (first | apply Kd.R_alloc | apply Kd.R_drewN | apply Kd.R_drew)); exact Kd.R_mono HO202.out (fun _ hk => hk.1.1.1.2)⟩, ⟨by repeat (first | (with_reducible first | exact HB.out | apply below_alloc | apply pw_below_drewN | apply below_drew1) | exact HB.out)⟩⟩
          · rw [if_neg c20] at H
            have c20b0 : (t200 != t204) = false := by simpa using c20
            (try (have c20b1 : decide (t200 = t204) = true := by simpa using c20))
            (try (have c20b2 : (t200 == t204) = true := by simpa using c20))
            clear c20
            replace H := Option.bind_eq_some_iff.mp H
            obtain ⟨t210, A230, H⟩ := H
            replace H : (if t210 = true then (if (t208 != t200) = true then (laws_FnCells.j0 k t185 t187 t192 t199 t207 t208 true) else (if t192 = true then ((laws_sameInts.f k t191 t199).bind fun t211 => (if t211 = true then (laws_FnCells.j0 k t185 t187 t192 t199 t207 t208 false) else (laws_FnCells.j0 k t185 t187 t192 t199 t207 t208 true))) else ((laws_sameInts.f k t191 t185).bind fun t212 => (laws_FnCells.j0 k t185 t187 t192 t199 t207 t208 (!t212))))) else (laws_FnCells.j0 k t185 t187 t192 t199 t207 t208 true)) = some r := H
            have A23 := Aside0.mk A230
            clear A230
            by_cases c24 : t210 = true
            · subst c24
              have H1 : (if (t208 != t200) = true then (laws_FnCells.j0 k t185 t187 t192 t199 t207 t208 true) else (if t192 = true then ((laws_sameInts.f k t191 t199).bind fun t211 => (if t211 = true then (laws_FnCells.j0 k t185 t187 t192 t199 t207 t208 false) else (laws_FnCells.j0 k t185 t187 t192 t199 t207 t208 true))) else ((laws_sameInts.f k t191 t185).bind fun t212 => (laws_FnCells.j0 k t185 t187 t192 t199 t207 t208 (!t212))))) = some r := by rw [if_pos rfl] at H; exact H
              clear H
              have H := H1
              clear H1
              by_cases c25 : (t208 != t200) = true
              · rw [if_pos c25] at H
                have c25b0 : (t208 != t200) = true := c25
                (try (have c25b1 : decide (t208 = t200) = false := by simpa using c25))
                (try (have c25b2 : (t208 == t200) = false := by simpa using c25))
                (try (have c25b3 : ¬ (t208 = t200) := by simpa using c25))
                clear c25
                have H' := Aside0.mk H
                clear H
                obtain ⟨Ao26, co26, eo26⟩ := Kd.R_slice HO194.out
                subst eo26
                obtain ⟨Ao27, co27, eo27⟩ := Kd.R_slice HO198.out
                subst eo27
                go_wp2_with (first | (go_at_call 44; (with_reducible refine (laws_sameInts.calls k _ _ t191 _ _ t195 true _ ?side1 ?side2 ?side3 ?side4 A18.out).mono ?_); (case side1 => repeat (first | exact (Kd.R_reads' HO194.out).2.2 | (with_reducible refine Kd.C_alloc ?_ _) | (with_reducible refine Kd.C_drewN ?_ _) | (with_reducible refine Kd.C_drew ?_))); (case side2 => exact (Kd.R_reads' HO194.out).2.1); (case side3 => repeat (first | exact (Kd.R_reads' HO198.out).2.2 | (with_reducible refine Kd.C_alloc ?_ _) | (with_reducible refine Kd.C_drewN ?_ _) | (with_reducible refine Kd.C_drew ?_))); (case side4 => exact (Kd.R_reads' HO198.out).2.1); rintro e w' ⟨rfl, ⟨nd, rfl⟩⟩; obtain ⟨Ao28, co28, eo28⟩ := Kd.R_slice HO202.out; subst eo28; obtain ⟨Ao29, co29, eo29⟩ := Kd.R_slice HO206.out; subst eo29) | (go_at_call 44; (with_reducible refine (laws_sameInts.calls k _ _ t199 _ _ t203 true _ ?side1 ?side2 ?side3 ?side4 A23.out).mono ?_); (case side1 => repeat (first | exact (Kd.R_reads' HO202.out).2.2 | (with_reducible refine Kd.C_alloc ?_ _) | (with_reducible refine Kd.C_drewN ?_ _) | (with_reducible refine Kd.C_drew ?_))); (case side2 => exact (Kd.R_reads' HO202.out).2.1); (case side3 => repeat (first | exact (Kd.R_reads' HO206.out).2.2 | (with_reducible refine Kd.C_alloc ?_ _) | (with_reducible refine Kd.C_drewN ?_ _) | (with_reducible refine Kd.C_drew ?_))); (case side4 => exact (Kd.R_reads' HO206.out).2.1); rintro e w' ⟨rfl, ⟨nd, rfl⟩⟩))
                go_meet
                case rel => exact ⟨_, (true), (by first | rfl | (simp; done) | (simp [*]; done)), H', ⟨by first | omega | exact Nat.le_refl _⟩, ⟨by (with_reducible repeat (first | apply Kd.R_alloc | apply Kd.R_drewN | apply Kd.R_drew)); exact Kd.R_mono HO190.out (fun _ hk => hk.1.2)⟩, ⟨by (with_reducible repeat (first | apply Kd.R_alloc | apply Kd.R_drewN | apply Kd.R_drew)); exact Kd.R_mono HO202.out (fun _ hk => hk.1.1.1.2)⟩, ⟨by repeat (first | (with_reducible first | exact HB.out | apply below_alloc | apply pw_below_drewN | apply below_drew1) | exact HB.out)⟩⟩
              · rw [if_neg c25] at H
                have c25b0 : (t208 != t200) = false := by simpa using c25
                (try (have c25b1 : decide (t208 = t200) = true := by simpa using c25))
                (try (have c25b2 : (t208 == t200) = true := by simpa using c25))
                clear c25
                by_cases c30 : t192 = true
                · subst c30
                  have H1 : ((laws_sameInts.f k t191 t199).bind fun t211 => (if t211 = true then (laws_FnCells.j0 k t185 t187 true t199 t207 t208 false) else (laws_FnCells.j0 k t185 t187 true t199 t207 t208 true))) = some r := by rw [if_pos rfl] at H; exact H
                  clear H
                  have H := H1
                  clear H1
                  replace H := Option.bind_eq_some_iff.mp H
                  obtain ⟨t211, A310, H⟩ := H
                  replace H : (if t211 = true then (laws_FnCells.j0 k t185 t187 true t199 t207 t208 false) else (laws_FnCells.j0 k t185 t187 true t199 t207 t208 true)) = some r := H
                  have A31 := Aside0.mk A310
                  clear A310
                  by_cases c32 : t211 = true
                  · subst c32
                    have H1 : (laws_FnCells.j0 k t185 t187 true t199 t207 t208 false) = some r := by rw [if_pos rfl] at H; exact H
                    clear H
                    have H := H1
                    clear H1
                    have H' := Aside0.mk H
                    clear H
                    obtain ⟨Ao33, co33, eo33⟩ := Kd.R_slice HO194.out
                    subst eo33
                    obtain ⟨Ao34, co34, eo34⟩ := Kd.R_slice HO198.out
                    subst eo34
                    go_wp2_with (first | (go_at_call 44; (with_reducible refine (laws_sameInts.calls k _ _ t191 _ _ t195 true _ ?side1 ?side2 ?side3 ?side4 A18.out).mono ?_); (case side1 => repeat (first | exact (Kd.R_reads' HO194.out).2.2 | (with_reducible refine Kd.C_alloc ?_ _) | (with_reducible refine Kd.C_drewN ?_ _) | (with_reducible refine Kd.C_drew ?_))); (case side2 => exact (Kd.R_reads' HO194.out).2.1); (case side3 => repeat (first | exact (Kd.R_reads' HO198.out).2.2 | (with_reducible refine Kd.C_alloc ?_ _) | (with_reducible refine Kd.C_drewN ?_ _) | (with_reducible refine Kd.C_drew ?_))); (case side4 => exact (Kd.R_reads' HO198.out).2.1); rintro e w' ⟨rfl, ⟨nd, rfl⟩⟩; obtain ⟨Ao35, co35, eo35⟩ := Kd.R_slice HO202.out; subst eo35; obtain ⟨Ao36, co36, eo36⟩ := Kd.R_slice HO206.out; subst eo36) | (go_at_call 44; (with_reducible refine (laws_sameInts.calls k _ _ t199 _ _ t203 true _ ?side1 ?side2 ?side3 ?side4 A23.out).mono ?_); (case side1 => repeat (first | exact (Kd.R_reads' HO202.out).2.2 | (with_reducible refine Kd.C_alloc ?_ _) | (with_reducible refine Kd.C_drewN ?_ _) | (with_reducible refine Kd.C_drew ?_))); (case side2 => exact (Kd.R_reads' HO202.out).2.1); (case side3 => repeat (first | exact (Kd.R_reads' HO206.out).2.2 | (with_reducible refine Kd.C_alloc ?_ _) | (with_reducible refine Kd.C_drewN ?_ _) | (with_reducible refine Kd.C_drew ?_))); (case side4 => exact (Kd.R_reads' HO206.out).2.1); rintro e w' ⟨rfl, ⟨nd, rfl⟩⟩) | (go_at_call 44; (with_reducible refine (laws_sameInts.calls k _ _ t191 _ _ t199 true _ ?side1 ?side2 ?side3 ?side4 A31.out).mono ?_); (case side1 => repeat (first | exact (Kd.R_reads' HO194.out).2.2 | (with_reducible refine Kd.C_alloc ?_ _) | (with_reducible refine Kd.C_drewN ?_ _) | (with_reducible refine Kd.C_drew ?_))); (case side2 => exact (Kd.R_reads' HO194.out).2.1); (case side3 => repeat (first | exact (Kd.R_reads' HO202.out).2.2 | (with_reducible refine Kd.C_alloc ?_ _) | (with_reducible refine Kd.C_drewN ?_ _) | (with_reducible refine Kd.C_drew ?_))); (case side4 => exact (Kd.R_reads' HO202.out).2.1); rintro e w' ⟨rfl, ⟨nd, rfl⟩⟩))
                    go_meet
                    case rel => exact ⟨_, (false), (by first | rfl | (simp; done) | (simp [*]; done)), H', ⟨by first | omega | exact Nat.le_refl _⟩, ⟨by (with_reducible repeat (first | apply Kd.R_alloc | apply Kd.R_drewN | apply Kd.R_drew)); exact Kd.R_mono HO190.out (fun _ hk => hk.1.2)⟩, ⟨by (with_reducible repeat (first | apply Kd.R_alloc | apply Kd.R_drewN | apply Kd.R_drew)); exact Kd.R_mono HO202.out (fun _ hk => hk.1.1.1.2)⟩, ⟨by repeat (first | (with_reducible first | exact HB.out | apply below_alloc | apply pw_below_drewN | apply below_drew1) | exact HB.out)⟩⟩
                  · replace c32 := Bool.eq_false_iff.mpr c32
                    subst c32
                    have H1 : (laws_FnCells.j0 k t185 t187 true t199 t207 t208 true) = some r := by rw [if_neg (show ¬ (false = true) by decide)] at H; exact H
                    clear H
                    have H := H1
                    clear H1
                    have H' := Aside0.mk H
                    clear H
                    obtain ⟨Ao37, co37, eo37⟩ := Kd.R_slice HO194.out
                    subst eo37
                    obtain ⟨Ao38, co38, eo38⟩ := Kd.R_slice HO198.out
                    subst eo38
                    go_wp2_with (first | (go_at_call 44; (with_reducible refine (laws_sameInts.calls k _ _ t191 _ _ t195 true _ ?side1 ?side2 ?side3 ?side4 A18.out).mono ?_); (case side1 => repeat (first | exact (Kd.R_reads' HO194.out).2.2 | (with_reducible refine Kd.C_alloc ?_ _) | (with_reducible refine Kd.C_drewN ?_ _) | (with_reducible refine Kd.C_drew ?_))); (case side2 => exact (Kd.R_reads' HO194.out).2.1); (case side3 => repeat (first | exact (Kd.R_reads' HO198.out).2.2 | (with_reducible refine Kd.C_alloc ?_ _) | (with_reducible refine Kd.C_drewN ?_ _) | (with_reducible refine Kd.C_drew ?_))); (case side4 => exact (Kd.R_reads' HO198.out).2.1); rintro e w' ⟨rfl, ⟨nd, rfl⟩⟩; obtain ⟨Ao39, co39, eo39⟩ := Kd.R_slice HO202.out; subst eo39; obtain ⟨Ao40, co40, eo40⟩ := Kd.R_slice HO206.out; subst eo40) | (go_at_call 44; (with_reducible refine (laws_sameInts.calls k _ _ t199 _ _ t203 true _ ?side1 ?side2 ?side3 ?side4 A23.out).mono ?_); (case side1 => repeat (first | exact (Kd.R_reads' HO202.out).2.2 | (with_reducible refine Kd.C_alloc ?_ _) | (with_reducible refine Kd.C_drewN ?_ _) | (with_reducible refine Kd.C_drew ?_))); (case side2 => exact (Kd.R_reads' HO202.out).2.1); (case side3 => repeat (first | exact (Kd.R_reads' HO206.out).2.2 | (with_reducible refine Kd.C_alloc ?_ _) | (with_reducible refine Kd.C_drewN ?_ _) | (with_reducible refine Kd.C_drew ?_))); (case side4 => exact (Kd.R_reads' HO206.out).2.1); rintro e w' ⟨rfl, ⟨nd, rfl⟩⟩) | (go_at_call 44; (with_reducible refine (laws_sameInts.calls k _ _ t191 _ _ t199 false _ ?side1 ?side2 ?side3 ?side4 A31.out).mono ?_); (case side1 => repeat (first | exact (Kd.R_reads' HO194.out).2.2 | (with_reducible refine Kd.C_alloc ?_ _) | (with_reducible refine Kd.C_drewN ?_ _) | (with_reducible refine Kd.C_drew ?_))); (case side2 => exact (Kd.R_reads' HO194.out).2.1); (case side3 => repeat (first | exact (Kd.R_reads' HO202.out).2.2 | (with_reducible refine Kd.C_alloc ?_ _) | (with_reducible refine Kd.C_drewN ?_ _) | (with_reducible refine Kd.C_drew ?_))); (case side4 => exact (Kd.R_reads' HO202.out).2.1); rintro e w' ⟨rfl, ⟨nd, rfl⟩⟩))
                    go_meet
                    case rel => exact ⟨_, (true), (by first | rfl | (simp; done) | (simp [*]; done)), H', ⟨by first | omega | exact Nat.le_refl _⟩, ⟨by (with_reducible repeat (first | apply Kd.R_alloc | apply Kd.R_drewN | apply Kd.R_drew)); exact Kd.R_mono HO190.out (fun _ hk => hk.1.2)⟩, ⟨by (with_reducible repeat (first | apply Kd.R_alloc | apply Kd.R_drewN | apply Kd.R_drew)); exact Kd.R_mono HO202.out (fun _ hk => hk.1.1.1.2)⟩, ⟨by repeat (first | (with_reducible first | exact HB.out | apply below_alloc | apply pw_below_drewN | apply below_drew1) | exact HB.out)⟩⟩
                · replace c30 := Bool.eq_false_iff.mpr c30
                  subst c30
                  have H1 : ((laws_sameInts.f k t191 t185).bind fun t212 => (laws_FnCells.j0 k t185 t187 false t199 t207 t208 (!t212))) = some r := by rw [if_neg (show ¬ (false = true) by decide)] at H; exact H
                  clear H
                  have H := H1
                  clear H1
                  replace H := Option.bind_eq_some_iff.mp H
                  obtain ⟨t212, A410, H⟩ := H
                  replace H : (laws_FnCells.j0 k t185 t187 false t199 t207 t208 (!t212)) = some r := H
                  have A41 := Aside0.mk A410
                  clear A410
                  have H' := Aside0.mk H
                  clear H
                  obtain ⟨Ao42, co42, eo42⟩ := Kd.R_slice HO194.out
                  subst eo42
                  obtain ⟨Ao43, co43, eo43⟩ := Kd.R_slice HO198.out
                  subst eo43
                  go_wp2_with (first | (go_at_call 44; (with_reducible refine (laws_sameInts.calls k _ _ t191 _ _ t195 true _ ?side1 ?side2 ?side3 ?side4 A18.out).mono ?_); (case side1 => repeat (first | exact (Kd.R_reads' HO194.out).2.2 | (with_reducible refine Kd.C_alloc ?_ _) | (with_reducible refine Kd.C_drewN ?_ _) | (with_reducible refine Kd.C_drew ?_))); (case side2 => exact (Kd.R_reads' HO194.out).2.1); (case side3 => repeat (first | exact (Kd.R_reads' HO198.out).2.2 | (with_reducible refine Kd.C_alloc ?_ _) | (with_reducible refine Kd.C_drewN ?_ _) | (with_reducible refine Kd.C_drew ?_))); (case side4 => exact (Kd.R_reads' HO198.out).2.1); rintro e w' ⟨rfl, ⟨nd, rfl⟩⟩; obtain ⟨Ao44, co44, eo44⟩ := Kd.R_slice HO202.out; subst eo44; obtain ⟨Ao45, co45, eo45⟩ := Kd.R_slice HO206.out; subst eo45) | (go_at_call 44; (with_reducible refine (laws_sameInts.calls k _ _ t199 _ _ t203 true _ ?side1 ?side2 ?side3 ?side4 A23.out).mono ?_); (case side1 => repeat (first | exact (Kd.R_reads' HO202.out).2.2 | (with_reducible refine Kd.C_alloc ?_ _) | (with_reducible refine Kd.C_drewN ?_ _) | (with_reducible refine Kd.C_drew ?_))); (case side2 => exact (Kd.R_reads' HO202.out).2.1); (case side3 => repeat (first | exact (Kd.R_reads' HO206.out).2.2 | (with_reducible refine Kd.C_alloc ?_ _) | (with_reducible refine Kd.C_drewN ?_ _) | (with_reducible refine Kd.C_drew ?_))); (case side4 => exact (Kd.R_reads' HO206.out).2.1); rintro e w' ⟨rfl, ⟨nd, rfl⟩⟩) | (go_at_call 44; (with_reducible refine (laws_sameInts.calls k _ _ t191 _ _ t185 t212 _ ?side1 ?side2 ?side3 ?side4 A41.out).mono ?_); (case side1 => repeat (first | exact (Kd.R_reads' HO194.out).2.2 | (with_reducible refine Kd.C_alloc ?_ _) | (with_reducible refine Kd.C_drewN ?_ _) | (with_reducible refine Kd.C_drew ?_))); (case side2 => exact (Kd.R_reads' HO194.out).2.1); (case side3 => repeat (first | exact (Kd.R_reads' HO190.out).2.2 | (with_reducible refine Kd.C_alloc ?_ _) | (with_reducible refine Kd.C_drewN ?_ _) | (with_reducible refine Kd.C_drew ?_))); (case side4 => exact (Kd.R_reads' HO190.out).2.1); rintro e w' ⟨rfl, ⟨nd, rfl⟩⟩))
                  go_meet
                  case rel => exact ⟨_, (!t212), (by first | rfl | (simp; done) | (simp [*]; done)), H', ⟨by first | omega | exact Nat.le_refl _⟩, ⟨by (with_reducible repeat (first | apply Kd.R_alloc | apply Kd.R_drewN | apply Kd.R_drew)); exact Kd.R_mono HO190.out (fun _ hk => hk.1.2)⟩, ⟨by (with_reducible repeat (first | apply Kd.R_alloc | apply Kd.R_drewN | apply Kd.R_drew)); exact Kd.R_mono HO202.out (fun _ hk => hk.1.1.1.2)⟩, ⟨by repeat (first | (with_reducible first | exact HB.out | apply below_alloc | apply pw_below_drewN | apply below_drew1) | exact HB.out)⟩⟩
            · replace c24 := Bool.eq_false_iff.mpr c24
              subst c24
              have H1 : (laws_FnCells.j0 k t185 t187 t192 t199 t207 t208 true) = some r := by rw [if_neg (show ¬ (false = true) by decide)] at H; exact H
              clear H
              have H := H1
              clear H1
              have H' := Aside0.mk H
              clear H
              obtain ⟨Ao46, co46, eo46⟩ := Kd.R_slice HO194.out
              subst eo46
              obtain ⟨Ao47, co47, eo47⟩ := Kd.R_slice HO198.out
              subst eo47
              go_wp2_with (first | (go_at_call 44; (with_reducible refine (laws_sameInts.calls k _ _ t191 _ _ t195 true _ ?side1 ?side2 ?side3 ?side4 A18.out).mono ?_); (case side1 => repeat (first | exact (Kd.R_reads' HO194.out).2.2 | (with_reducible refine Kd.C_alloc ?_ _) | (with_reducible refine Kd.C_drewN ?_ _) | (with_reducible refine Kd.C_drew ?_))); (case side2 => exact (Kd.R_reads' HO194.out).2.1); (case side3 => repeat (first | exact (Kd.R_reads' HO198.out).2.2 | (with_reducible refine Kd.C_alloc ?_ _) | (with_reducible refine Kd.C_drewN ?_ _) | (with_reducible refine Kd.C_drew ?_))); (case side4 => exact (Kd.R_reads' HO198.out).2.1); rintro e w' ⟨rfl, ⟨nd, rfl⟩⟩; obtain ⟨Ao48, co48, eo48⟩ := Kd.R_slice HO202.out; subst eo48; obtain ⟨Ao49, co49, eo49⟩ := Kd.R_slice HO206.out; subst eo49) | (go_at_call 44; (with_reducible refine (laws_sameInts.calls k _ _ t199 _ _ t203 false _ ?side1 ?side2 ?side3 ?side4 A23.out).mono ?_); (case side1 => repeat (first | exact (Kd.R_reads' HO202.out).2.2 | (with_reducible refine Kd.C_alloc ?_ _) | (with_reducible refine Kd.C_drewN ?_ _) | (with_reducible refine Kd.C_drew ?_))); (case side2 => exact (Kd.R_reads' HO202.out).2.1); (case side3 => repeat (first | exact (Kd.R_reads' HO206.out).2.2 | (with_reducible refine Kd.C_alloc ?_ _) | (with_reducible refine Kd.C_drewN ?_ _) | (with_reducible refine Kd.C_drew ?_))); (case side4 => exact (Kd.R_reads' HO206.out).2.1); rintro e w' ⟨rfl, ⟨nd, rfl⟩⟩))
              go_meet
              case rel => exact ⟨_, (true), (by first | rfl | (simp; done) | (simp [*]; done)), H', ⟨by first | omega | exact Nat.le_refl _⟩, ⟨by (with_reducible repeat (first | apply Kd.R_alloc | apply Kd.R_drewN | apply Kd.R_drew)); exact Kd.R_mono HO190.out (fun _ hk => hk.1.2)⟩, ⟨by (with_reducible repeat (first | apply Kd.R_alloc | apply Kd.R_drewN | apply Kd.R_drew)); exact Kd.R_mono HO202.out (fun _ hk => hk.1.1.1.2)⟩, ⟨by repeat (first | (with_reducible first | exact HB.out | apply below_alloc | apply pw_below_drewN | apply below_drew1) | exact HB.out)⟩⟩
        · replace c19 := Bool.eq_false_iff.mpr c19
          subst c19
          have H1 : (laws_FnCells.j0 k t185 t187 t192 t199 t207 t208 true) = some r := by rw [if_neg (show ¬ (false = true) by decide)] at H; exact H
          clear H
          have H := H1
          clear H1
          have H' := Aside0.mk H
          clear H
          obtain ⟨Ao50, co50, eo50⟩ := Kd.R_slice HO194.out
          subst eo50
          obtain ⟨Ao51, co51, eo51⟩ := Kd.R_slice HO198.out
          subst eo51
          go_wp2_with (first | (go_at_call 44; (with_reducible refine (laws_sameInts.calls k _ _ t191 _ _ t195 false _ ?side1 ?side2 ?side3 ?side4 A18.out).mono ?_); (case side1 => repeat (first | exact (Kd.R_reads' HO194.out).2.2 | (with_reducible refine Kd.C_alloc ?_ _) | (with_reducible refine Kd.C_drewN ?_ _) | (with_reducible refine Kd.C_drew ?_))); (case side2 => exact (Kd.R_reads' HO194.out).2.1); (case side3 => repeat (first | exact (Kd.R_reads' HO198.out).2.2 | (with_reducible refine Kd.C_alloc ?_ _) | (with_reducible refine Kd.C_drewN ?_ _) | (with_reducible refine Kd.C_drew ?_))); (case side4 => exact (Kd.R_reads' HO198.out).2.1); rintro e w' ⟨rfl, ⟨nd, rfl⟩⟩))
          go_meet
          case rel => exact ⟨_, (true), (by first | rfl | (simp; done) | (simp [*]; done)), H', ⟨by first | omega | exact Nat.le_refl _⟩, ⟨by (with_reducible repeat (first | apply Kd.R_alloc | apply Kd.R_drewN | apply Kd.R_drew)); exact Kd.R_mono HO190.out (fun _ hk => hk.1.2)⟩, ⟨by (with_reducible repeat (first | apply Kd.R_alloc | apply Kd.R_drewN | apply Kd.R_drew)); exact Kd.R_mono HO202.out (fun _ hk => hk.1.1.1.2)⟩, ⟨by repeat (first | (with_reducible first | exact HB.out | apply below_alloc | apply pw_below_drewN | apply below_drew1) | exact HB.out)⟩⟩
    case rest =>
      clear HC10
      try clear c1
      try clear c2
      try clear p2
      try clear c3
      try clear c4
      try clear c13
      try clear c17
      try clear c17b0
      try clear c17b1
      try clear c17b2
      try clear c19
      try clear c20
      try clear c20b0
      try clear c20b1
      try clear c20b2
      try clear c24
      try clear c25
      try clear c25b0
      try clear c25b1
      try clear c25b2
      try clear c28
      try clear c29
      try clear c30
      try clear c32
      try clear c33
      try clear c41
      try clear c42
      try clear c43
      obtain ⟨kq, x105_9, rfl, HA, HJ9, HO_3, HO_11, HB⟩ := hcut
      cases kq with
      | zero => exact absurd HA.out (by simp [laws_FnCells.j0])
      | succ kj9 =>
        have H := HA.out
        clear HA
        simp only [laws_FnCells.j0] at H
        by_cases c52 : x105_9 = true
        · subst c52
          have H1 : (some false) = some r := by rw [if_pos rfl] at H; exact H
          clear H
          have H := H1
          clear H1
          obtain rfl := Option.some.inj H
          go_wp2
          go_ret
          exact ⟨by first | rfl | (simp [errW_none, errW_some] <;> rfl) | (simp [*, errW_none, errW_some] <;> rfl), by repeat (first | (with_reducible first | exact HB.out | apply below_alloc | apply pw_below_drewN | apply below_drew1) | exact HB.out)⟩
        · replace c52 := Bool.eq_false_iff.mpr c52
          subst c52
          have H1 : (if t208 = true then (if (t192 == (t207 == t187)) = true then ((impl_CountDifferences.f kj9 t185 t199).bind fun t213 => (if t213 ≤ 1 then ((impl_CountDifferences.f kj9 t185 t185).bind fun t214 => (if t214 = 0 then ((impl_CountDifferences.f kj9 t185 ([] : List Int)).bind fun t215 => (some (t215 == (t185.length : Int)))) else (some false))) else (some false))) else (some false)) else (if (t192 == false) = true then ((impl_CountDifferences.f kj9 t185 t199).bind fun t216 => (if t216 ≤ 1 then ((impl_CountDifferences.f kj9 t185 t185).bind fun t217 => (if t217 = 0 then ((impl_CountDifferences.f kj9 t185 ([] : List Int)).bind fun t218 => (some (t218 == (t185.length : Int)))) else (some false))) else (some false))) else (some false))) = some r := by rw [if_neg (show ¬ (false = true) by decide)] at H; exact H
          clear H
          have H := H1
          clear H1
          by_cases c53 : t208 = true
          · subst c53
            have H1 : (if (t192 == (t207 == t187)) = true then ((impl_CountDifferences.f kj9 t185 t199).bind fun t213 => (if t213 ≤ 1 then ((impl_CountDifferences.f kj9 t185 t185).bind fun t214 => (if t214 = 0 then ((impl_CountDifferences.f kj9 t185 ([] : List Int)).bind fun t215 => (some (t215 == (t185.length : Int)))) else (some false))) else (some false))) else (some false)) = some r := by rw [if_pos rfl] at H; exact H
            clear H
            have H := H1
            clear H1
            by_cases c54 : (t192 == (t207 == t187)) = true
            · rw [if_pos c54] at H
              have c54b0 : (t192 == (t207 == t187)) = true := c54
              (try (have c54b1 : decide (t192 = (t207 == t187)) = true := by simpa using c54))
              (try (have c54b2 : (t192 == (t207 == t187)) = true := by simpa using c54))
              clear c54
              replace H := Option.bind_eq_some_iff.mp H
              obtain ⟨t213, A550, H⟩ := H
              replace H : (if t213 ≤ 1 then ((impl_CountDifferences.f kj9 t185 t185).bind fun t214 => (if t214 = 0 then ((impl_CountDifferences.f kj9 t185 ([] : List Int)).bind fun t215 => (some (t215 == (t185.length : Int)))) else (some false))) else (some false)) = some r := H
              have A55 := Aside0.mk A550
              clear A550
              by_cases c56 : t213 ≤ 1
              · rw [if_pos c56] at H
                have c56b0 : decide (t213 ≤ 1) = true := decide_eq_true c56
                clear c56
                replace H := Option.bind_eq_some_iff.mp H
                obtain ⟨t214, A570, H⟩ := H
                replace H : (if t214 = 0 then ((impl_CountDifferences.f kj9 t185 ([] : List Int)).bind fun t215 => (some (t215 == (t185.length : Int)))) else (some false)) = some r := H
                have A57 := Aside0.mk A570
                clear A570
                by_cases c58 : t214 = 0
                · rw [if_pos c58] at H
                  have c58b0 : (t214 == 0) = true := beq_iff_eq.mpr c58
                  have c58b1 : (t214 != 0) = false := bne_eq_false_iff_eq.mpr c58
                  clear c58
                  replace H := Option.bind_eq_some_iff.mp H
                  obtain ⟨t215, A590, H⟩ := H
                  replace H : (some (t215 == (t185.length : Int))) = some r := H
                  have A59 := Aside0.mk A590
                  clear A590
                  obtain rfl := Option.some.inj H
                  obtain ⟨Ao60, co60, eo60⟩ := Kd.R_slice HO_11.out
                  subst eo60
                  go_wp2_with (first | (go_at_call 45; (with_reducible refine (impl_CountDifferences.calls kj9 _ _ t185 _ _ t199 t213 _ ?side1 ?side2 ?side3 ?side4 A55.out).mono ?_); (case side1 => repeat (first | exact (Kd.R_reads' HO_3.out).2.2 | (with_reducible refine Kd.C_alloc ?_ _) | (with_reducible refine Kd.C_drewN ?_ _) | (with_reducible refine Kd.C_drew ?_))); (case side2 => exact (Kd.R_reads' HO_3.out).2.1); (case side3 => repeat (first | exact (Kd.R_reads' HO_11.out).2.2 | (with_reducible refine Kd.C_alloc ?_ _) | (with_reducible refine Kd.C_drewN ?_ _) | (with_reducible refine Kd.C_drew ?_))); (case side4 => exact (Kd.R_reads' HO_11.out).2.1); rintro e w61 ⟨rfl, hb⟩; have n0_ := Aside0.mk (Kd.R_below (by (with_reducible repeat (first | apply Kd.R_alloc | apply Kd.R_drewN | apply Kd.R_drew)); exact HO_3.out) hb); have n1_ := Aside0.mk (Kd.R_below (by (with_reducible repeat (first | apply Kd.R_alloc | apply Kd.R_drewN | apply Kd.R_drew)); exact HO_11.out) hb); have n2_ := Aside0.mk (below_step (by repeat (first | (with_reducible first | exact HB.out | apply below_alloc | apply pw_below_drewN | apply below_drew1) | exact HB.out)) hb); clear HO_3; clear HO_11; clear HB; have HO_3 := n0_; have HO_11 := n1_; have HB := n2_; clear n0_ n1_ n2_; (try clear hb); (try clear hb2); (try clear hk); (try clear hi)) | (go_at_call 45; (with_reducible refine (impl_CountDifferences.calls kj9 _ _ t185 _ _ t185 t214 _ ?side1 ?side2 ?side3 ?side4 A57.out).mono ?_); (case side1 => repeat (first | exact (Kd.R_reads' HO_3.out).2.2 | (with_reducible refine Kd.C_alloc ?_ _) | (with_reducible refine Kd.C_drewN ?_ _) | (with_reducible refine Kd.C_drew ?_))); (case side2 => exact (Kd.R_reads' HO_3.out).2.1); (case side3 => repeat (first | exact (Kd.R_reads' HO_3.out).2.2 | (with_reducible refine Kd.C_alloc ?_ _) | (with_reducible refine Kd.C_drewN ?_ _) | (with_reducible refine Kd.C_drew ?_))); (case side4 => exact (Kd.R_reads' HO_3.out).2.1); rintro e w62 ⟨rfl, hb⟩; have n0_ := Aside0.mk (Kd.R_below (by (with_reducible repeat (first | apply Kd.R_alloc | apply Kd.R_drewN | apply Kd.R_drew)); exact HO_3.out) hb); have n1_ := Aside0.mk (Kd.R_below (by (with_reducible repeat (first | apply Kd.R_alloc | apply Kd.R_drewN | apply Kd.R_drew)); exact HO_11.out) hb); have n2_ := Aside0.mk (below_step (by repeat (first | (with_reducible first | exact HB.out | apply below_alloc | apply pw_below_drewN | apply below_drew1) | exact HB.out)) hb); clear HO_3; clear HO_11; clear HB; have HO_3 := n0_; have HO_11 := n1_; have HB := n2_; clear n0_ n1_ n2_; (try clear hb); (try clear hb2); (try clear hk); (try clear hi)) | (go_at_call 45; (refine (impl_CountDifferences.calls kj9 _ _ t185 _ _ ([] : List Int) t215 _ ?side1 ?side2 ?side3 ?side4 A59.out).mono ?_); (case side1 => repeat (first | exact (Kd.R_reads' HO_3.out).2.2 | (with_reducible refine Kd.C_alloc ?_ _) | (with_reducible refine Kd.C_drewN ?_ _) | (with_reducible refine Kd.C_drew ?_))); (case side2 => exact (Kd.R_reads' HO_3.out).2.1); (case side3 => exact Kd.C_nil _ _); (case side4 => exact Nat.le_refl _); rintro e w63 ⟨rfl, hb⟩; have n0_ := Aside0.mk (Kd.R_below (by (with_reducible repeat (first | apply Kd.R_alloc | apply Kd.R_drewN | apply Kd.R_drew)); exact HO_3.out) hb); have n1_ := Aside0.mk (Kd.R_below (by (with_reducible repeat (first | apply Kd.R_alloc | apply Kd.R_drewN | apply Kd.R_drew)); exact HO_11.out) hb); have n2_ := Aside0.mk (below_step (by repeat (first | (with_reducible first | exact HB.out | apply below_alloc | apply pw_below_drewN | apply below_drew1) | exact HB.out)) hb); clear HO_3; clear HO_11; clear HB; have HO_3 := n0_; have HO_11 := n1_; have HB := n2_; clear n0_ n1_ n2_; (try clear hb); (try clear hb2); (try clear hk); (try clear hi)))
                  go_ret
                  exact ⟨by first | rfl | (simp [errW_none, errW_some] <;> rfl) | (simp [*, errW_none, errW_some] <;> rfl), by repeat (first | (with_reducible first | exact HB.out | apply below_alloc | apply pw_below_drewN | apply below_drew1) | exact HB.out)⟩
                · rw [if_neg c58] at H
                  have c58b0 : (t214 == 0) = false := beq_eq_false_iff_ne.mpr c58
                  have c58b1 : (t214 != 0) = true := bne_iff_ne.mpr c58
                  obtain rfl := Option.some.inj H
                  obtain ⟨Ao64, co64, eo64⟩ := Kd.R_slice HO_11.out
                  subst eo64
                  go_wp2_with (first | (go_at_call 45; (with_reducible refine (impl_CountDifferences.calls kj9 _ _ t185 _ _ t199 t213 _ ?side1 ?side2 ?side3 ?side4 A55.out).mono ?_); (case side1 => repeat (first | exact (Kd.R_reads' HO_3.out).2.2 | (with_reducible refine Kd.C_alloc ?_ _) | (with_reducible refine Kd.C_drewN ?_ _) | (with_reducible refine Kd.C_drew ?_))); (case side2 => exact (Kd.R_reads' HO_3.out).2.1); (case side3 => repeat (first | exact (Kd.R_reads' HO_11.out).2.2 | (with_reducible refine Kd.C_alloc ?_ _) | (with_reducible refine Kd.C_drewN ?_ _) | (with_reducible refine Kd.C_drew ?_))); (case side4 => exact (Kd.R_reads' HO_11.out).2.1); rintro e w65 ⟨rfl, hb⟩; have n0_ := Aside0.mk (Kd.R_below (by (with_reducible repeat (first | apply Kd.R_alloc | apply Kd.R_drewN | apply Kd.R_drew)); exact HO_3.out) hb); have n1_ := Aside0.mk (Kd.R_below (by (with_reducible repeat (first | apply Kd.R_alloc | apply Kd.R_drewN | apply Kd.R_drew)); exact HO_11.out) hb); have n2_ := Aside0.mk (below_step (by repeat (first | (with_reducible first | exact HB.out | apply below_alloc | apply pw_below_drewN | apply below_drew1) | exact HB.out)) hb); clear HO_3; clear HO_11; clear HB; have HO_3 := n0_; have HO_11 := n1_; have HB := n2_; clear n0_ n1_ n2_; (try clear hb); (try clear hb2); (try clear hk); (try clear hi)) | (go_at_call 45; (with_reducible refine (impl_CountDifferences.calls kj9 _ _ t185 _ _ t185 t214 _ ?side1 ?side2 ?side3 ?side4 A57.out).mono ?_); (case side1 => repeat (first | exact (Kd.R_reads' HO_3.out).2.2 | (with_reducible refine Kd.C_alloc ?_ _) | (with_reducible refine Kd.C_drewN ?_ _) | (with_reducible refine Kd.C_drew ?_))); (case side2 => exact (Kd.R_reads' HO_3.out).2.1); (case side3 => repeat (first | exact (Kd.R_reads' HO_3.out).2.2 | (with_reducible refine Kd.C_alloc ?_ _) | (with_reducible refine Kd.C_drewN ?_ _) | (with_reducible refine Kd.C_drew ?_))); (case side4 => exact (Kd.R_reads' HO_3.out).2.1); rintro e w66 ⟨rfl, hb⟩; have n0_ := Aside0.mk (Kd.R_below (by (with_reducible repeat (first | apply Kd.R_alloc | apply Kd.R_drewN | apply Kd.R_drew)); exact HO_3.out) hb); have n1_ := Aside0.mk (Kd.R_below (by (with_reducible repeat (first | apply Kd.R_alloc | apply Kd.R_drewN | apply Kd.R_drew)); exact HO_11.out) hb); have n2_ := Aside0.mk (below_step (by repeat (first | (with_reducible first | exact HB.out | apply below_alloc | apply pw_below_drewN | apply below_drew1) | exact HB.out)) hb); clear HO_3; clear HO_11; clear HB; have HO_3 := n0_; have HO_11 := n1_; have HB := n2_; clear n0_ n1_ n2_; (try clear hb); (try clear hb2); (try clear hk); (try clear hi)))
                  go_ret
                  exact ⟨by first | rfl | (simp [errW_none, errW_some] <;> rfl) | (simp [*, errW_none, errW_some] <;> rfl), by repeat (first | (with_reducible first | exact HB.out | apply below_alloc | apply pw_below_drewN | apply below_drew1) | exact HB.out)⟩
              · rw [if_neg c56] at H
                have c56b0 : decide (t213 ≤ 1) = false := decide_eq_false c56
                clear c56
                obtain rfl := Option.some.inj H
                obtain ⟨Ao67, co67, eo67⟩ := Kd.R_slice HO_11.out
                subst eo67
                go_wp2_with (first | (go_at_call 45; (with_reducible refine (impl_CountDifferences.calls kj9 _ _ t185 _ _ t199 t213 _ ?side1 ?side2 ?side3 ?side4 A55.out).mono ?_); (case side1 => repeat (first | exact (Kd.R_reads' HO_3.out).2.2 | (with_reducible refine Kd.C_alloc ?_ _) | (with_reducible refine Kd.C_drewN ?_ _) | (with_reducible refine Kd.C_drew ?_))); (case side2 => exact (Kd.R_reads' HO_3.out).2.1); (case side3 => repeat (first | exact (Kd.R_reads' HO_11.out).2.2 | (with_reducible refine Kd.C_alloc ?_ _) | (with_reducible refine Kd.C_drewN ?_ _) | (with_reducible refine Kd.C_drew ?_))); (case side4 => exact (Kd.R_reads' HO_11.out).2.1); rintro e w68 ⟨rfl, hb⟩; have n0_ := Aside0.mk (Kd.R_below (by (with_reducible repeat (first | apply Kd.R_alloc | apply Kd.R_drewN | apply Kd.R_drew)); exact HO_3.out) hb); have n1_ := Aside0.mk (Kd.R_below (by (with_reducible repeat (first | apply Kd.R_alloc | apply Kd.R_drewN | apply Kd.R_drew)); exact HO_11.out) hb); have n2_ := Aside0.mk (below_step (by repeat (first | (with_reducible first | exact HB.out | apply below_alloc | apply pw_below_drewN | apply below_drew1) | exact HB.out)) hb); clear HO_3; clear HO_11; clear HB; have HO_3 := n0_; have HO_11 := n1_; have HB := n2_; clear n0_ n1_ n2_; (try clear hb); (try clear hb2); (try clear hk); (try clear hi)))
                go_ret
                exact ⟨by first | rfl | (simp [errW_none, errW_some] <;> rfl) | (simp [*, errW_none, errW_some] <;> rfl), by repeat (first | (with_reducible first | exact HB.out | apply below_alloc | apply pw_below_drewN | apply below_drew1) | exact HB.out)⟩
            · rw [if_neg c54] at H
              have c54b0 : (t192 == (t207 == t187)) = false := by simpa using c54
              (try (have c54b1 : decide (t192 = (t207 == t187)) = false := by simpa using c54))
              (try (have c54b2 : (t192 == (t207 == t187)) = false := by simpa using c54))
              (try (have c54b3 : ¬ (t192 = (t207 == t187)) := by simpa using c54))
              clear c54
              obtain rfl := Option.some.inj H
              go_wp2
              go_ret
              exact ⟨by first | rfl | (simp [errW_none, errW_some] <;> rfl) | (simp [*, errW_none, errW_some] <;> rfl), by repeat (first | (with_reducible first | exact HB.out | apply below_alloc | apply pw_below_drewN | apply below_drew1) | exact HB.out)⟩
          · replace c53 := Bool.eq_false_iff.mpr c53
            subst c53
            have H1 : (if (t192 == false) = true then ((impl_CountDifferences.f kj9 t185 t199).bind fun t216 => (if t216 ≤ 1 then ((impl_CountDifferences.f kj9 t185 t185).bind fun t217 => (if t217 = 0 then ((impl_CountDifferences.f kj9 t185 ([] : List Int)).bind fun t218 => (some (t218 == (t185.length : Int)))) else (some false))) else (some false))) else (some false)) = some r := by rw [if_neg (show ¬ (false = true) by decide)] at H; exact H
            clear H
            have H := H1
            clear H1
            by_cases c69 : (t192 == false) = true
            · rw [if_pos c69] at H
              have c69b0 : (t192 == false) = true := c69
              (try (have c69b1 : decide (t192 = false) = true := by simpa using c69))
              (try (have c69b2 : (t192 == false) = true := by simpa using c69))
              clear c69
              replace H := Option.bind_eq_some_iff.mp H
              obtain ⟨t216, A700, H⟩ := H
              replace H : (if t216 ≤ 1 then ((impl_CountDifferences.f kj9 t185 t185).bind fun t217 => (if t217 = 0 then ((impl_CountDifferences.f kj9 t185 ([] : List Int)).bind fun t218 => (some (t218 == (t185.length : Int)))) else (some false))) else (some false)) = some r := H
              have A70 := Aside0.mk A700
              clear A700
              by_cases c71 : t216 ≤ 1
              · rw [if_pos c71] at H
                have c71b0 : decide (t216 ≤ 1) = true := decide_eq_true c71
                clear c71
                replace H := Option.bind_eq_some_iff.mp H
                obtain ⟨t217, A720, H⟩ := H
                replace H : (if t217 = 0 then ((impl_CountDifferences.f kj9 t185 ([] : List Int)).bind fun t218 => (some (t218 == (t185.length : Int)))) else (some false)) = some r := H
                have A72 := Aside0.mk A720
                clear A720
                by_cases c73 : t217 = 0
                · rw [if_pos c73] at H
                  have c73b0 : (t217 == 0) = true := beq_iff_eq.mpr c73
                  have c73b1 : (t217 != 0) = false := bne_eq_false_iff_eq.mpr c73
                  clear c73
                  replace H := Option.bind_eq_some_iff.mp H
                  obtain ⟨t218, A740, H⟩ := H
                  replace H : (some (t218 == (t185.length : Int))) = some r := H
                  have A74 := Aside0.mk A740
                  clear A740
                  obtain rfl := Option.some.inj H
                  obtain ⟨Ao75, co75, eo75⟩ := Kd.R_slice HO_11.out
                  subst eo75
                  go_wp2_with (first | (go_at_call 45; (with_reducible refine (impl_CountDifferences.calls kj9 _ _ t185 _ _ t199 t216 _ ?side1 ?side2 ?side3 ?side4 A70.out).mono ?_); (case side1 => repeat (first | exact (Kd.R_reads' HO_3.out).2.2 | (with_reducible refine Kd.C_alloc ?_ _) | (with_reducible refine Kd.C_drewN ?_ _) | (with_reducible refine Kd.C_drew ?_))); (case side2 => exact (Kd.R_reads' HO_3.out).2.1); (case side3 => repeat (first | exact (Kd.R_reads' HO_11.out).2.2 | (with_reducible refine Kd.C_alloc ?_ _) | (with_reducible refine Kd.C_drewN ?_ _) | (with_reducible refine Kd.C_drew ?_))); (case side4 => exact (Kd.R_reads' HO_11.out).2.1); rintro e w76 ⟨rfl, hb⟩; have n0_ := Aside0.mk (Kd.R_below (by (with_reducible repeat (first | apply Kd.R_alloc | apply Kd.R_drewN | apply Kd.R_drew)); exact HO_3.out) hb); have n1_ := Aside0.mk (Kd.R_below (by (with_reducible repeat (first | apply Kd.R_alloc | apply Kd.R_drewN | apply Kd.R_drew)); exact HO_11.out) hb); have n2_ := Aside0.mk (below_step (by repeat (first | (with_reducible first | exact HB.out | apply below_alloc | apply pw_below_drewN | apply below_drew1) | exact HB.out)) hb); clear HO_3; clear HO_11; clear HB; have HO_3 := n0_; have HO_11 := n1_; have HB := n2_; clear n0_ n1_ n2_; (try clear hb); (try clear hb2); (try clear hk); (try clear hi)) | (go_at_call 45; (with_reducible refine (impl_CountDifferences.calls kj9 _ _ t185 _ _ t185 t217 _ ?side1 ?side2 ?side3 ?side4 A72.out).mono ?_); (case side1 => repeat (first | exact (Kd.R_reads' HO_3.out).2.2 | (with_reducible refine Kd.C_alloc ?_ _) | (with_reducible refine Kd.C_drewN ?_ _) | (with_reducible refine Kd.C_drew ?_))); (case side2 => exact (Kd.R_reads' HO_3.out).2.1); (case side3 => repeat (first | exact (Kd.R_reads' HO_3.out).2.2 | (with_reducible refine Kd.C_alloc ?_ _) | (with_reducible refine Kd.C_drewN ?_ _) | (with_reducible refine Kd.C_drew ?_))); (case side4 => exact (Kd.R_reads' HO_3.out).2.1); rintro e w77 ⟨rfl, hb⟩; have n0_ := Aside0.mk (Kd.R_below (by (with_reducible repeat (first | apply Kd.R_alloc | apply Kd.R_drewN | apply Kd.R_drew)); exact HO_3.out) hb); have n1_ := Aside0.mk (Kd.R_below (by (with_reducible repeat (first | apply Kd.R_alloc | apply Kd.R_drewN | apply Kd.R_drew)); exact HO_11.out) hb); have n2_ := Aside0.mk (below_step (by repeat (first | (with_reducible first | exact HB.out | apply below_alloc | apply pw_below_drewN | apply below_drew1) | exact HB.out)) hb); clear HO_3; clear HO_11; clear HB; have HO_3 := n0_; have HO_11 := n1_; have HB := n2_; clear n0_ n1_ n2_; (try clear hb); (try clear hb2); (try clear hk); (try clear hi)) | (go_at_call 45; (refine (impl_CountDifferences.calls kj9 _ _ t185 _ _ ([] : List Int) t218 _ ?side1 ?side2 ?side3 ?side4 A74.out).mono ?_); (case side1 => repeat (first | exact (Kd.R_reads' HO_3.out).2.2 | (with_reducible refine Kd.C_alloc ?_ _) | (with_reducible refine Kd.C_drewN ?_ _) | (with_reducible refine Kd.C_drew ?_))); (case side2 => exact (Kd.R_reads' HO_3.out).2.1); (case side3 => exact Kd.C_nil _ _); (case side4 => exact Nat.le_refl _); rintro e w78 ⟨rfl, hb⟩; have n0_ := Aside0.mk (Kd.R_below (by (with_reducible repeat (first | apply Kd.R_alloc | apply Kd.R_drewN | apply Kd.R_drew)); exact HO_3.out) hb); have n1_ := Aside0.mk (Kd.R_below (by (with_reducible repeat (first | apply Kd.R_alloc | apply Kd.R_drewN | apply Kd.R_drew)); exact HO_11.out) hb); have n2_ := Aside0.mk (below_step (by repeat (first | (with_reducible first | exact HB.out | apply below_alloc | apply pw_below_drewN | apply below_drew1) | exact HB.out)) hb); clear HO_3; clear HO_11; clear HB; have HO_3 := n0_; have HO_11 := n1_; have HB := n2_; clear n0_ n1_ n2_; (try clear hb); (try clear hb2); (try clear hk); (try clear hi)))
                  go_ret
                  exact ⟨by first | rfl | (simp [errW_none, errW_some] <;> rfl) | (simp [*, errW_none, errW_some] <;> rfl), by repeat (first | (with_reducible first | exact HB.out | apply below_alloc | apply pw_below_drewN | apply below_drew1) | exact HB.out)⟩
                · rw [if_neg c73] at H
                  have c73b0 : (t217 == 0) = false := beq_eq_false_iff_ne.mpr c73
                  have c73b1 : (t217 != 0) = true := bne_iff_ne.mpr c73
                  obtain rfl := Option.some.inj H
                  obtain ⟨Ao79, co79, eo79⟩ := Kd.R_slice HO_11.out
                  subst eo79
                  go_wp2_with (first | (go_at_call 45; (with_reducible refine (impl_CountDifferences.calls kj9 _ _ t185 _ _ t199 t216 _ ?side1 ?side2 ?side3 ?side4 A70.out).mono ?_); (case side1 => repeat (first | exact (Kd.R_reads' HO_3.out).2.2 | (with_reducible refine Kd.C_alloc ?_ _) | (with_reducible refine Kd.C_drewN ?_ _) | (with_reducible refine Kd.C_drew ?_))); (case side2 => exact (Kd.R_reads' HO_3.out).2.1); (case side3 => repeat (first | exact (Kd.R_reads' HO_11.out).2.2 | (with_reducible refine Kd.C_alloc ?_ _) | (with_reducible refine Kd.C_drewN ?_ _) | (with_reducible refine Kd.C_drew ?_))); (case side4 => exact (Kd.R_reads' HO_11.out).2.1); rintro e w80 ⟨rfl, hb⟩; have n0_ := Aside0.mk (Kd.R_below (by (with_reducible repeat (first | apply Kd.R_alloc | apply Kd.R_drewN | apply Kd.R_drew)); exact HO_3.out) hb); have n1_ := Aside0.mk (Kd.R_below (by (with_reducible repeat (first | apply Kd.R_alloc | apply Kd.R_drewN | apply Kd.R_drew)); exact HO_11.out) hb); have n2_ := Aside0.mk (below_step (by repeat (first | (with_reducible first | exact HB.out | apply below_alloc | apply pw_below_drewN | apply below_drew1) | exact HB.out)) hb); clear HO_3; clear HO_11; clear HB; have HO_3 := n0_; have HO_11 := n1_; have HB := n2_; clear n0_ n1_ n2_; (try clear hb); (try clear hb2); (try clear hk); (try clear hi)) | (go_at_call 45; (with_reducible refine (impl_CountDifferences.calls kj9 _ _ t185 _ _ t185 t217 _ ?side1 ?side2 ?side3 ?side4 A72.out).mono ?_); (case side1 => repeat (first | exact (Kd.R_reads' HO_3.out).2.2 | (with_reducible refine Kd.C_alloc ?_ _) | (with_reducible refine Kd.C_drewN ?_ _) | (with_reducible refine Kd.C_drew ?_))); (case side2 => exact (Kd.R_reads' HO_3.out).2.1); (case side3 => repeat (first | exact (Kd.R_reads' HO_3.out).2.2 | (with_reducible refine Kd.C_alloc ?_ _) | (with_reducible refine Kd.C_drewN ?_ _) | (with_reducible refine Kd.C_drew ?_))); (case side4 => exact (Kd.R_reads' HO_3.out).2.1); rintro e w81 ⟨rfl, hb⟩; have n0_ := Aside0.mk (Kd.R_below (by (with_reducible repeat (first | apply Kd.R_alloc | apply Kd.R_drewN | apply Kd.R_drew)); exact HO_3.out) hb); have n1_ := Aside0.mk (Kd.R_below (by (with_reducible repeat (first | apply Kd.R_alloc | apply Kd.R_drewN | apply Kd.R_drew)); exact HO_11.out) hb); have n2_ := Aside0.mk (below_step (by repeat (first | (with_reducible first | exact HB.out | apply below_alloc | apply pw_below_drewN | apply below_drew1) | exact HB.out)) hb); clear HO_3; clear HO_11; clear HB; have HO_3 := n0_; have HO_11 := n1_; have HB := n2_; clear n0_ n1_ n2_; (try clear hb); (try clear hb2); (try clear hk); (try clear hi)))
                  go_ret
                  exact ⟨by first | rfl | (simp [errW_none, errW_some] <;> rfl) | (simp [*, errW_none, errW_some] <;> rfl), by repeat (first | (with_reducible first | exact HB.out | apply below_alloc | apply pw_below_drewN | apply below_drew1) | exact HB.out)⟩
              · rw [if_neg c71] at H
                have c71b0 : decide (t216 ≤ 1) = false := decide_eq_false c71
                clear c71
                obtain rfl := Option.some.inj H
                obtain ⟨Ao82, co82, eo82⟩ := Kd.R_slice HO_11.out
                subst eo82
                go_wp2_with (first | (go_at_call 45; (with_reducible refine (impl_CountDifferences.calls kj9 _ _ t185 _ _ t199 t216 _ ?side1 ?side2 ?side3 ?side4 A70.out).mono ?_); (case side1 => repeat (first | exact (Kd.R_reads' HO_3.out).2.2 | (with_reducible refine Kd.C_alloc ?_ _) | (with_reducible refine Kd.C_drewN ?_ _) | (with_reducible refine Kd.C_drew ?_))); (case side2 => exact (Kd.R_reads' HO_3.out).2.1); (case side3 => repeat (first | exact (Kd.R_reads' HO_11.out).2.2 | (with_reducible refine Kd.C_alloc ?_ _) | (with_reducible refine Kd.C_drewN ?_ _) | (with_reducible refine Kd.C_drew ?_))); (case side4 => exact (Kd.R_reads' HO_11.out).2.1); rintro e w83 ⟨rfl, hb⟩; have n0_ := Aside0.mk (Kd.R_below (by (with_reducible repeat (first | apply Kd.R_alloc | apply Kd.R_drewN | apply Kd.R_drew)); exact HO_3.out) hb); have n1_ := Aside0.mk (Kd.R_below (by (with_reducible repeat (first | apply Kd.R_alloc | apply Kd.R_drewN | apply Kd.R_drew)); exact HO_11.out) hb); have n2_ := Aside0.mk (below_step (by repeat (first | (with_reducible first | exact HB.out | apply below_alloc | apply pw_below_drewN | apply below_drew1) | exact HB.out)) hb); clear HO_3; clear HO_11; clear HB; have HO_3 := n0_; have HO_11 := n1_; have HB := n2_; clear n0_ n1_ n2_; (try clear hb); (try clear hb2); (try clear hk); (try clear hi)))
                go_ret
                exact ⟨by first | rfl | (simp [errW_none, errW_some] <;> rfl) | (simp [*, errW_none, errW_some] <;> rfl), by repeat (first | (with_reducible first | exact HB.out | apply below_alloc | apply pw_below_drewN | apply below_drew1) | exact HB.out)⟩
            · rw [if_neg c69] at H
              have c69b0 : (t192 == false) = false := by simpa using c69
              (try (have c69b1 : decide (t192 = false) = false := by simpa using c69))
              (try (have c69b2 : (t192 == false) = false := by simpa using c69))
              (try (have c69b3 : ¬ (t192 = false) := by simpa using c69))
              clear c69
              obtain rfl := Option.some.inj H
              go_wp2
              go_ret
              exact ⟨by first | rfl | (simp [errW_none, errW_some] <;> rfl) | (simp [*, errW_none, errW_some] <;> rfl), by repeat (first | (with_reducible first | exact HB.out | apply below_alloc | apply pw_below_drewN | apply below_drew1) | exact HB.out)⟩

/-- THE ONE PURE STATEMENT of laws_FnCells: yours. -/
def laws_FnCells.Pure : Prop := ∀ (l0 : List Int), l0.length ≤ maxLen → l0.length * 1 ≤ 140737488351232 → (∀ x ∈ l0, (Lit.int .u8 x).wf = true) → ∃ k, laws_FnCells.f k l0 = some true
theorem laws_FnCells.walk (P : laws_FnCells.Pure) (a0 : Option Addr) (len0 cap0 : Nat) (z0 : List Int) (w : World) (w0 : (a0 = none ∧ len0 = 0 ∧ cap0 = 0 ∧ z0 = []) ∨ ∃ x, a0 = some x ∧ len0 ≤ cap0 ∧ cap0 ≤ maxLen ∧ z0.length = cap0 ∧ (∀ i, i < z0.length → w.cell? (x.add i) = some (.int .u8 (z0.getD i 0))) ∧ ∀ n ∈ z0, (Lit.int .u8 n).wf = true) (y0 : len0 * 1 ≤ 140737488351232) :
    Calls Try.prog 13 #[.slice a0 len0 cap0] w fun e w' => e = .returned (.bool true) ∧ Below w.heap.size w w' := by
  obtain ⟨l0, rfl, hr0, hm0, hw0, hc0⟩ := ReadsInt.ofRowC w0
  obtain ⟨k, h⟩ := P l0 hm0 y0 hw0
  refine (laws_FnCells.calls k _ _ l0 true w (Kd.C_of_reads (d := (0 : Int)) (h1 := fun _ => rfl) hr0) hc0 h).mono ?_
  rintro e w' ⟨rfl, hd⟩
  exact ⟨rfl, hd⟩

end Go.Proofs.Ytlbbnepkdhlgmab.GFnCells
