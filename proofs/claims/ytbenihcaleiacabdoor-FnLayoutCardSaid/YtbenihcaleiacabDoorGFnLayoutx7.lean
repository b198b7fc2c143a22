/- Of each Go function that the law FnLayout reaches: a Lean function, and the proof that the call comes to just its answer; written by a turned copy of the kit's printer, with contracts typed by hand for functions that it does not take. No condition. -/
import Derived.Test.YtbenihcaleiacabDoorGFnLayoutx0
import Derived.Test.YtbenihcaleiacabDoorGFnLayoutx1
import Derived.Test.YtbenihcaleiacabDoorGFnLayoutx2
import Derived.Test.YtbenihcaleiacabDoorGFnLayoutx3
import Derived.Test.YtbenihcaleiacabDoorGFnLayoutx4
import Derived.Test.YtbenihcaleiacabDoorGFnLayoutx5
import Derived.Test.YtbenihcaleiacabDoorGFnLayoutx6
namespace Go.Proofs.YtbenihcaleiacabDoor.GFnLayout
open Go.RowKit Go.Proofs.YtbenihcaleiacabDoorW.PrintWords Go.Proofs.YtbenihcaleiacabDoorW.PrintLast Go.Proofs.YtbenihcaleiacabDoorW.PrintMore
attribute [local go_sem] max2_int min2_int max_two min_two max_three min_three max_four min_four   -- for this text's walks alone
set_option linter.unusedVariables false
set_option linter.unusedSimpArgs false

attribute [local go_sem high] eqA47
/-! ### laws_FnLayout: function 10 -/
mutual
def laws_FnLayout.j0 : Nat → Int → Bool → Bool → Int → Int → Int → Int → Int → Int → Option (Bool)
  | 0, _, _, _, _, _, _, _, _, _ => none
  | k + 1, x4, x7, x50, x314000, x314001, x314002, x314003, x314004, x314005 => if x50 = true then (none) else ((impl_ClockCell.f).bind fun t327 => ((impl_ArenaCell.f).bind fun t328 => (laws_FnLayout.l0 k x4 x7 (([t327, t328] : List Int)) 0 x314000 x314001 x314002 x314003 x314004 x314005)))
def laws_FnLayout.l0 : Nat → Int → Bool → List Int → Int → Int → Int → Int → Int → Int → Int → Option (Bool)
  | 0, _, _, _, _, _, _, _, _, _, _ => none
  | k + 1, x4, x7, x8, x9, x314000, x314001, x314002, x314003, x314004, x314005 => if x9 < x314000 then (laws_FnLayout.j2 k x4 x7 x8 x9 x7 x314000 x314001 x314002 x314003 x314004 x314005) else (laws_FnLayout.j2 k x4 x7 x8 x9 false x314000 x314001 x314002 x314003 x314004 x314005)
def laws_FnLayout.j2 : Nat → Int → Bool → List Int → Int → Bool → Int → Int → Int → Int → Int → Int → Option (Bool)
  | 0, _, _, _, _, _, _, _, _, _, _, _ => none
  | k + 1, x4, x7, x8, x9, x60, x314000, x314001, x314002, x314003, x314004, x314005 => if x60 = true then ((impl_AnnounceCell.f x314000 x314001 x314002 x314003 x314004 x314005 x9).bind fun t332 => ((impl_HazardCell.f x314000 x314001 x314002 x314003 x314004 x314005 x9 0).bind fun t333 => ((impl_HazardCell.f x314000 x314001 x314002 x314003 x314004 x314005 x9 1).bind fun t334 => ((some (([t332, t333, t334] : List Int) : List Int)).bind fun y335 => (if x8.length + y335.length < 17592186044416 then (laws_FnLayout.l0 k x4 x7 (x8 ++ y335) (wrap64 (x9 + 1)) x314000 x314001 x314002 x314003 x314004 x314005) else (none)))))) else (laws_FnLayout.l1 k x4 x7 x8 0 x314000 x314001 x314002 x314003 x314004 x314005)
def laws_FnLayout.j4 : Nat → Int → Bool → List Int → Int → Int → Int → Int → Int → Int → Option (Bool)
  | 0, _, _, _, _, _, _, _, _, _ => none
  | k + 1, x4, x7, x8, x314000, x314001, x314002, x314003, x314004, x314005 => laws_FnLayout.l2 k x4 x7 x8 0 x314000 x314001 x314002 x314003 x314004 x314005
def laws_FnLayout.l2 : Nat → Int → Bool → List Int → Int → Int → Int → Int → Int → Int → Int → Option (Bool)
  | 0, _, _, _, _, _, _, _, _, _, _ => none
  | k + 1, x4, x7, x8, x11, x314000, x314001, x314002, x314003, x314004, x314005 => if x11 < x314002 then (laws_FnLayout.j6 k x4 x7 x8 x11 x7 x314000 x314001 x314002 x314003 x314004 x314005) else (laws_FnLayout.j6 k x4 x7 x8 x11 false x314000 x314001 x314002 x314003 x314004 x314005)
def laws_FnLayout.j6 : Nat → Int → Bool → List Int → Int → Bool → Int → Int → Int → Int → Int → Int → Option (Bool)
  | 0, _, _, _, _, _, _, _, _, _, _, _ => none
  | k + 1, x4, x7, x8, x11, x96, x314000, x314001, x314002, x314003, x314004, x314005 => if x96 = true then ((impl_NodeCell.f x314000 x314001 x314002 x314003 x314004 x314005 x11 0).bind fun t345 => ((impl_NodeCell.f x314000 x314001 x314002 x314003 x314004 x314005 x11 1).bind fun t346 => ((impl_NodeCell.f x314000 x314001 x314002 x314003 x314004 x314005 x11 2).bind fun t347 => ((some (([t345, t346, t347] : List Int) : List Int)).bind fun y348 => (if x8.length + y348.length < 17592186044416 then (laws_FnLayout.l2 k x4 x7 (x8 ++ y348) (wrap64 (x11 + 1)) x314000 x314001 x314002 x314003 x314004 x314005) else (none)))))) else (laws_FnLayout.l3 k x4 x7 x8 0 x314000 x314001 x314002 x314003 x314004 x314005)
def laws_FnLayout.l3 : Nat → Int → Bool → List Int → Int → Int → Int → Int → Int → Int → Int → Option (Bool)
  | 0, _, _, _, _, _, _, _, _, _, _ => none
  | k + 1, x4, x7, x8, x12, x314000, x314001, x314002, x314003, x314004, x314005 => if x12 < x4 then ((laws_has.f k x8 x12).bind fun t354 => (if t354 = true then (laws_FnLayout.l3 k x4 x7 x8 (wrap64 (x12 + 1)) x314000 x314001 x314002 x314003 x314004 x314005) else (none))) else ((impl_NewCells.f x314000 x314001 x314002 x314003 x314004 x314005).bind fun t355 => (if x7 = true then (if (x8.length : Int) = x4 then (if (t355.length : Int) = x4 then ((spec_NewCells.f x314000 x314001 x314002 x314003 x314004 x314005).bind fun t358 => ((laws_sameInts.f k t355 t358).bind fun t361 => (some t361))) else (none)) else (none)) else (if (t355.length : Int) = x4 then ((spec_NewCells.f x314000 x314001 x314002 x314003 x314004 x314005).bind fun t362 => ((laws_sameInts.f k t355 t362).bind fun t365 => (some t365))) else (none))))
def laws_FnLayout.l1 : Nat → Int → Bool → List Int → Int → Int → Int → Int → Int → Int → Int → Option (Bool)
  | 0, _, _, _, _, _, _, _, _, _, _ => none
  | k + 1, x4, x7, x8, x10, x314000, x314001, x314002, x314003, x314004, x314005 => if x10 < x314001 then (if x7 = true then ((impl_HeadCell.f x314000 x314001 x314002 x314003 x314004 x314005 x10).bind fun t341 => (if x8.length < 17592186044416 then (laws_FnLayout.l1 k x4 x7 (x8 ++ [t341]) (wrap64 (x10 + 1)) x314000 x314001 x314002 x314003 x314004 x314005) else (none))) else (laws_FnLayout.j4 k x4 x7 x8 x314000 x314001 x314002 x314003 x314004 x314005)) else (laws_FnLayout.j4 k x4 x7 x8 x314000 x314001 x314002 x314003 x314004 x314005)
end
def laws_FnLayout.f (k : Nat) (l0 : List Int) : Option (Bool) := (laws_big.f l0).bind fun t306 => (if t306 = true then (some true) else ((spec_DrawCellCount.f k l0).bind fun bt307 => ((impl_CellCount.f bt307.1 bt307.2.1 bt307.2.2.1 bt307.2.2.2.1 bt307.2.2.2.2.1 bt307.2.2.2.2.2).bind fun t314 => ((impl_FormatConfig.f bt307.1 bt307.2.1 bt307.2.2.1 bt307.2.2.2.1 bt307.2.2.2.2.1 bt307.2.2.2.2.2).bind fun t315 => ((impl_ParseConfig.f t315).bind fun bt316 => ((spec_CellCount.f bt307.1 bt307.2.1 bt307.2.2.1 bt307.2.2.2.1 bt307.2.2.2.2.1 bt307.2.2.2.2.2).bind fun t324 => (if t314 = t324 then ((spec_FormatConfig.f k bt307.1 bt307.2.1 bt307.2.2.1 bt307.2.2.2.1 bt307.2.2.2.2.1 bt307.2.2.2.2.2).bind fun t325 => (if t315.toList = t325.toList then ((spec_IsConfig.f bt307.1 bt307.2.1 bt307.2.2.1 bt307.2.2.2.1 bt307.2.2.2.2.1 bt307.2.2.2.2.2).bind fun t326 => (if (bt316.2.2.2.2.2.2 != t326) = true then (laws_FnLayout.j0 k t314 bt316.2.2.2.2.2.2 true bt307.1 bt307.2.1 bt307.2.2.1 bt307.2.2.2.1 bt307.2.2.2.2.1 bt307.2.2.2.2.2) else (if bt316.2.2.2.2.2.2 = true then (laws_FnLayout.j0 k t314 bt316.2.2.2.2.2.2 (!(bt316.1 == bt307.1) || (!(bt316.2.1 == bt307.2.1) || (!(bt316.2.2.1 == bt307.2.2.1) || (!(bt316.2.2.2.1 == bt307.2.2.2.1) || (!(bt316.2.2.2.2.1 == bt307.2.2.2.2.1) || (!(bt316.2.2.2.2.2.1 == bt307.2.2.2.2.2))))))) bt307.1 bt307.2.1 bt307.2.2.1 bt307.2.2.2.1 bt307.2.2.2.2.1 bt307.2.2.2.2.2) else (laws_FnLayout.j0 k t314 bt316.2.2.2.2.2.2 false bt307.1 bt307.2.1 bt307.2.2.1 bt307.2.2.2.1 bt307.2.2.2.2.1 bt307.2.2.2.2.2)))) else (laws_FnLayout.j0 k t314 bt316.2.2.2.2.2.2 true bt307.1 bt307.2.1 bt307.2.2.1 bt307.2.2.2.1 bt307.2.2.2.2.1 bt307.2.2.2.2.2))) else (laws_FnLayout.j0 k t314 bt316.2.2.2.2.2.2 true bt307.1 bt307.2.1 bt307.2.2.1 bt307.2.2.2.1 bt307.2.2.2.2.1 bt307.2.2.2.2.2))))))))
theorem laws_FnLayout.mono_l : ∀ k, (∀ y0 y1 y2 y3 y4 y5 y6 y7 y8, LeO (laws_FnLayout.j0 k y0 y1 y2 y3 y4 y5 y6 y7 y8) (laws_FnLayout.j0 (k + 1) y0 y1 y2 y3 y4 y5 y6 y7 y8)) ∧ (∀ y0 y1 y2 y3 y4 y5 y6 y7 y8 y9, LeO (laws_FnLayout.l0 k y0 y1 y2 y3 y4 y5 y6 y7 y8 y9) (laws_FnLayout.l0 (k + 1) y0 y1 y2 y3 y4 y5 y6 y7 y8 y9)) ∧ (∀ y0 y1 y2 y3 y4 y5 y6 y7 y8 y9 y10, LeO (laws_FnLayout.j2 k y0 y1 y2 y3 y4 y5 y6 y7 y8 y9 y10) (laws_FnLayout.j2 (k + 1) y0 y1 y2 y3 y4 y5 y6 y7 y8 y9 y10)) ∧ (∀ y0 y1 y2 y3 y4 y5 y6 y7 y8, LeO (laws_FnLayout.j4 k y0 y1 y2 y3 y4 y5 y6 y7 y8) (laws_FnLayout.j4 (k + 1) y0 y1 y2 y3 y4 y5 y6 y7 y8)) ∧ (∀ y0 y1 y2 y3 y4 y5 y6 y7 y8 y9, LeO (laws_FnLayout.l2 k y0 y1 y2 y3 y4 y5 y6 y7 y8 y9) (laws_FnLayout.l2 (k + 1) y0 y1 y2 y3 y4 y5 y6 y7 y8 y9)) ∧ (∀ y0 y1 y2 y3 y4 y5 y6 y7 y8 y9 y10, LeO (laws_FnLayout.j6 k y0 y1 y2 y3 y4 y5 y6 y7 y8 y9 y10) (laws_FnLayout.j6 (k + 1) y0 y1 y2 y3 y4 y5 y6 y7 y8 y9 y10)) ∧ (∀ y0 y1 y2 y3 y4 y5 y6 y7 y8 y9, LeO (laws_FnLayout.l3 k y0 y1 y2 y3 y4 y5 y6 y7 y8 y9) (laws_FnLayout.l3 (k + 1) y0 y1 y2 y3 y4 y5 y6 y7 y8 y9)) ∧ (∀ y0 y1 y2 y3 y4 y5 y6 y7 y8 y9, LeO (laws_FnLayout.l1 k y0 y1 y2 y3 y4 y5 y6 y7 y8 y9) (laws_FnLayout.l1 (k + 1) y0 y1 y2 y3 y4 y5 y6 y7 y8 y9))
  | 0 => ⟨fun _ _ _ _ _ _ _ _ _ r h => by simp [laws_FnLayout.j0] at h, fun _ _ _ _ _ _ _ _ _ _ r h => by simp [laws_FnLayout.l0] at h, fun _ _ _ _ _ _ _ _ _ _ _ r h => by simp [laws_FnLayout.j2] at h, fun _ _ _ _ _ _ _ _ _ r h => by simp [laws_FnLayout.j4] at h, fun _ _ _ _ _ _ _ _ _ _ r h => by simp [laws_FnLayout.l2] at h, fun _ _ _ _ _ _ _ _ _ _ _ r h => by simp [laws_FnLayout.j6] at h, fun _ _ _ _ _ _ _ _ _ _ r h => by simp [laws_FnLayout.l3] at h, fun _ _ _ _ _ _ _ _ _ _ r h => by simp [laws_FnLayout.l1] at h⟩
  | k + 1 => by
    obtain ⟨ih0, ih1, ih2, ih3, ih4, ih5, ih6, ih7⟩ := laws_FnLayout.mono_l k
    refine ⟨?_, ?_, ?_, ?_, ?_, ?_, ?_, ?_⟩
    · intro y0 y1 y2 y3 y4 y5 y6 y7 y8
      unfold laws_FnLayout.j0
      repeat' first
      | (with_reducible exact ih0 _ _ _ _ _ _ _ _ _)
      | (with_reducible exact ih1 _ _ _ _ _ _ _ _ _ _)
      | (with_reducible exact ih2 _ _ _ _ _ _ _ _ _ _ _)
      | (with_reducible exact ih3 _ _ _ _ _ _ _ _ _)
      | (with_reducible exact ih4 _ _ _ _ _ _ _ _ _ _)
      | (with_reducible exact ih5 _ _ _ _ _ _ _ _ _ _ _)
      | (with_reducible exact ih6 _ _ _ _ _ _ _ _ _ _)
      | (with_reducible exact ih7 _ _ _ _ _ _ _ _ _ _)
      | (with_reducible exact laws_has.mono _ _ _)
      | (with_reducible exact laws_sameInts.mono _ _ _)
      | (with_reducible exact spec_DrawCellCount.mono _ _)
      | (with_reducible exact spec_FormatConfig.mono _ _ _ _ _ _ _)
      | (with_reducible exact LeO.refl _)
      | (with_reducible exact LeO.none _)
      | (with_reducible refine LeO.ite ?_ ?_)
      | (with_reducible refine LeO.bind ?_ (fun _ => ?_))
      | exact ih0 _ _ _ _ _ _ _ _ _
      | exact ih1 _ _ _ _ _ _ _ _ _ _
      | exact ih2 _ _ _ _ _ _ _ _ _ _ _
      | exact ih3 _ _ _ _ _ _ _ _ _
      | exact ih4 _ _ _ _ _ _ _ _ _ _
      | exact ih5 _ _ _ _ _ _ _ _ _ _ _
      | exact ih6 _ _ _ _ _ _ _ _ _ _
      | exact ih7 _ _ _ _ _ _ _ _ _ _
      | exact laws_has.mono _ _ _
      | exact laws_sameInts.mono _ _ _
      | exact spec_DrawCellCount.mono _ _
      | exact spec_FormatConfig.mono _ _ _ _ _ _ _
      | exact LeO.none _
      | refine LeO.ite ?_ ?_
      | refine LeO.bind ?_ (fun _ => ?_)
    · intro y0 y1 y2 y3 y4 y5 y6 y7 y8 y9
      unfold laws_FnLayout.l0
      repeat' first
      | (with_reducible exact ih0 _ _ _ _ _ _ _ _ _)
      | (with_reducible exact ih1 _ _ _ _ _ _ _ _ _ _)
      | (with_reducible exact ih2 _ _ _ _ _ _ _ _ _ _ _)
      | (with_reducible exact ih3 _ _ _ _ _ _ _ _ _)
      | (with_reducible exact ih4 _ _ _ _ _ _ _ _ _ _)
      | (with_reducible exact ih5 _ _ _ _ _ _ _ _ _ _ _)
      | (with_reducible exact ih6 _ _ _ _ _ _ _ _ _ _)
      | (with_reducible exact ih7 _ _ _ _ _ _ _ _ _ _)
      | (with_reducible exact laws_has.mono _ _ _)
      | (with_reducible exact laws_sameInts.mono _ _ _)
      | (with_reducible exact spec_DrawCellCount.mono _ _)
      | (with_reducible exact spec_FormatConfig.mono _ _ _ _ _ _ _)
      | (with_reducible exact LeO.refl _)
      | (with_reducible exact LeO.none _)
      | (with_reducible refine LeO.ite ?_ ?_)
      | (with_reducible refine LeO.bind ?_ (fun _ => ?_))
      | exact ih0 _ _ _ _ _ _ _ _ _
      | exact ih1 _ _ _ _ _ _ _ _ _ _
      | exact ih2 _ _ _ _ _ _ _ _ _ _ _
      | exact ih3 _ _ _ _ _ _ _ _ _
      | exact ih4 _ _ _ _ _ _ _ _ _ _
      | exact ih5 _ _ _ _ _ _ _ _ _ _ _
      | exact ih6 _ _ _ _ _ _ _ _ _ _
      | exact ih7 _ _ _ _ _ _ _ _ _ _
      | exact laws_has.mono _ _ _
      | exact laws_sameInts.mono _ _ _
      | exact spec_DrawCellCount.mono _ _
      | exact spec_FormatConfig.mono _ _ _ _ _ _ _
      | exact LeO.none _
      | refine LeO.ite ?_ ?_
      | refine LeO.bind ?_ (fun _ => ?_)
    · intro y0 y1 y2 y3 y4 y5 y6 y7 y8 y9 y10
      unfold laws_FnLayout.j2
      repeat' first
      | (with_reducible exact ih0 _ _ _ _ _ _ _ _ _)
      | (with_reducible exact ih1 _ _ _ _ _ _ _ _ _ _)
      | (with_reducible exact ih2 _ _ _ _ _ _ _ _ _ _ _)
      | (with_reducible exact ih3 _ _ _ _ _ _ _ _ _)
      | (with_reducible exact ih4 _ _ _ _ _ _ _ _ _ _)
      | (with_reducible exact ih5 _ _ _ _ _ _ _ _ _ _ _)
      | (with_reducible exact ih6 _ _ _ _ _ _ _ _ _ _)
      | (with_reducible exact ih7 _ _ _ _ _ _ _ _ _ _)
      | (with_reducible exact laws_has.mono _ _ _)
      | (with_reducible exact laws_sameInts.mono _ _ _)
      | (with_reducible exact spec_DrawCellCount.mono _ _)
      | (with_reducible exact spec_FormatConfig.mono _ _ _ _ _ _ _)
      | (with_reducible exact LeO.refl _)
      | (with_reducible exact LeO.none _)
      | (with_reducible refine LeO.ite ?_ ?_)
      | (with_reducible refine LeO.bind ?_ (fun _ => ?_))
      | exact ih0 _ _ _ _ _ _ _ _ _
      | exact ih1 _ _ _ _ _ _ _ _ _ _
      | exact ih2 _ _ _ _ _ _ _ _ _ _ _
      | exact ih3 _ _ _ _ _ _ _ _ _
      | exact ih4 _ _ _ _ _ _ _ _ _ _
      | exact ih5 _ _ _ _ _ _ _ _ _ _ _
      | exact ih6 _ _ _ _ _ _ _ _ _ _
      | exact ih7 _ _ _ _ _ _ _ _ _ _
      | exact laws_has.mono _ _ _
      | exact laws_sameInts.mono _ _ _
      | exact spec_DrawCellCount.mono _ _
      | exact spec_FormatConfig.mono _ _ _ _ _ _ _
      | exact LeO.none _
      | refine LeO.ite ?_ ?_
      | refine LeO.bind ?_ (fun _ => ?_)
    · intro y0 y1 y2 y3 y4 y5 y6 y7 y8
      unfold laws_FnLayout.j4
      repeat' first
      | (with_reducible exact ih0 _ _ _ _ _ _ _ _ _)
      | (with_reducible exact ih1 _ _ _ _ _ _ _ _ _ _)
      | (with_reducible exact ih2 _ _ _ _ _ _ _ _ _ _ _)
      | (with_reducible exact ih3 _ _ _ _ _ _ _ _ _)
      | (with_reducible exact ih4 _ _ _ _ _ _ _ _ _ _)
      | (with_reducible exact ih5 _ _ _ _ _ _ _ _ _ _ _)
      | (with_reducible exact ih6 _ _ _ _ _ _ _ _ _ _)
      | (with_reducible exact ih7 _ _ _ _ _ _ _ _ _ _)
      | (with_reducible exact laws_has.mono _ _ _)
      | (with_reducible exact laws_sameInts.mono _ _ _)
      | (with_reducible exact spec_DrawCellCount.mono _ _)
      | (with_reducible exact spec_FormatConfig.mono _ _ _ _ _ _ _)
      | (with_reducible exact LeO.refl _)
      | (with_reducible exact LeO.none _)
      | (with_reducible refine LeO.ite ?_ ?_)
      | (with_reducible refine LeO.bind ?_ (fun _ => ?_))
      | exact ih0 _ _ _ _ _ _ _ _ _
      | exact ih1 _ _ _ _ _ _ _ _ _ _
      | exact ih2 _ _ _ _ _ _ _ _ _ _ _
      | exact ih3 _ _ _ _ _ _ _ _ _
      | exact ih4 _ _ _ _ _ _ _ _ _ _
      | exact ih5 _ _ _ _ _ _ _ _ _ _ _
      | exact ih6 _ _ _ _ _ _ _ _ _ _
      | exact ih7 _ _ _ _ _ _ _ _ _ _
      | exact laws_has.mono _ _ _
      | exact laws_sameInts.mono _ _ _
      | exact spec_DrawCellCount.mono _ _
      | exact spec_FormatConfig.mono _ _ _ _ _ _ _
      | exact LeO.none _
      | refine LeO.ite ?_ ?_
      | refine LeO.bind ?_ (fun _ => ?_)
    · intro y0 y1 y2 y3 y4 y5 y6 y7 y8 y9
      unfold laws_FnLayout.l2
      repeat' first
      | (with_reducible exact ih0 _ _ _ _ _ _ _ _ _)
      | (with_reducible exact ih1 _ _ _ _ _ _ _ _ _ _)
      | (with_reducible exact ih2 _ _ _ _ _ _ _ _ _ _ _)
      | (with_reducible exact ih3 _ _ _ _ _ _ _ _ _)
      | (with_reducible exact ih4 _ _ _ _ _ _ _ _ _ _)
      | (with_reducible exact ih5 _ _ _ _ _ _ _ _ _ _ _)
      | (with_reducible exact ih6 _ _ _ _ _ _ _ _ _ _)
      | (with_reducible exact ih7 _ _ _ _ _ _ _ _ _ _)
      | (with_reducible exact laws_has.mono _ _ _)
      | (with_reducible exact laws_sameInts.mono _ _ _)
      | (with_reducible exact spec_DrawCellCount.mono _ _)
      | (with_reducible exact spec_FormatConfig.mono _ _ _ _ _ _ _)
      | (with_reducible exact LeO.refl _)
      | (with_reducible exact LeO.none _)
      | (with_reducible refine LeO.ite ?_ ?_)
      | (with_reducible refine LeO.bind ?_ (fun _ => ?_))
      | exact ih0 _ _ _ _ _ _ _ _ _
      | exact ih1 _ _ _ _ _ _ _ _ _ _
      | exact ih2 _ _ _ _ _ _ _ _ _ _ _
      | exact ih3 _ _ _ _ _ _ _ _ _
      | exact ih4 _ _ _ _ _ _ _ _ _ _
      | exact ih5 _ _ _ _ _ _ _ _ _ _ _
      | exact ih6 _ _ _ _ _ _ _ _ _ _
      | exact ih7 _ _ _ _ _ _ _ _ _ _
      | exact laws_has.mono _ _ _
      | exact laws_sameInts.mono _ _ _
      | exact spec_DrawCellCount.mono _ _
      | exact spec_FormatConfig.mono _ _ _ _ _ _ _
      | exact LeO.none _
      | refine LeO.ite ?_ ?_
      | refine LeO.bind ?_ (fun _ => ?_)
    · intro y0 y1 y2 y3 y4 y5 y6 y7 y8 y9 y10
      unfold laws_FnLayout.j6
      repeat' first
      | (with_reducible exact ih0 _ _ _ _ _ _ _ _ _)
      | (with_reducible exact ih1 _ _ _ _ _ _ _ _ _ _)
      | (with_reducible exact ih2 _ _ _ _ _ _ _ _ _ _ _)
      | (with_reducible exact ih3 _ _ _ _ _ _ _ _ _)
      | (with_reducible exact ih4 _ _ _ _ _ _ _ _ _ _)
      | (with_reducible exact ih5 _ _ _ _ _ _ _ _ _ _ _)
      | (with_reducible exact ih6 _ _ _ _ _ _ _ _ _ _)
      | (with_reducible exact ih7 _ _ _ _ _ _ _ _ _ _)
      | (with_reducible exact laws_has.mono _ _ _)
      | (with_reducible exact laws_sameInts.mono _ _ _)
      | (with_reducible exact spec_DrawCellCount.mono _ _)
      | (with_reducible exact spec_FormatConfig.mono _ _ _ _ _ _ _)
      | (with_reducible exact LeO.refl _)
      | (with_reducible exact LeO.none _)
      | (with_reducible refine LeO.ite ?_ ?_)
      | (with_reducible refine LeO.bind ?_ (fun _ => ?_))
      | exact ih0 _ _ _ _ _ _ _ _ _
      | exact ih1 _ _ _ _ _ _ _ _ _ _
      | exact ih2 _ _ _ _ _ _ _ _ _ _ _
      | exact ih3 _ _ _ _ _ _ _ _ _
      | exact ih4 _ _ _ _ _ _ _ _ _ _
      | exact ih5 _ _ _ _ _ _ _ _ _ _ _
      | exact ih6 _ _ _ _ _ _ _ _ _ _
      | exact ih7 _ _ _ _ _ _ _ _ _ _
      | exact laws_has.mono _ _ _
      | exact laws_sameInts.mono _ _ _
      | exact spec_DrawCellCount.mono _ _
      | exact spec_FormatConfig.mono _ _ _ _ _ _ _
      | exact LeO.none _
      | refine LeO.ite ?_ ?_
      | refine LeO.bind ?_ (fun _ => ?_)
    · intro y0 y1 y2 y3 y4 y5 y6 y7 y8 y9
      unfold laws_FnLayout.l3
      repeat' first
      | (with_reducible exact ih0 _ _ _ _ _ _ _ _ _)
      | (with_reducible exact ih1 _ _ _ _ _ _ _ _ _ _)
      | (with_reducible exact ih2 _ _ _ _ _ _ _ _ _ _ _)
      | (with_reducible exact ih3 _ _ _ _ _ _ _ _ _)
      | (with_reducible exact ih4 _ _ _ _ _ _ _ _ _ _)
      | (with_reducible exact ih5 _ _ _ _ _ _ _ _ _ _ _)
      | (with_reducible exact ih6 _ _ _ _ _ _ _ _ _ _)
      | (with_reducible exact ih7 _ _ _ _ _ _ _ _ _ _)
      | (with_reducible exact laws_has.mono _ _ _)
      | (with_reducible exact laws_sameInts.mono _ _ _)
      | (with_reducible exact spec_DrawCellCount.mono _ _)
      | (with_reducible exact spec_FormatConfig.mono _ _ _ _ _ _ _)
      | (with_reducible exact LeO.refl _)
      | (with_reducible exact LeO.none _)
      | (with_reducible refine LeO.ite ?_ ?_)
      | (with_reducible refine LeO.bind ?_ (fun _ => ?_))
      | exact ih0 _ _ _ _ _ _ _ _ _
      | exact ih1 _ _ _ _ _ _ _ _ _ _
      | exact ih2 _ _ _ _ _ _ _ _ _ _ _
      | exact ih3 _ _ _ _ _ _ _ _ _
      | exact ih4 _ _ _ _ _ _ _ _ _ _
      | exact ih5 _ _ _ _ _ _ _ _ _ _ _
      | exact ih6 _ _ _ _ _ _ _ _ _ _
      | exact ih7 _ _ _ _ _ _ _ _ _ _
      | exact laws_has.mono _ _ _
      | exact laws_sameInts.mono _ _ _
      | exact spec_DrawCellCount.mono _ _
      | exact spec_FormatConfig.mono _ _ _ _ _ _ _
      | exact LeO.none _
      | refine LeO.ite ?_ ?_
      | refine LeO.bind ?_ (fun _ => ?_)
    · intro y0 y1 y2 y3 y4 y5 y6 y7 y8 y9
      unfold laws_FnLayout.l1
      repeat' first
      | (with_reducible exact ih0 _ _ _ _ _ _ _ _ _)
      | (with_reducible exact ih1 _ _ _ _ _ _ _ _ _ _)
      | (with_reducible exact ih2 _ _ _ _ _ _ _ _ _ _ _)
      | (with_reducible exact ih3 _ _ _ _ _ _ _ _ _)
      | (with_reducible exact ih4 _ _ _ _ _ _ _ _ _ _)
      | (with_reducible exact ih5 _ _ _ _ _ _ _ _ _ _ _)
      | (with_reducible exact ih6 _ _ _ _ _ _ _ _ _ _)
      | (with_reducible exact ih7 _ _ _ _ _ _ _ _ _ _)
      | (with_reducible exact laws_has.mono _ _ _)
      | (with_reducible exact laws_sameInts.mono _ _ _)
      | (with_reducible exact spec_DrawCellCount.mono _ _)
      | (with_reducible exact spec_FormatConfig.mono _ _ _ _ _ _ _)
      | (with_reducible exact LeO.refl _)
      | (with_reducible exact LeO.none _)
      | (with_reducible refine LeO.ite ?_ ?_)
      | (with_reducible refine LeO.bind ?_ (fun _ => ?_))
      | exact ih0 _ _ _ _ _ _ _ _ _
      | exact ih1 _ _ _ _ _ _ _ _ _ _
      | exact ih2 _ _ _ _ _ _ _ _ _ _ _
      | exact ih3 _ _ _ _ _ _ _ _ _
      | exact ih4 _ _ _ _ _ _ _ _ _ _
      | exact ih5 _ _ _ _ _ _ _ _ _ _ _
      | exact ih6 _ _ _ _ _ _ _ _ _ _
      | exact ih7 _ _ _ _ _ _ _ _ _ _
      | exact laws_has.mono _ _ _
      | exact laws_sameInts.mono _ _ _
      | exact spec_DrawCellCount.mono _ _
      | exact spec_FormatConfig.mono _ _ _ _ _ _ _
      | exact LeO.none _
      | refine LeO.ite ?_ ?_
      | refine LeO.bind ?_ (fun _ => ?_)
theorem laws_FnLayout.mono : ∀ a0 k, LeO (laws_FnLayout.f k a0) (laws_FnLayout.f (k + 1) a0) := by
  intro a0 k
  obtain ⟨ih0, ih1, ih2, ih3, ih4, ih5, ih6, ih7⟩ := laws_FnLayout.mono_l k
  unfold laws_FnLayout.f
  repeat' first
      | (with_reducible exact ih0 _ _ _ _ _ _ _ _ _)
      | (with_reducible exact ih1 _ _ _ _ _ _ _ _ _ _)
      | (with_reducible exact ih2 _ _ _ _ _ _ _ _ _ _ _)
      | (with_reducible exact ih3 _ _ _ _ _ _ _ _ _)
      | (with_reducible exact ih4 _ _ _ _ _ _ _ _ _ _)
      | (with_reducible exact ih5 _ _ _ _ _ _ _ _ _ _ _)
      | (with_reducible exact ih6 _ _ _ _ _ _ _ _ _ _)
      | (with_reducible exact ih7 _ _ _ _ _ _ _ _ _ _)
      | (with_reducible exact laws_has.mono _ _ _)
      | (with_reducible exact laws_sameInts.mono _ _ _)
      | (with_reducible exact spec_DrawCellCount.mono _ _)
      | (with_reducible exact spec_FormatConfig.mono _ _ _ _ _ _ _)
      | (with_reducible exact LeO.refl _)
      | (with_reducible exact LeO.none _)
      | (with_reducible refine LeO.ite ?_ ?_)
      | (with_reducible refine LeO.bind ?_ (fun _ => ?_))
      | exact ih0 _ _ _ _ _ _ _ _ _
      | exact ih1 _ _ _ _ _ _ _ _ _ _
      | exact ih2 _ _ _ _ _ _ _ _ _ _ _
      | exact ih3 _ _ _ _ _ _ _ _ _
      | exact ih4 _ _ _ _ _ _ _ _ _ _
      | exact ih5 _ _ _ _ _ _ _ _ _ _ _
      | exact ih6 _ _ _ _ _ _ _ _ _ _
      | exact ih7 _ _ _ _ _ _ _ _ _ _
      | exact laws_has.mono _ _ _
      | exact laws_sameInts.mono _ _ _
      | exact spec_DrawCellCount.mono _ _
      | exact spec_FormatConfig.mono _ _ _ _ _ _ _
      | exact LeO.none _
      | refine LeO.ite ?_ ?_
      | refine LeO.bind ?_ (fun _ => ?_)
def laws_FnLayout.T13 : Bool × List (List Nat × List Nat) := (true, [([], []), ([], []), ([], []), ([1, 2], [1, 2]), ([], []), ([], []), ([4, 5, 3], [4, 5]), ([], []), ([], []), ([7, 8, 6], [7, 8]), ([3, 6, 9], [3, 6, 9]), ([0, 10, 9], [0, 10]), ([11, 11, 0, 1, 2, 3, 4, 5, 6, 7, 8, 9, 10, 11], [0, 11])])
def laws_FnLayout.B13 : List Nat := [0, 0, 0, 6, 0, 0, 62, 0, 0, 510, 1022, 2047, 4095]
theorem laws_FnLayout.tab13 : rtab .any (opsOf Tryd.f10 13) = laws_FnLayout.T13 := by kernel_rfl
theorem laws_FnLayout.bits13 : waitsOk laws_FnLayout.T13.2 laws_FnLayout.B13 = true := by kernel_rfl
def laws_FnLayout.T21 : Bool × List (List Nat × List Nat) := (true, [([], []), ([], []), ([], []), ([1, 2], [1, 2]), ([], []), ([], []), ([4, 5, 3], [4, 5]), ([], []), ([], []), ([7, 8, 6], [7, 8]), ([3, 6, 9], [3, 6, 9]), ([0, 10, 9], [0, 10]), ([11, 11, 0, 1, 2, 3, 4, 5, 6, 7, 8, 9, 10, 11], [0, 11])])
def laws_FnLayout.B21 : List Nat := [0, 0, 0, 6, 0, 0, 62, 0, 0, 510, 1022, 2047, 4095]
theorem laws_FnLayout.tab21 : rtab .any (opsOf Tryd.f10 21) = laws_FnLayout.T21 := by kernel_rfl
theorem laws_FnLayout.bits21 : waitsOk laws_FnLayout.T21.2 laws_FnLayout.B21 = true := by kernel_rfl
set_option maxHeartbeats 8000000 in
set_option maxRecDepth 100000 in
theorem laws_FnLayout.calls (k : Nat) (A0 : Option Addr) (c0 : Nat) (l0 : List Int) (r : Bool) (w : World) (hr0 : Kd.C (Kd.int .u8) w A0 l0.length l0) (hc0 : l0.length ≤ c0) (hF : Fit w) (h : laws_FnLayout.f k l0 = some r) :
    Calls Tryd.prog 10 #[.slice A0 l0.length c0] w fun e w' => e = .returned (.bool r) ∧ Below w.heap.size w w' := by
  have HF := Aside0.mk hF
  clear hF
  have hu47 := Tryd.underlying47
  have HR0 := Aside0.mk hr0
  have HC0 := Aside0.mk hc0
  clear hr0 hc0
  have HB := Aside0.mk (Below.refl w.heap.size w)
  have H : ((laws_big.f l0).bind fun t306 => (if t306 = true then (some true) else ((spec_DrawCellCount.f k l0).bind fun bt307 => ((impl_CellCount.f bt307.1 bt307.2.1 bt307.2.2.1 bt307.2.2.2.1 bt307.2.2.2.2.1 bt307.2.2.2.2.2).bind fun t314 => ((impl_FormatConfig.f bt307.1 bt307.2.1 bt307.2.2.1 bt307.2.2.2.1 bt307.2.2.2.2.1 bt307.2.2.2.2.2).bind fun t315 => ((impl_ParseConfig.f t315).bind fun bt316 => ((spec_CellCount.f bt307.1 bt307.2.1 bt307.2.2.1 bt307.2.2.2.1 bt307.2.2.2.2.1 bt307.2.2.2.2.2).bind fun t324 => (if t314 = t324 then ((spec_FormatConfig.f k bt307.1 bt307.2.1 bt307.2.2.1 bt307.2.2.2.1 bt307.2.2.2.2.1 bt307.2.2.2.2.2).bind fun t325 => (if t315.toList = t325.toList then ((spec_IsConfig.f bt307.1 bt307.2.1 bt307.2.2.1 bt307.2.2.2.1 bt307.2.2.2.2.1 bt307.2.2.2.2.2).bind fun t326 => (if (bt316.2.2.2.2.2.2 != t326) = true then (laws_FnLayout.j0 k t314 bt316.2.2.2.2.2.2 true bt307.1 bt307.2.1 bt307.2.2.1 bt307.2.2.2.1 bt307.2.2.2.2.1 bt307.2.2.2.2.2) else (if bt316.2.2.2.2.2.2 = true then (laws_FnLayout.j0 k t314 bt316.2.2.2.2.2.2 (!(bt316.1 == bt307.1) || (!(bt316.2.1 == bt307.2.1) || (!(bt316.2.2.1 == bt307.2.2.1) || (!(bt316.2.2.2.1 == bt307.2.2.2.1) || (!(bt316.2.2.2.2.1 == bt307.2.2.2.2.1) || (!(bt316.2.2.2.2.2.1 == bt307.2.2.2.2.2))))))) bt307.1 bt307.2.1 bt307.2.2.1 bt307.2.2.2.1 bt307.2.2.2.2.1 bt307.2.2.2.2.2) else (laws_FnLayout.j0 k t314 bt316.2.2.2.2.2.2 false bt307.1 bt307.2.1 bt307.2.2.1 bt307.2.2.2.1 bt307.2.2.2.2.1 bt307.2.2.2.2.2)))) else (laws_FnLayout.j0 k t314 bt316.2.2.2.2.2.2 true bt307.1 bt307.2.1 bt307.2.2.1 bt307.2.2.2.1 bt307.2.2.2.2.1 bt307.2.2.2.2.2))) else (laws_FnLayout.j0 k t314 bt316.2.2.2.2.2.2 true bt307.1 bt307.2.1 bt307.2.2.1 bt307.2.2.2.1 bt307.2.2.2.2.1 bt307.2.2.2.2.2))))))))) = some r := h
  clear h
  replace H := Option.bind_eq_some_iff.mp H
  obtain ⟨t306, A20, H⟩ := H
  replace H : (if t306 = true then (some true) else ((spec_DrawCellCount.f k l0).bind fun bt307 => ((impl_CellCount.f bt307.1 bt307.2.1 bt307.2.2.1 bt307.2.2.2.1 bt307.2.2.2.2.1 bt307.2.2.2.2.2).bind fun t314 => ((impl_FormatConfig.f bt307.1 bt307.2.1 bt307.2.2.1 bt307.2.2.2.1 bt307.2.2.2.2.1 bt307.2.2.2.2.2).bind fun t315 => ((impl_ParseConfig.f t315).bind fun bt316 => ((spec_CellCount.f bt307.1 bt307.2.1 bt307.2.2.1 bt307.2.2.2.1 bt307.2.2.2.2.1 bt307.2.2.2.2.2).bind fun t324 => (if t314 = t324 then ((spec_FormatConfig.f k bt307.1 bt307.2.1 bt307.2.2.1 bt307.2.2.2.1 bt307.2.2.2.2.1 bt307.2.2.2.2.2).bind fun t325 => (if t315.toList = t325.toList then ((spec_IsConfig.f bt307.1 bt307.2.1 bt307.2.2.1 bt307.2.2.2.1 bt307.2.2.2.2.1 bt307.2.2.2.2.2).bind fun t326 => (if (bt316.2.2.2.2.2.2 != t326) = true then (laws_FnLayout.j0 k t314 bt316.2.2.2.2.2.2 true bt307.1 bt307.2.1 bt307.2.2.1 bt307.2.2.2.1 bt307.2.2.2.2.1 bt307.2.2.2.2.2) else (if bt316.2.2.2.2.2.2 = true then (laws_FnLayout.j0 k t314 bt316.2.2.2.2.2.2 (!(bt316.1 == bt307.1) || (!(bt316.2.1 == bt307.2.1) || (!(bt316.2.2.1 == bt307.2.2.1) || (!(bt316.2.2.2.1 == bt307.2.2.2.1) || (!(bt316.2.2.2.2.1 == bt307.2.2.2.2.1) || (!(bt316.2.2.2.2.2.1 == bt307.2.2.2.2.2))))))) bt307.1 bt307.2.1 bt307.2.2.1 bt307.2.2.2.1 bt307.2.2.2.2.1 bt307.2.2.2.2.2) else (laws_FnLayout.j0 k t314 bt316.2.2.2.2.2.2 false bt307.1 bt307.2.1 bt307.2.2.1 bt307.2.2.2.1 bt307.2.2.2.2.1 bt307.2.2.2.2.2)))) else (laws_FnLayout.j0 k t314 bt316.2.2.2.2.2.2 true bt307.1 bt307.2.1 bt307.2.2.1 bt307.2.2.2.1 bt307.2.2.2.2.1 bt307.2.2.2.2.2))) else (laws_FnLayout.j0 k t314 bt316.2.2.2.2.2.2 true bt307.1 bt307.2.1 bt307.2.2.1 bt307.2.2.2.1 bt307.2.2.2.2.1 bt307.2.2.2.2.2)))))))) = some r := H
  have A2 := Aside0.mk A20
  clear A20
  by_cases c3 : t306 = true
  · subst c3
    have H1 : (some true) = some r := by rw [if_pos rfl] at H; exact H
    clear H
    have H := H1
    clear H1
    obtain rfl := Option.some.inj H
    go_enter Tryd.func10, Tryd.ntmps10
    go_wp2_with (first | ((with_reducible refine gate_callee (f := 13) rfl ?_); refine goesL_ (some 15) rfl rfl Tryd.func13 (by kernel_rfl) rfl #[.slice A0 l0.length c0] rfl (by (try simp only [List.map_toArray, List.map_cons, List.map_nil]); first | done | rfl | (simp only [List.length_drop, List.length_take]; rfl)) ?_; (with_reducible refine (laws_big.calls _ _ l0 true _ ?side1 ?side2 A2.out).mono ?_); (case side1 => repeat (first | exact HR0.out | (with_reducible refine Kd.C_alloc ?_ _) | (with_reducible refine Kd.C_drewN ?_ _) | (with_reducible refine Kd.C_drew ?_))); (case side2 => exact HC0.out); rintro e w' ⟨rfl, ⟨nd, rfl⟩⟩; refine ⟨_, rfl, ?_⟩))
    go_ret
    exact ⟨by first | rfl | (refine congrArg Ending.returned (congrArg Value.bool ?_); generalize ByteArray.toList _ = l_; cases l_ <;> rfl) | (simp [errW_none, errW_some] <;> rfl) | (simp [*, errW_none, errW_some] <;> rfl), by repeat (first | (with_reducible first | exact HB.out | apply below_alloc | apply pw_below_drewN | apply below_drew1) | exact HB.out)⟩
  · replace c3 := Bool.eq_false_iff.mpr c3
    subst c3
    have H1 : ((spec_DrawCellCount.f k l0).bind fun bt307 => ((impl_CellCount.f bt307.1 bt307.2.1 bt307.2.2.1 bt307.2.2.2.1 bt307.2.2.2.2.1 bt307.2.2.2.2.2).bind fun t314 => ((impl_FormatConfig.f bt307.1 bt307.2.1 bt307.2.2.1 bt307.2.2.2.1 bt307.2.2.2.2.1 bt307.2.2.2.2.2).bind fun t315 => ((impl_ParseConfig.f t315).bind fun bt316 => ((spec_CellCount.f bt307.1 bt307.2.1 bt307.2.2.1 bt307.2.2.2.1 bt307.2.2.2.2.1 bt307.2.2.2.2.2).bind fun t324 => (if t314 = t324 then ((spec_FormatConfig.f k bt307.1 bt307.2.1 bt307.2.2.1 bt307.2.2.2.1 bt307.2.2.2.2.1 bt307.2.2.2.2.2).bind fun t325 => (if t315.toList = t325.toList then ((spec_IsConfig.f bt307.1 bt307.2.1 bt307.2.2.1 bt307.2.2.2.1 bt307.2.2.2.2.1 bt307.2.2.2.2.2).bind fun t326 => (if (bt316.2.2.2.2.2.2 != t326) = true then (laws_FnLayout.j0 k t314 bt316.2.2.2.2.2.2 true bt307.1 bt307.2.1 bt307.2.2.1 bt307.2.2.2.1 bt307.2.2.2.2.1 bt307.2.2.2.2.2) else (if bt316.2.2.2.2.2.2 = true then (laws_FnLayout.j0 k t314 bt316.2.2.2.2.2.2 (!(bt316.1 == bt307.1) || (!(bt316.2.1 == bt307.2.1) || (!(bt316.2.2.1 == bt307.2.2.1) || (!(bt316.2.2.2.1 == bt307.2.2.2.1) || (!(bt316.2.2.2.2.1 == bt307.2.2.2.2.1) || (!(bt316.2.2.2.2.2.1 == bt307.2.2.2.2.2))))))) bt307.1 bt307.2.1 bt307.2.2.1 bt307.2.2.2.1 bt307.2.2.2.2.1 bt307.2.2.2.2.2) else (laws_FnLayout.j0 k t314 bt316.2.2.2.2.2.2 false bt307.1 bt307.2.1 bt307.2.2.1 bt307.2.2.2.1 bt307.2.2.2.2.1 bt307.2.2.2.2.2)))) else (laws_FnLayout.j0 k t314 bt316.2.2.2.2.2.2 true bt307.1 bt307.2.1 bt307.2.2.1 bt307.2.2.2.1 bt307.2.2.2.2.1 bt307.2.2.2.2.2))) else (laws_FnLayout.j0 k t314 bt316.2.2.2.2.2.2 true bt307.1 bt307.2.1 bt307.2.2.1 bt307.2.2.2.1 bt307.2.2.2.2.1 bt307.2.2.2.2.2))))))) = some r := by rw [if_neg (show ¬ (false = true) by decide)] at H; exact H
    clear H
    have H := H1
    clear H1
    replace H := Option.bind_eq_some_iff.mp H
    obtain ⟨⟨t307, t308, t309, t310, t311, t312⟩, A40, H⟩ := H
    replace H : ((impl_CellCount.f t307 t308 t309 t310 t311 t312).bind fun t314 => ((impl_FormatConfig.f t307 t308 t309 t310 t311 t312).bind fun t315 => ((impl_ParseConfig.f t315).bind fun bt316 => ((spec_CellCount.f t307 t308 t309 t310 t311 t312).bind fun t324 => (if t314 = t324 then ((spec_FormatConfig.f k t307 t308 t309 t310 t311 t312).bind fun t325 => (if t315.toList = t325.toList then ((spec_IsConfig.f t307 t308 t309 t310 t311 t312).bind fun t326 => (if (bt316.2.2.2.2.2.2 != t326) = true then (laws_FnLayout.j0 k t314 bt316.2.2.2.2.2.2 true t307 t308 t309 t310 t311 t312) else (if bt316.2.2.2.2.2.2 = true then (laws_FnLayout.j0 k t314 bt316.2.2.2.2.2.2 (!(bt316.1 == t307) || (!(bt316.2.1 == t308) || (!(bt316.2.2.1 == t309) || (!(bt316.2.2.2.1 == t310) || (!(bt316.2.2.2.2.1 == t311) || (!(bt316.2.2.2.2.2.1 == t312))))))) t307 t308 t309 t310 t311 t312) else (laws_FnLayout.j0 k t314 bt316.2.2.2.2.2.2 false t307 t308 t309 t310 t311 t312)))) else (laws_FnLayout.j0 k t314 bt316.2.2.2.2.2.2 true t307 t308 t309 t310 t311 t312))) else (laws_FnLayout.j0 k t314 bt316.2.2.2.2.2.2 true t307 t308 t309 t310 t311 t312)))))) = some r := H
    have A4 := Aside0.mk A40
    clear A40
    replace H := Option.bind_eq_some_iff.mp H
    obtain ⟨t314, A50, H⟩ := H
    replace H : ((impl_FormatConfig.f t307 t308 t309 t310 t311 t312).bind fun t315 => ((impl_ParseConfig.f t315).bind fun bt316 => ((spec_CellCount.f t307 t308 t309 t310 t311 t312).bind fun t324 => (if t314 = t324 then ((spec_FormatConfig.f k t307 t308 t309 t310 t311 t312).bind fun t325 => (if t315.toList = t325.toList then ((spec_IsConfig.f t307 t308 t309 t310 t311 t312).bind fun t326 => (if (bt316.2.2.2.2.2.2 != t326) = true then (laws_FnLayout.j0 k t314 bt316.2.2.2.2.2.2 true t307 t308 t309 t310 t311 t312) else (if bt316.2.2.2.2.2.2 = true then (laws_FnLayout.j0 k t314 bt316.2.2.2.2.2.2 (!(bt316.1 == t307) || (!(bt316.2.1 == t308) || (!(bt316.2.2.1 == t309) || (!(bt316.2.2.2.1 == t310) || (!(bt316.2.2.2.2.1 == t311) || (!(bt316.2.2.2.2.2.1 == t312))))))) t307 t308 t309 t310 t311 t312) else (laws_FnLayout.j0 k t314 bt316.2.2.2.2.2.2 false t307 t308 t309 t310 t311 t312)))) else (laws_FnLayout.j0 k t314 bt316.2.2.2.2.2.2 true t307 t308 t309 t310 t311 t312))) else (laws_FnLayout.j0 k t314 bt316.2.2.2.2.2.2 true t307 t308 t309 t310 t311 t312))))) = some r := H
    have A5 := Aside0.mk A50
    clear A50
    replace H := Option.bind_eq_some_iff.mp H
    obtain ⟨t315, A60, H⟩ := H
    replace H : ((impl_ParseConfig.f t315).bind fun bt316 => ((spec_CellCount.f t307 t308 t309 t310 t311 t312).bind fun t324 => (if t314 = t324 then ((spec_FormatConfig.f k t307 t308 t309 t310 t311 t312).bind fun t325 => (if t315.toList = t325.toList then ((spec_IsConfig.f t307 t308 t309 t310 t311 t312).bind fun t326 => (if (bt316.2.2.2.2.2.2 != t326) = true then (laws_FnLayout.j0 k t314 bt316.2.2.2.2.2.2 true t307 t308 t309 t310 t311 t312) else (if bt316.2.2.2.2.2.2 = true then (laws_FnLayout.j0 k t314 bt316.2.2.2.2.2.2 (!(bt316.1 == t307) || (!(bt316.2.1 == t308) || (!(bt316.2.2.1 == t309) || (!(bt316.2.2.2.1 == t310) || (!(bt316.2.2.2.2.1 == t311) || (!(bt316.2.2.2.2.2.1 == t312))))))) t307 t308 t309 t310 t311 t312) else (laws_FnLayout.j0 k t314 bt316.2.2.2.2.2.2 false t307 t308 t309 t310 t311 t312)))) else (laws_FnLayout.j0 k t314 bt316.2.2.2.2.2.2 true t307 t308 t309 t310 t311 t312))) else (laws_FnLayout.j0 k t314 bt316.2.2.2.2.2.2 true t307 t308 t309 t310 t311 t312)))) = some r := H
    have A6 := Aside0.mk A60
    clear A60
    replace H := Option.bind_eq_some_iff.mp H
    obtain ⟨⟨t316, t317, t318, t319, t320, t321, t322⟩, A70, H⟩ := H
    replace H : ((spec_CellCount.f t307 t308 t309 t310 t311 t312).bind fun t324 => (if t314 = t324 then ((spec_FormatConfig.f k t307 t308 t309 t310 t311 t312).bind fun t325 => (if t315.toList = t325.toList then ((spec_IsConfig.f t307 t308 t309 t310 t311 t312).bind fun t326 => (if (t322 != t326) = true then (laws_FnLayout.j0 k t314 t322 true t307 t308 t309 t310 t311 t312) else (if t322 = true then (laws_FnLayout.j0 k t314 t322 (!(t316 == t307) || (!(t317 == t308) || (!(t318 == t309) || (!(t319 == t310) || (!(t320 == t311) || (!(t321 == t312))))))) t307 t308 t309 t310 t311 t312) else (laws_FnLayout.j0 k t314 t322 false t307 t308 t309 t310 t311 t312)))) else (laws_FnLayout.j0 k t314 t322 true t307 t308 t309 t310 t311 t312))) else (laws_FnLayout.j0 k t314 t322 true t307 t308 t309 t310 t311 t312))) = some r := H
    have A7 := Aside0.mk A70
    clear A70
    have HC8 := Aside0.mk H
    clear H
    go_enter Tryd.func10, Tryd.ntmps10
    go_upto_region 7 with (first | ((with_reducible refine gate_callee (f := 13) rfl ?_); refine goesL_ (some 15) rfl rfl Tryd.func13 (by kernel_rfl) rfl #[.slice A0 l0.length c0] rfl (by (try simp only [List.map_toArray, List.map_cons, List.map_nil]); first | done | rfl | (simp only [List.length_drop, List.length_take]; rfl)) ?_; (with_reducible refine (laws_big.calls _ _ l0 false _ ?side1 ?side2 A2.out).mono ?_); (case side1 => repeat (first | exact HR0.out | (with_reducible refine Kd.C_alloc ?_ _) | (with_reducible refine Kd.C_drewN ?_ _) | (with_reducible refine Kd.C_drew ?_))); (case side2 => exact HC0.out); rintro e w' ⟨rfl, ⟨nd, rfl⟩⟩; refine ⟨_, rfl, ?_⟩) | ((with_reducible refine gate_callee (f := 54) rfl ?_); refine goesL_ (some 17) rfl rfl Tryd.func54 (by kernel_rfl) rfl #[.slice A0 l0.length c0] rfl (by (try simp only [List.map_toArray, List.map_cons, List.map_nil]); first | done | rfl | (simp only [List.length_drop, List.length_take]; rfl)) ?_; (with_reducible refine (spec_DrawCellCount.calls k _ _ l0 t307 t308 t309 t310 t311 t312 _ ?side1 ?side2 A4.out).mono ?_); (case side1 => repeat (first | exact HR0.out | (with_reducible refine Kd.C_alloc ?_ _) | (with_reducible refine Kd.C_drewN ?_ _) | (with_reducible refine Kd.C_drew ?_))); (case side2 => exact HC0.out); rintro e w9 ⟨rfl, hb⟩; refine ⟨_, rfl, ?_⟩; have n0_ := Aside0.mk (below_step (by repeat (first | (with_reducible first | exact HB.out | apply below_alloc | apply pw_below_drewN | apply below_drew1) | exact HB.out)) hb); clear HB; have HB := n0_; clear n0_; (try clear hb); (try clear hb2); (try clear hk); (try clear hi)) | ((with_reducible refine gate_dst (N := 3) rfl ?_); (try (refine gate_guard (by rfl) ?_; dsimp only)); refine box_event ?hg (N := 3) ?hd (cs := #[.int .i64 0, .int .i64 0, .int .i64 0, .int .i64 0, .int .i64 0, .int .i64 0]) (t := 47) ?hr ?_; (case hd => rfl); (case hg => rfl); (case hr => first | (go_simp; done) | (go_simp; rfl)); intro gb313 hg w10 hbox hb; have n0_ := Aside0.mk (below_step (by repeat (first | (with_reducible first | exact HB.out | apply below_alloc | apply pw_below_drewN | apply below_drew1) | exact HB.out)) hb); have n1_ := Aside0.mk (hbox); have n2_ := Aside0.mk ((by rw [hg]; exact (below_size (by repeat (first | (with_reducible first | exact HB.out | apply below_alloc | apply pw_below_drewN | apply below_drew1) | exact HB.out))) : w.heap.size ≤ gb313)); have n3_ := Aside0.mk ((by rw [hg]; exact (below_size (by repeat (first | (with_reducible first | exact HB.out | apply below_alloc | apply pw_below_drewN | apply below_drew1) | exact HB.out))) : w.heap.size ≤ gb313)); clear HB; have HB := n0_; have BK313 := n1_; have GW313 := n2_; have GE313 := n3_; clear n0_ n1_ n2_ n3_; clear hb hbox hg; have hcz11_0 : w10.cell? ⟨gb313, 0, none⟩ = some (.int .i64 0) := (blk_cell BK313.out 0).trans rfl; have hcz11_1 : w10.cell? ⟨gb313, 1, none⟩ = some (.int .i64 0) := (blk_cell BK313.out 1).trans rfl; have hcz11_2 : w10.cell? ⟨gb313, 2, none⟩ = some (.int .i64 0) := (blk_cell BK313.out 2).trans rfl; have hcz11_3 : w10.cell? ⟨gb313, 3, none⟩ = some (.int .i64 0) := (blk_cell BK313.out 3).trans rfl; have hcz11_4 : w10.cell? ⟨gb313, 4, none⟩ = some (.int .i64 0) := (blk_cell BK313.out 4).trans rfl; have hcz11_5 : w10.cell? ⟨gb313, 5, none⟩ = some (.int .i64 0) := (blk_cell BK313.out 5).trans rfl; have hfz11_0 := blk_frozen BK313.out 0; have hfz11_1 := blk_frozen BK313.out 1; have hfz11_2 := blk_frozen BK313.out 2; have hfz11_3 := blk_frozen BK313.out 3; have hfz11_4 := blk_frozen BK313.out 4; have hfz11_5 := blk_frozen BK313.out 5) | ((with_reducible refine gate_callee (f := 55) rfl ?_); refine goesL_ (some 19) rfl rfl Tryd.func55 (by kernel_rfl) rfl #[.agg #[.int .i64 t307, .int .i64 t308, .int .i64 t309, .int .i64 t310, .int .i64 t311, .int .i64 t312]] rfl (by (try simp only [List.map_toArray, List.map_cons, List.map_nil]); first | done | rfl | (simp only [List.length_drop, List.length_take]; rfl)) ?_; (with_reducible refine (impl_CellCount.calls t307 t308 t309 t310 t311 t312 t314 _ A5.out).mono ?_); rintro e w12 ⟨rfl, hb⟩; refine ⟨_, rfl, ?_⟩; have n0_ := Aside0.mk (blk_below (g := gb313) (o := .cells #[.int .i64 t307, .int .i64 t308, .int .i64 t309, .int .i64 t310, .int .i64 t311, .int .i64 t312] 47 (0, 0)) (by (with_reducible repeat (first | refine blk_drewN ?_ _ | refine blk_drew ?_ | refine blk_alloc ?_ _)); refine blk_put (cs := #[.int .i64 t307, .int .i64 t308, .int .i64 t309, .int .i64 t310, .int .i64 t311, .int .i64 0]) ?_ 5 _ rfl; (with_reducible repeat (first | refine blk_drewN ?_ _ | refine blk_drew ?_ | refine blk_alloc ?_ _)); refine blk_put (cs := #[.int .i64 t307, .int .i64 t308, .int .i64 t309, .int .i64 t310, .int .i64 0, .int .i64 0]) ?_ 4 _ rfl; (with_reducible repeat (first | refine blk_drewN ?_ _ | refine blk_drew ?_ | refine blk_alloc ?_ _)); refine blk_put (cs := #[.int .i64 t307, .int .i64 t308, .int .i64 t309, .int .i64 0, .int .i64 0, .int .i64 0]) ?_ 3 _ rfl; (with_reducible repeat (first | refine blk_drewN ?_ _ | refine blk_drew ?_ | refine blk_alloc ?_ _)); refine blk_put (cs := #[.int .i64 t307, .int .i64 t308, .int .i64 0, .int .i64 0, .int .i64 0, .int .i64 0]) ?_ 2 _ rfl; (with_reducible repeat (first | refine blk_drewN ?_ _ | refine blk_drew ?_ | refine blk_alloc ?_ _)); refine blk_put (cs := #[.int .i64 t307, .int .i64 0, .int .i64 0, .int .i64 0, .int .i64 0, .int .i64 0]) ?_ 1 _ rfl; (with_reducible repeat (first | refine blk_drewN ?_ _ | refine blk_drew ?_ | refine blk_alloc ?_ _)); refine blk_put (cs := #[.int .i64 0, .int .i64 0, .int .i64 0, .int .i64 0, .int .i64 0, .int .i64 0]) ?_ 0 _ rfl; (with_reducible repeat (first | refine blk_drewN ?_ _ | refine blk_drew ?_ | refine blk_alloc ?_ _)); exact BK313.out) hb); have n1_ := Aside0.mk (below_step (by repeat (first | (with_reducible first | exact HB.out | apply below_alloc | apply pw_below_drewN | apply below_drew1 | refine below_set ?_ GE313.out) | exact HB.out)) hb); clear BK313; clear HB; have BK313 := n0_; have HB := n1_; clear n0_ n1_; (try clear hb); (try clear hb2); (try clear hk); (try clear hi); have hcz13_0 : w12.cell? ⟨gb313, 0, none⟩ = some (.int .i64 t307) := (blk_cell BK313.out 0).trans rfl; have hcz13_1 : w12.cell? ⟨gb313, 1, none⟩ = some (.int .i64 t308) := (blk_cell BK313.out 1).trans rfl; have hcz13_2 : w12.cell? ⟨gb313, 2, none⟩ = some (.int .i64 t309) := (blk_cell BK313.out 2).trans rfl; have hcz13_3 : w12.cell? ⟨gb313, 3, none⟩ = some (.int .i64 t310) := (blk_cell BK313.out 3).trans rfl; have hcz13_4 : w12.cell? ⟨gb313, 4, none⟩ = some (.int .i64 t311) := (blk_cell BK313.out 4).trans rfl; have hcz13_5 : w12.cell? ⟨gb313, 5, none⟩ = some (.int .i64 t312) := (blk_cell BK313.out 5).trans rfl; have hfz13_0 := blk_frozen BK313.out 0; have hfz13_1 := blk_frozen BK313.out 1; have hfz13_2 := blk_frozen BK313.out 2; have hfz13_3 := blk_frozen BK313.out 3; have hfz13_4 := blk_frozen BK313.out 4; have hfz13_5 := blk_frozen BK313.out 5) | ((with_reducible refine gate_callee (f := 56) rfl ?_); refine goesL_ (some 21) rfl rfl Tryd.func56 (by kernel_rfl) rfl #[.agg #[.int .i64 t307, .int .i64 t308, .int .i64 t309, .int .i64 t310, .int .i64 t311, .int .i64 t312]] rfl (by (try simp only [List.map_toArray, List.map_cons, List.map_nil]); first | done | rfl | (simp only [List.length_drop, List.length_take]; rfl)) ?_; (with_reducible refine (impl_FormatConfig.calls (hF := Fit.below HF.out (by repeat (first | (with_reducible first | exact HB.out | apply below_alloc | apply pw_below_drewN | apply below_drew1 | refine below_set ?_ GE313.out) | exact HB.out))) t307 t308 t309 t310 t311 t312 t315 _ A6.out).mono ?_); rintro e w14 ⟨rfl, hb⟩; refine ⟨_, rfl, ?_⟩; have n0_ := Aside0.mk (blk_below (g := gb313) (o := .cells #[.int .i64 t307, .int .i64 t308, .int .i64 t309, .int .i64 t310, .int .i64 t311, .int .i64 t312] 47 (0, 0)) (by (with_reducible repeat (first | refine blk_drewN ?_ _ | refine blk_drew ?_ | refine blk_alloc ?_ _)); exact BK313.out) hb); have n1_ := Aside0.mk (below_step (by repeat (first | (with_reducible first | exact HB.out | apply below_alloc | apply pw_below_drewN | apply below_drew1 | refine below_set ?_ GE313.out) | exact HB.out)) hb); clear BK313; clear HB; have BK313 := n0_; have HB := n1_; clear n0_ n1_; (try clear hb); (try clear hb2); (try clear hk); (try clear hi)) | ((with_reducible refine gate_callee (f := 47) rfl ?_); refine goesL_ (some 24) rfl rfl Tryd.func47 (by kernel_rfl) rfl #[.string t315] rfl (by (try simp only [List.map_toArray, List.map_cons, List.map_nil]); first | done | rfl | (simp only [List.length_drop, List.length_take]; rfl)) ?_; (with_reducible refine (impl_ParseConfig.calls (hF := Fit.below HF.out (by repeat (first | (with_reducible first | exact HB.out | apply below_alloc | apply pw_below_drewN | apply below_drew1 | refine below_set ?_ GE313.out) | exact HB.out))) t315 t316 t317 t318 t319 t320 t321 t322 _ A7.out).mono ?_); rintro e w15 ⟨rfl, hb⟩; refine ⟨_, rfl, ?_⟩; have n0_ := Aside0.mk (blk_below (g := gb313) (o := .cells #[.int .i64 t307, .int .i64 t308, .int .i64 t309, .int .i64 t310, .int .i64 t311, .int .i64 t312] 47 (0, 0)) (by (with_reducible repeat (first | refine blk_drewN ?_ _ | refine blk_drew ?_ | refine blk_alloc ?_ _)); exact BK313.out) hb); have n1_ := Aside0.mk (below_step (by repeat (first | (with_reducible first | exact HB.out | apply below_alloc | apply pw_below_drewN | apply below_drew1 | refine below_set ?_ GE313.out) | exact HB.out)) hb); clear BK313; clear HB; have BK313 := n0_; have HB := n1_; clear n0_ n1_; (try clear hb); (try clear hb2); (try clear hk); (try clear hi)) | ((with_reducible refine gate_dst (N := 6) rfl ?_); (try (refine gate_guard (by rfl) ?_; dsimp only)); refine box_event ?hg (N := 6) ?hd (cs := #[.int .i64 0, .int .i64 0, .int .i64 0, .int .i64 0, .int .i64 0, .int .i64 0]) (t := 47) ?hr ?_; (case hd => rfl); (case hg => rfl); (case hr => first | (go_simp; done) | (go_simp; rfl)); intro gb323 hg w16 hbox hb; have n0_ := Aside0.mk (blk_below (g := gb313) (o := .cells #[.int .i64 t307, .int .i64 t308, .int .i64 t309, .int .i64 t310, .int .i64 t311, .int .i64 t312] 47 (0, 0)) (by (with_reducible repeat (first | refine blk_drewN ?_ _ | refine blk_drew ?_ | refine blk_alloc ?_ _)); exact BK313.out) hb); have n1_ := Aside0.mk (below_step (by repeat (first | (with_reducible first | exact HB.out | apply below_alloc | apply pw_below_drewN | apply below_drew1 | refine below_set ?_ GE313.out) | exact HB.out)) hb); have n2_ := Aside0.mk (hbox); have n3_ := Aside0.mk ((by rw [hg]; exact (below_size (by repeat (first | (with_reducible first | exact HB.out | apply below_alloc | apply pw_below_drewN | apply below_drew1 | refine below_set ?_ GE313.out) | exact HB.out))) : w.heap.size ≤ gb323)); have n4_ := Aside0.mk ((by rw [hg]; exact (below_size (by repeat (first | (with_reducible first | exact HB.out | apply below_alloc | apply pw_below_drewN | apply below_drew1 | refine below_set ?_ GE313.out) | exact HB.out))) : w.heap.size ≤ gb323)); have n5_ := Aside0.mk ((by rw [hg]; exact Nat.ne_of_lt (blk_lt (g := gb313) (o := .cells #[.int .i64 t307, .int .i64 t308, .int .i64 t309, .int .i64 t310, .int .i64 t311, .int .i64 t312] 47 (0, 0)) (by (with_reducible repeat (first | refine blk_drewN ?_ _ | refine blk_drew ?_ | refine blk_alloc ?_ _)); exact BK313.out)) : gb313 ≠ gb323)); have n6_ := Aside0.mk ((by rw [hg]; exact Nat.ne_of_gt (blk_lt (g := gb313) (o := .cells #[.int .i64 t307, .int .i64 t308, .int .i64 t309, .int .i64 t310, .int .i64 t311, .int .i64 t312] 47 (0, 0)) (by (with_reducible repeat (first | refine blk_drewN ?_ _ | refine blk_drew ?_ | refine blk_alloc ?_ _)); exact BK313.out)) : gb323 ≠ gb313)); clear BK313; clear HB; have BK313 := n0_; have HB := n1_; have BK323 := n2_; have GW323 := n3_; have GE323 := n4_; have NB313_323 := n5_; have NB323_313 := n6_; clear n0_ n1_ n2_ n3_ n4_ n5_ n6_; clear hb hbox hg; have hnb17 := NB323_313.out; have hnc17 := NB313_323.out; have hcz18_0 : w16.cell? ⟨gb323, 0, none⟩ = some (.int .i64 0) := (blk_cell BK323.out 0).trans rfl; have hcz18_1 : w16.cell? ⟨gb323, 1, none⟩ = some (.int .i64 0) := (blk_cell BK323.out 1).trans rfl; have hcz18_2 : w16.cell? ⟨gb323, 2, none⟩ = some (.int .i64 0) := (blk_cell BK323.out 2).trans rfl; have hcz18_3 : w16.cell? ⟨gb323, 3, none⟩ = some (.int .i64 0) := (blk_cell BK323.out 3).trans rfl; have hcz18_4 : w16.cell? ⟨gb323, 4, none⟩ = some (.int .i64 0) := (blk_cell BK323.out 4).trans rfl; have hcz18_5 : w16.cell? ⟨gb323, 5, none⟩ = some (.int .i64 0) := (blk_cell BK323.out 5).trans rfl; have hfz18_0 := blk_frozen BK323.out 0; have hfz18_1 := blk_frozen BK323.out 1; have hfz18_2 := blk_frozen BK323.out 2; have hfz18_3 := blk_frozen BK323.out 3; have hfz18_4 := blk_frozen BK323.out 4; have hfz18_5 := blk_frozen BK323.out 5))
    (try simp only [Act.put, List.setIfInBounds_toArray, List.set_cons_zero, List.set_cons_succ])
    go_cut [50] (fun v50 wc => ∃ (kq : Nat) (x50_7 : Bool), v50 = .bool x50_7 ∧ Aside0 (laws_FnLayout.j0 kq t314 t322 x50_7 t307 t308 t309 t310 t311 t312 = some r) ∧ Aside0 (kq ≤ k) ∧ Aside0 (wc.heap[gb313]? = some (.cells #[.int .i64 t307, .int .i64 t308, .int .i64 t309, .int .i64 t310, .int .i64 t311, .int .i64 t312] 47 (0, 0))) ∧ Aside0 (wc.heap[gb323]? = some (.cells #[.int .i64 t316, .int .i64 t317, .int .i64 t318, .int .i64 t319, .int .i64 t320, .int .i64 t321] 47 (0, 0))) ∧ Aside0 (Below w.heap.size w wc))
    case first =>
      have H := HC8.out
      clear HC8
      replace H := Option.bind_eq_some_iff.mp H
      obtain ⟨t324, A190, H⟩ := H
      replace H : (if t314 = t324 then ((spec_FormatConfig.f k t307 t308 t309 t310 t311 t312).bind fun t325 => (if t315.toList = t325.toList then ((spec_IsConfig.f t307 t308 t309 t310 t311 t312).bind fun t326 => (if (t322 != t326) = true then (laws_FnLayout.j0 k t314 t322 true t307 t308 t309 t310 t311 t312) else (if t322 = true then (laws_FnLayout.j0 k t314 t322 (!(t316 == t307) || (!(t317 == t308) || (!(t318 == t309) || (!(t319 == t310) || (!(t320 == t311) || (!(t321 == t312))))))) t307 t308 t309 t310 t311 t312) else (laws_FnLayout.j0 k t314 t322 false t307 t308 t309 t310 t311 t312)))) else (laws_FnLayout.j0 k t314 t322 true t307 t308 t309 t310 t311 t312))) else (laws_FnLayout.j0 k t314 t322 true t307 t308 t309 t310 t311 t312)) = some r := H
      have A19 := Aside0.mk A190
      clear A190
      by_cases c20 : t314 = t324
      · rw [if_pos c20] at H
        have c20b0 : (t314 == t324) = true := beq_iff_eq.mpr c20
        have c20b1 : (t314 != t324) = false := bne_eq_false_iff_eq.mpr c20
        clear c20
        (first | rw [c20b0] | (simp only [i64_w, i32_w]; rw [c20b0]) | skip)
        replace H := Option.bind_eq_some_iff.mp H
        obtain ⟨t325, A210, H⟩ := H
        replace H : (if t315.toList = t325.toList then ((spec_IsConfig.f t307 t308 t309 t310 t311 t312).bind fun t326 => (if (t322 != t326) = true then (laws_FnLayout.j0 k t314 t322 true t307 t308 t309 t310 t311 t312) else (if t322 = true then (laws_FnLayout.j0 k t314 t322 (!(t316 == t307) || (!(t317 == t308) || (!(t318 == t309) || (!(t319 == t310) || (!(t320 == t311) || (!(t321 == t312))))))) t307 t308 t309 t310 t311 t312) else (laws_FnLayout.j0 k t314 t322 false t307 t308 t309 t310 t311 t312)))) else (laws_FnLayout.j0 k t314 t322 true t307 t308 t309 t310 t311 t312)) = some r := H
        have A21 := Aside0.mk A210
        clear A210
        by_cases c22 : t315.toList = t325.toList
        · rw [if_pos c22] at H
          have c22b0 : (t315.toList == t325.toList) = true := beq_iff_eq.mpr c22
          have c22b1 : (t315.toList != t325.toList) = false := bne_eq_false_iff_eq.mpr c22
          clear c22
          replace H := Option.bind_eq_some_iff.mp H
          obtain ⟨t326, A230, H⟩ := H
          replace H : (if (t322 != t326) = true then (laws_FnLayout.j0 k t314 t322 true t307 t308 t309 t310 t311 t312) else (if t322 = true then (laws_FnLayout.j0 k t314 t322 (!(t316 == t307) || (!(t317 == t308) || (!(t318 == t309) || (!(t319 == t310) || (!(t320 == t311) || (!(t321 == t312))))))) t307 t308 t309 t310 t311 t312) else (laws_FnLayout.j0 k t314 t322 false t307 t308 t309 t310 t311 t312))) = some r := H
          have A23 := Aside0.mk A230
          clear A230
          by_cases c24 : (t322 != t326) = true
          · rw [if_pos c24] at H
            have c24b0 : (t322 != t326) = true := c24
            (try (have c24b1 : decide (t322 = t326) = false := by simpa using c24))
            (try (have c24b2 : (t322 == t326) = false := by simpa using c24))
            (try (have c24b3 : ¬ (t322 = t326) := by simpa using c24))
            clear c24
            have H' := Aside0.mk H
            clear H
            have hnb25 := NB313_323.out
            have hnc25 := NB323_313.out
            have hcz26_0 : w16.cell? ⟨gb313, 0, none⟩ = some (.int .i64 t307) := (blk_cell BK313.out 0).trans rfl
            have hcz26_1 : w16.cell? ⟨gb313, 1, none⟩ = some (.int .i64 t308) := (blk_cell BK313.out 1).trans rfl
            have hcz26_2 : w16.cell? ⟨gb313, 2, none⟩ = some (.int .i64 t309) := (blk_cell BK313.out 2).trans rfl
            have hcz26_3 : w16.cell? ⟨gb313, 3, none⟩ = some (.int .i64 t310) := (blk_cell BK313.out 3).trans rfl
            have hcz26_4 : w16.cell? ⟨gb313, 4, none⟩ = some (.int .i64 t311) := (blk_cell BK313.out 4).trans rfl
            have hcz26_5 : w16.cell? ⟨gb313, 5, none⟩ = some (.int .i64 t312) := (blk_cell BK313.out 5).trans rfl
            have hfz26_0 := blk_frozen BK313.out 0
            have hfz26_1 := blk_frozen BK313.out 1
            have hfz26_2 := blk_frozen BK313.out 2
            have hfz26_3 := blk_frozen BK313.out 3
            have hfz26_4 := blk_frozen BK313.out 4
            have hfz26_5 := blk_frozen BK313.out 5
            go_wp2_with (first | ((with_reducible refine gate_callee (f := 57) rfl ?_); refine goesL_ (some 29) rfl rfl Tryd.func57 (by kernel_rfl) rfl #[.agg #[.int .i64 t307, .int .i64 t308, .int .i64 t309, .int .i64 t310, .int .i64 t311, .int .i64 t312]] rfl (by (try simp only [List.map_toArray, List.map_cons, List.map_nil]); first | done | rfl | (simp only [List.length_drop, List.length_take]; rfl)) ?_; (with_reducible refine (spec_CellCount.calls t307 t308 t309 t310 t311 t312 t324 _ A19.out).mono ?_); rintro e w27 ⟨rfl, hb⟩; refine ⟨_, rfl, ?_⟩; have n0_ := Aside0.mk (blk_below (g := gb313) (o := .cells #[.int .i64 t307, .int .i64 t308, .int .i64 t309, .int .i64 t310, .int .i64 t311, .int .i64 t312] 47 (0, 0)) (by (with_reducible repeat (first | refine blk_drewN ?_ _ | refine blk_drew ?_ | refine blk_alloc ?_ _)); refine blk_far ?_ NB313_323.out _; (with_reducible repeat (first | refine blk_drewN ?_ _ | refine blk_drew ?_ | refine blk_alloc ?_ _)); refine blk_far ?_ NB313_323.out _; (with_reducible repeat (first | refine blk_drewN ?_ _ | refine blk_drew ?_ | refine blk_alloc ?_ _)); refine blk_far ?_ NB313_323.out _; (with_reducible repeat (first | refine blk_drewN ?_ _ | refine blk_drew ?_ | refine blk_alloc ?_ _)); refine blk_far ?_ NB313_323.out _; (with_reducible repeat (first | refine blk_drewN ?_ _ | refine blk_drew ?_ | refine blk_alloc ?_ _)); refine blk_far ?_ NB313_323.out _; (with_reducible repeat (first | refine blk_drewN ?_ _ | refine blk_drew ?_ | refine blk_alloc ?_ _)); refine blk_far ?_ NB313_323.out _; (with_reducible repeat (first | refine blk_drewN ?_ _ | refine blk_drew ?_ | refine blk_alloc ?_ _)); exact BK313.out) hb); have n1_ := Aside0.mk (blk_below (g := gb323) (o := .cells #[.int .i64 t316, .int .i64 t317, .int .i64 t318, .int .i64 t319, .int .i64 t320, .int .i64 t321] 47 (0, 0)) (by (with_reducible repeat (first | refine blk_drewN ?_ _ | refine blk_drew ?_ | refine blk_alloc ?_ _)); refine blk_put (cs := #[.int .i64 t316, .int .i64 t317, .int .i64 t318, .int .i64 t319, .int .i64 t320, .int .i64 0]) ?_ 5 _ rfl; (with_reducible repeat (first | refine blk_drewN ?_ _ | refine blk_drew ?_ | refine blk_alloc ?_ _)); refine blk_put (cs := #[.int .i64 t316, .int .i64 t317, .int .i64 t318, .int .i64 t319, .int .i64 0, .int .i64 0]) ?_ 4 _ rfl; (with_reducible repeat (first | refine blk_drewN ?_ _ | refine blk_drew ?_ | refine blk_alloc ?_ _)); refine blk_put (cs := #[.int .i64 t316, .int .i64 t317, .int .i64 t318, .int .i64 0, .int .i64 0, .int .i64 0]) ?_ 3 _ rfl; (with_reducible repeat (first | refine blk_drewN ?_ _ | refine blk_drew ?_ | refine blk_alloc ?_ _)); refine blk_put (cs := #[.int .i64 t316, .int .i64 t317, .int .i64 0, .int .i64 0, .int .i64 0, .int .i64 0]) ?_ 2 _ rfl; (with_reducible repeat (first | refine blk_drewN ?_ _ | refine blk_drew ?_ | refine blk_alloc ?_ _)); refine blk_put (cs := #[.int .i64 t316, .int .i64 0, .int .i64 0, .int .i64 0, .int .i64 0, .int .i64 0]) ?_ 1 _ rfl; (with_reducible repeat (first | refine blk_drewN ?_ _ | refine blk_drew ?_ | refine blk_alloc ?_ _)); refine blk_put (cs := #[.int .i64 0, .int .i64 0, .int .i64 0, .int .i64 0, .int .i64 0, .int .i64 0]) ?_ 0 _ rfl; (with_reducible repeat (first | refine blk_drewN ?_ _ | refine blk_drew ?_ | refine blk_alloc ?_ _)); exact BK323.out) hb); have n2_ := Aside0.mk (below_step (by repeat (first | (with_reducible first | exact HB.out | apply below_alloc | apply pw_below_drewN | apply below_drew1 | refine below_set ?_ GE313.out | refine below_set ?_ GE323.out) | exact HB.out)) hb); clear BK313; clear BK323; clear HB; have BK313 := n0_; have BK323 := n1_; have HB := n2_; clear n0_ n1_ n2_; (try clear hb); (try clear hb2); (try clear hk); (try clear hi); have hcz28_0 : w27.cell? ⟨gb313, 0, none⟩ = some (.int .i64 t307) := (blk_cell BK313.out 0).trans rfl; have hcz28_1 : w27.cell? ⟨gb313, 1, none⟩ = some (.int .i64 t308) := (blk_cell BK313.out 1).trans rfl; have hcz28_2 : w27.cell? ⟨gb313, 2, none⟩ = some (.int .i64 t309) := (blk_cell BK313.out 2).trans rfl; have hcz28_3 : w27.cell? ⟨gb313, 3, none⟩ = some (.int .i64 t310) := (blk_cell BK313.out 3).trans rfl; have hcz28_4 : w27.cell? ⟨gb313, 4, none⟩ = some (.int .i64 t311) := (blk_cell BK313.out 4).trans rfl; have hcz28_5 : w27.cell? ⟨gb313, 5, none⟩ = some (.int .i64 t312) := (blk_cell BK313.out 5).trans rfl; have hfz28_0 := blk_frozen BK313.out 0; have hfz28_1 := blk_frozen BK313.out 1; have hfz28_2 := blk_frozen BK313.out 2; have hfz28_3 := blk_frozen BK313.out 3; have hfz28_4 := blk_frozen BK313.out 4; have hfz28_5 := blk_frozen BK313.out 5) | (go_at_call 58; (with_reducible refine (spec_FormatConfig.calls k t307 t308 t309 t310 t311 t312 t325 _ A21.out).mono ?_); rintro e w29 ⟨rfl, hb⟩; have n0_ := Aside0.mk (blk_below (g := gb313) (o := .cells #[.int .i64 t307, .int .i64 t308, .int .i64 t309, .int .i64 t310, .int .i64 t311, .int .i64 t312] 47 (0, 0)) (by (with_reducible repeat (first | refine blk_drewN ?_ _ | refine blk_drew ?_ | refine blk_alloc ?_ _)); exact BK313.out) hb); have n1_ := Aside0.mk (blk_below (g := gb323) (o := .cells #[.int .i64 t316, .int .i64 t317, .int .i64 t318, .int .i64 t319, .int .i64 t320, .int .i64 t321] 47 (0, 0)) (by (with_reducible repeat (first | refine blk_drewN ?_ _ | refine blk_drew ?_ | refine blk_alloc ?_ _)); exact BK323.out) hb); have n2_ := Aside0.mk (below_step (by repeat (first | (with_reducible first | exact HB.out | apply below_alloc | apply pw_below_drewN | apply below_drew1 | refine below_set ?_ GE313.out | refine below_set ?_ GE323.out) | exact HB.out)) hb); clear BK313; clear BK323; clear HB; have BK313 := n0_; have BK323 := n1_; have HB := n2_; clear n0_ n1_ n2_; (try clear hb); (try clear hb2); (try clear hk); (try clear hi); have hcz30_0 : w29.cell? ⟨gb313, 0, none⟩ = some (.int .i64 t307) := (blk_cell BK313.out 0).trans rfl; have hcz30_1 : w29.cell? ⟨gb313, 1, none⟩ = some (.int .i64 t308) := (blk_cell BK313.out 1).trans rfl; have hcz30_2 : w29.cell? ⟨gb313, 2, none⟩ = some (.int .i64 t309) := (blk_cell BK313.out 2).trans rfl; have hcz30_3 : w29.cell? ⟨gb313, 3, none⟩ = some (.int .i64 t310) := (blk_cell BK313.out 3).trans rfl; have hcz30_4 : w29.cell? ⟨gb313, 4, none⟩ = some (.int .i64 t311) := (blk_cell BK313.out 4).trans rfl; have hcz30_5 : w29.cell? ⟨gb313, 5, none⟩ = some (.int .i64 t312) := (blk_cell BK313.out 5).trans rfl; have hfz30_0 := blk_frozen BK313.out 0; have hfz30_1 := blk_frozen BK313.out 1; have hfz30_2 := blk_frozen BK313.out 2; have hfz30_3 := blk_frozen BK313.out 3; have hfz30_4 := blk_frozen BK313.out 4; have hfz30_5 := blk_frozen BK313.out 5) | (go_at_call 59; (with_reducible refine (spec_IsConfig.calls t307 t308 t309 t310 t311 t312 t326 _ A23.out).mono ?_); rintro e w31 ⟨rfl, hb⟩; have n0_ := Aside0.mk (blk_below (g := gb313) (o := .cells #[.int .i64 t307, .int .i64 t308, .int .i64 t309, .int .i64 t310, .int .i64 t311, .int .i64 t312] 47 (0, 0)) (by (with_reducible repeat (first | refine blk_drewN ?_ _ | refine blk_drew ?_ | refine blk_alloc ?_ _)); exact BK313.out) hb); have n1_ := Aside0.mk (blk_below (g := gb323) (o := .cells #[.int .i64 t316, .int .i64 t317, .int .i64 t318, .int .i64 t319, .int .i64 t320, .int .i64 t321] 47 (0, 0)) (by (with_reducible repeat (first | refine blk_drewN ?_ _ | refine blk_drew ?_ | refine blk_alloc ?_ _)); exact BK323.out) hb); have n2_ := Aside0.mk (below_step (by repeat (first | (with_reducible first | exact HB.out | apply below_alloc | apply pw_below_drewN | apply below_drew1 | refine below_set ?_ GE313.out | refine below_set ?_ GE323.out) | exact HB.out)) hb); clear BK313; clear BK323; clear HB; have BK313 := n0_; have BK323 := n1_; have HB := n2_; clear n0_ n1_ n2_; (try clear hb); (try clear hb2); (try clear hk); (try clear hi)))
            go_meet
            case rel => exact ⟨_, (true), (by first | rfl | (simp; done) | (simp [*]; done) | (simp [*]; generalize ByteArray.toList _ = l_; cases l_ <;> rfl)), H', ⟨by first | omega | exact Nat.le_refl _⟩, ⟨by (with_reducible repeat (first | refine blk_drewN ?_ _ | refine blk_drew ?_ | refine blk_alloc ?_ _)); exact BK313.out⟩, ⟨by (with_reducible repeat (first | refine blk_drewN ?_ _ | refine blk_drew ?_ | refine blk_alloc ?_ _)); exact BK323.out⟩, ⟨by repeat (first | (with_reducible first | exact HB.out | apply below_alloc | apply pw_below_drewN | apply below_drew1 | refine below_set ?_ GE313.out | refine below_set ?_ GE323.out) | exact HB.out)⟩⟩
          · rw [if_neg c24] at H
            have c24b0 : (t322 != t326) = false := by simpa using c24
            (try (have c24b1 : decide (t322 = t326) = true := by simpa using c24))
            (try (have c24b2 : (t322 == t326) = true := by simpa using c24))
            clear c24
            by_cases c32 : t322 = true
            · subst c32
              have H1 : (laws_FnLayout.j0 k t314 true (!(t316 == t307) || (!(t317 == t308) || (!(t318 == t309) || (!(t319 == t310) || (!(t320 == t311) || (!(t321 == t312))))))) t307 t308 t309 t310 t311 t312) = some r := by rw [if_pos rfl] at H; exact H
              clear H
              have H := H1
              clear H1
              have H' := Aside0.mk H
              clear H
              have hnb33 := NB313_323.out
              have hnc33 := NB323_313.out
              have hcz34_0 : w16.cell? ⟨gb313, 0, none⟩ = some (.int .i64 t307) := (blk_cell BK313.out 0).trans rfl
              have hcz34_1 : w16.cell? ⟨gb313, 1, none⟩ = some (.int .i64 t308) := (blk_cell BK313.out 1).trans rfl
              have hcz34_2 : w16.cell? ⟨gb313, 2, none⟩ = some (.int .i64 t309) := (blk_cell BK313.out 2).trans rfl
              have hcz34_3 : w16.cell? ⟨gb313, 3, none⟩ = some (.int .i64 t310) := (blk_cell BK313.out 3).trans rfl
              have hcz34_4 : w16.cell? ⟨gb313, 4, none⟩ = some (.int .i64 t311) := (blk_cell BK313.out 4).trans rfl
              have hcz34_5 : w16.cell? ⟨gb313, 5, none⟩ = some (.int .i64 t312) := (blk_cell BK313.out 5).trans rfl
              have hfz34_0 := blk_frozen BK313.out 0
              have hfz34_1 := blk_frozen BK313.out 1
              have hfz34_2 := blk_frozen BK313.out 2
              have hfz34_3 := blk_frozen BK313.out 3
              have hfz34_4 := blk_frozen BK313.out 4
              have hfz34_5 := blk_frozen BK313.out 5
              go_wp2_with (first | ((with_reducible refine gate_callee (f := 57) rfl ?_); refine goesL_ (some 29) rfl rfl Tryd.func57 (by kernel_rfl) rfl #[.agg #[.int .i64 t307, .int .i64 t308, .int .i64 t309, .int .i64 t310, .int .i64 t311, .int .i64 t312]] rfl (by (try simp only [List.map_toArray, List.map_cons, List.map_nil]); first | done | rfl | (simp only [List.length_drop, List.length_take]; rfl)) ?_; (with_reducible refine (spec_CellCount.calls t307 t308 t309 t310 t311 t312 t324 _ A19.out).mono ?_); rintro e w35 ⟨rfl, hb⟩; refine ⟨_, rfl, ?_⟩; have n0_ := Aside0.mk (blk_below (g := gb313) (o := .cells #[.int .i64 t307, .int .i64 t308, .int .i64 t309, .int .i64 t310, .int .i64 t311, .int .i64 t312] 47 (0, 0)) (by (with_reducible repeat (first | refine blk_drewN ?_ _ | refine blk_drew ?_ | refine blk_alloc ?_ _)); refine blk_far ?_ NB313_323.out _; (with_reducible repeat (first | refine blk_drewN ?_ _ | refine blk_drew ?_ | refine blk_alloc ?_ _)); refine blk_far ?_ NB313_323.out _; (with_reducible repeat (first | refine blk_drewN ?_ _ | refine blk_drew ?_ | refine blk_alloc ?_ _)); refine blk_far ?_ NB313_323.out _; (with_reducible repeat (first | refine blk_drewN ?_ _ | refine blk_drew ?_ | refine blk_alloc ?_ _)); refine blk_far ?_ NB313_323.out _; (with_reducible repeat (first | refine blk_drewN ?_ _ | refine blk_drew ?_ | refine blk_alloc ?_ _)); refine blk_far ?_ NB313_323.out _; (with_reducible repeat (first | refine blk_drewN ?_ _ | refine blk_drew ?_ | refine blk_alloc ?_ _)); refine blk_far ?_ NB313_323.out _; (with_reducible repeat (first | refine blk_drewN ?_ _ | refine blk_drew ?_ | refine blk_alloc ?_ _)); exact BK313.out) hb); have n1_ := Aside0.mk (blk_below (g := gb323) (o := .cells #[.int .i64 t316, .int .i64 t317, .int .i64 t318, .int .i64 t319, .int .i64 t320, .int .i64 t321] 47 (0, 0)) (by (with_reducible repeat (first | refine blk_drewN ?_ _ | refine blk_drew ?_ | refine blk_alloc ?_ _)); refine blk_put (cs := #[.int .i64 t316, .int .i64 t317, .int .i64 t318, .int .i64 t319, .int .i64 t320, .int .i64 0]) ?_ 5 _ rfl; (with_reducible repeat (first | refine blk_drewN ?_ _ | refine blk_drew ?_ | refine blk_alloc ?_ _)); refine blk_put (cs := #[.int .i64 t316, .int .i64 t317, .int .i64 t318, .int .i64 t319, .int .i64 0, .int .i64 0]) ?_ 4 _ rfl; (with_reducible repeat (first | refine blk_drewN ?_ _ | refine blk_drew ?_ | refine blk_alloc ?_ _)); refine blk_put (cs := #[.int .i64 t316, .int .i64 t317, .int .i64 t318, .int .i64 0, .int .i64 0, .int .i64 0]) ?_ 3 _ rfl; (with_reducible repeat (first | refine blk_drewN ?_ _ | refine blk_drew ?_ | refine blk_alloc ?_ _)); refine blk_put (cs := #[.int .i64 t316, .int .i64 t317, .int .i64 0, .int .i64 0, .int .i64 0, .int .i64 0]) ?_ 2 _ rfl; (with_reducible repeat (first | refine blk_drewN ?_ _ | refine blk_drew ?_ | refine blk_alloc ?_ _)); refine blk_put (cs := #[.int .i64 t316, .int .i64 0, .int .i64 0, .int .i64 0, .int .i64 0, .int .i64 0]) ?_ 1 _ rfl; (with_reducible repeat (first | refine blk_drewN ?_ _ | refine blk_drew ?_ | refine blk_alloc ?_ _)); refine blk_put (cs := #[.int .i64 0, .int .i64 0, .int .i64 0, .int .i64 0, .int .i64 0, .int .i64 0]) ?_ 0 _ rfl; (with_reducible repeat (first | refine blk_drewN ?_ _ | refine blk_drew ?_ | refine blk_alloc ?_ _)); exact BK323.out) hb); have n2_ := Aside0.mk (below_step (by repeat (first | (with_reducible first | exact HB.out | apply below_alloc | apply pw_below_drewN | apply below_drew1 | refine below_set ?_ GE313.out | refine below_set ?_ GE323.out) | exact HB.out)) hb); clear BK313; clear BK323; clear HB; have BK313 := n0_; have BK323 := n1_; have HB := n2_; clear n0_ n1_ n2_; (try clear hb); (try clear hb2); (try clear hk); (try clear hi); have hcz36_0 : w35.cell? ⟨gb313, 0, none⟩ = some (.int .i64 t307) := (blk_cell BK313.out 0).trans rfl; have hcz36_1 : w35.cell? ⟨gb313, 1, none⟩ = some (.int .i64 t308) := (blk_cell BK313.out 1).trans rfl; have hcz36_2 : w35.cell? ⟨gb313, 2, none⟩ = some (.int .i64 t309) := (blk_cell BK313.out 2).trans rfl; have hcz36_3 : w35.cell? ⟨gb313, 3, none⟩ = some (.int .i64 t310) := (blk_cell BK313.out 3).trans rfl; have hcz36_4 : w35.cell? ⟨gb313, 4, none⟩ = some (.int .i64 t311) := (blk_cell BK313.out 4).trans rfl; have hcz36_5 : w35.cell? ⟨gb313, 5, none⟩ = some (.int .i64 t312) := (blk_cell BK313.out 5).trans rfl; have hfz36_0 := blk_frozen BK313.out 0; have hfz36_1 := blk_frozen BK313.out 1; have hfz36_2 := blk_frozen BK313.out 2; have hfz36_3 := blk_frozen BK313.out 3; have hfz36_4 := blk_frozen BK313.out 4; have hfz36_5 := blk_frozen BK313.out 5) | (go_at_call 58; (with_reducible refine (spec_FormatConfig.calls k t307 t308 t309 t310 t311 t312 t325 _ A21.out).mono ?_); rintro e w37 ⟨rfl, hb⟩; have n0_ := Aside0.mk (blk_below (g := gb313) (o := .cells #[.int .i64 t307, .int .i64 t308, .int .i64 t309, .int .i64 t310, .int .i64 t311, .int .i64 t312] 47 (0, 0)) (by (with_reducible repeat (first | refine blk_drewN ?_ _ | refine blk_drew ?_ | refine blk_alloc ?_ _)); exact BK313.out) hb); have n1_ := Aside0.mk (blk_below (g := gb323) (o := .cells #[.int .i64 t316, .int .i64 t317, .int .i64 t318, .int .i64 t319, .int .i64 t320, .int .i64 t321] 47 (0, 0)) (by (with_reducible repeat (first | refine blk_drewN ?_ _ | refine blk_drew ?_ | refine blk_alloc ?_ _)); exact BK323.out) hb); have n2_ := Aside0.mk (below_step (by repeat (first | (with_reducible first | exact HB.out | apply below_alloc | apply pw_below_drewN | apply below_drew1 | refine below_set ?_ GE313.out | refine below_set ?_ GE323.out) | exact HB.out)) hb); clear BK313; clear BK323; clear HB; have BK313 := n0_; have BK323 := n1_; have HB := n2_; clear n0_ n1_ n2_; (try clear hb); (try clear hb2); (try clear hk); (try clear hi); have hcz38_0 : w37.cell? ⟨gb313, 0, none⟩ = some (.int .i64 t307) := (blk_cell BK313.out 0).trans rfl; have hcz38_1 : w37.cell? ⟨gb313, 1, none⟩ = some (.int .i64 t308) := (blk_cell BK313.out 1).trans rfl; have hcz38_2 : w37.cell? ⟨gb313, 2, none⟩ = some (.int .i64 t309) := (blk_cell BK313.out 2).trans rfl; have hcz38_3 : w37.cell? ⟨gb313, 3, none⟩ = some (.int .i64 t310) := (blk_cell BK313.out 3).trans rfl; have hcz38_4 : w37.cell? ⟨gb313, 4, none⟩ = some (.int .i64 t311) := (blk_cell BK313.out 4).trans rfl; have hcz38_5 : w37.cell? ⟨gb313, 5, none⟩ = some (.int .i64 t312) := (blk_cell BK313.out 5).trans rfl; have hfz38_0 := blk_frozen BK313.out 0; have hfz38_1 := blk_frozen BK313.out 1; have hfz38_2 := blk_frozen BK313.out 2; have hfz38_3 := blk_frozen BK313.out 3; have hfz38_4 := blk_frozen BK313.out 4; have hfz38_5 := blk_frozen BK313.out 5) | (go_at_call 59; (with_reducible refine (spec_IsConfig.calls t307 t308 t309 t310 t311 t312 t326 _ A23.out).mono ?_); rintro e w39 ⟨rfl, hb⟩; have n0_ := Aside0.mk (blk_below (g := gb313) (o := .cells #[.int .i64 t307, .int .i64 t308, .int .i64 t309, .int .i64 t310, .int .i64 t311, .int .i64 t312] 47 (0, 0)) (by (with_reducible repeat (first | refine blk_drewN ?_ _ | refine blk_drew ?_ | refine blk_alloc ?_ _)); exact BK313.out) hb); have n1_ := Aside0.mk (blk_below (g := gb323) (o := .cells #[.int .i64 t316, .int .i64 t317, .int .i64 t318, .int .i64 t319, .int .i64 t320, .int .i64 t321] 47 (0, 0)) (by (with_reducible repeat (first | refine blk_drewN ?_ _ | refine blk_drew ?_ | refine blk_alloc ?_ _)); exact BK323.out) hb); have n2_ := Aside0.mk (below_step (by repeat (first | (with_reducible first | exact HB.out | apply below_alloc | apply pw_below_drewN | apply below_drew1 | refine below_set ?_ GE313.out | refine below_set ?_ GE323.out) | exact HB.out)) hb); clear BK313; clear BK323; clear HB; have BK313 := n0_; have BK323 := n1_; have HB := n2_; clear n0_ n1_ n2_; (try clear hb); (try clear hb2); (try clear hk); (try clear hi); have hcz40_0 : w39.cell? ⟨gb323, 0, none⟩ = some (.int .i64 t316) := (blk_cell BK323.out 0).trans rfl; have hcz40_1 : w39.cell? ⟨gb323, 1, none⟩ = some (.int .i64 t317) := (blk_cell BK323.out 1).trans rfl; have hcz40_2 : w39.cell? ⟨gb323, 2, none⟩ = some (.int .i64 t318) := (blk_cell BK323.out 2).trans rfl; have hcz40_3 : w39.cell? ⟨gb323, 3, none⟩ = some (.int .i64 t319) := (blk_cell BK323.out 3).trans rfl; have hcz40_4 : w39.cell? ⟨gb323, 4, none⟩ = some (.int .i64 t320) := (blk_cell BK323.out 4).trans rfl; have hcz40_5 : w39.cell? ⟨gb323, 5, none⟩ = some (.int .i64 t321) := (blk_cell BK323.out 5).trans rfl; have hfz40_0 := blk_frozen BK323.out 0; have hfz40_1 := blk_frozen BK323.out 1; have hfz40_2 := blk_frozen BK323.out 2; have hfz40_3 := blk_frozen BK323.out 3; have hfz40_4 := blk_frozen BK323.out 4; have hfz40_5 := blk_frozen BK323.out 5; have hcz41_0 : w39.cell? ⟨gb313, 0, none⟩ = some (.int .i64 t307) := (blk_cell BK313.out 0).trans rfl; have hcz41_1 : w39.cell? ⟨gb313, 1, none⟩ = some (.int .i64 t308) := (blk_cell BK313.out 1).trans rfl; have hcz41_2 : w39.cell? ⟨gb313, 2, none⟩ = some (.int .i64 t309) := (blk_cell BK313.out 2).trans rfl; have hcz41_3 : w39.cell? ⟨gb313, 3, none⟩ = some (.int .i64 t310) := (blk_cell BK313.out 3).trans rfl; have hcz41_4 : w39.cell? ⟨gb313, 4, none⟩ = some (.int .i64 t311) := (blk_cell BK313.out 4).trans rfl; have hcz41_5 : w39.cell? ⟨gb313, 5, none⟩ = some (.int .i64 t312) := (blk_cell BK313.out 5).trans rfl; have hfz41_0 := blk_frozen BK313.out 0; have hfz41_1 := blk_frozen BK313.out 1; have hfz41_2 := blk_frozen BK313.out 2; have hfz41_3 := blk_frozen BK313.out 3; have hfz41_4 := blk_frozen BK313.out 4; have hfz41_5 := blk_frozen BK313.out 5))
              go_meet
              case rel => exact ⟨_, ((!(t316 == t307) || (!(t317 == t308) || (!(t318 == t309) || (!(t319 == t310) || (!(t320 == t311) || (!(t321 == t312)))))))), (by first | rfl | (simp; done) | (simp [*]; done) | (simp [*]; generalize ByteArray.toList _ = l_; cases l_ <;> rfl)), H', ⟨by first | omega | exact Nat.le_refl _⟩, ⟨by (with_reducible repeat (first | refine blk_drewN ?_ _ | refine blk_drew ?_ | refine blk_alloc ?_ _)); exact BK313.out⟩, ⟨by (with_reducible repeat (first | refine blk_drewN ?_ _ | refine blk_drew ?_ | refine blk_alloc ?_ _)); exact BK323.out⟩, ⟨by repeat (first | (with_reducible first | exact HB.out | apply below_alloc | apply pw_below_drewN | apply below_drew1 | refine below_set ?_ GE313.out | refine below_set ?_ GE323.out) | exact HB.out)⟩⟩
            · replace c32 := Bool.eq_false_iff.mpr c32
              subst c32
              have H1 : (laws_FnLayout.j0 k t314 false false t307 t308 t309 t310 t311 t312) = some r := by rw [if_neg (show ¬ (false = true) by decide)] at H; exact H
              clear H
              have H := H1
              clear H1
              have H' := Aside0.mk H
              clear H
              have hnb42 := NB313_323.out
              have hnc42 := NB323_313.out
              have hcz43_0 : w16.cell? ⟨gb313, 0, none⟩ = some (.int .i64 t307) := (blk_cell BK313.out 0).trans rfl
              have hcz43_1 : w16.cell? ⟨gb313, 1, none⟩ = some (.int .i64 t308) := (blk_cell BK313.out 1).trans rfl
              have hcz43_2 : w16.cell? ⟨gb313, 2, none⟩ = some (.int .i64 t309) := (blk_cell BK313.out 2).trans rfl
              have hcz43_3 : w16.cell? ⟨gb313, 3, none⟩ = some (.int .i64 t310) := (blk_cell BK313.out 3).trans rfl
              have hcz43_4 : w16.cell? ⟨gb313, 4, none⟩ = some (.int .i64 t311) := (blk_cell BK313.out 4).trans rfl
              have hcz43_5 : w16.cell? ⟨gb313, 5, none⟩ = some (.int .i64 t312) := (blk_cell BK313.out 5).trans rfl
              have hfz43_0 := blk_frozen BK313.out 0
              have hfz43_1 := blk_frozen BK313.out 1
              have hfz43_2 := blk_frozen BK313.out 2
              have hfz43_3 := blk_frozen BK313.out 3
              have hfz43_4 := blk_frozen BK313.out 4
              have hfz43_5 := blk_frozen BK313.out 5
              go_wp2_with (first | ((with_reducible refine gate_callee (f := 57) rfl ?_); refine goesL_ (some 29) rfl rfl Tryd.func57 (by kernel_rfl) rfl #[.agg #[.int .i64 t307, .int .i64 t308, .int .i64 t309, .int .i64 t310, .int .i64 t311, .int .i64 t312]] rfl (by (try simp only [List.map_toArray, List.map_cons, List.map_nil]); first | done | rfl | (simp only [List.length_drop, List.length_take]; rfl)) ?_; (with_reducible refine (spec_CellCount.calls t307 t308 t309 t310 t311 t312 t324 _ A19.out).mono ?_); rintro e w44 ⟨rfl, hb⟩; refine ⟨_, rfl, ?_⟩; have n0_ := Aside0.mk (blk_below (g := gb313) (o := .cells #[.int .i64 t307, .int .i64 t308, .int .i64 t309, .int .i64 t310, .int .i64 t311, .int .i64 t312] 47 (0, 0)) (by (with_reducible repeat (first | refine blk_drewN ?_ _ | refine blk_drew ?_ | refine blk_alloc ?_ _)); refine blk_far ?_ NB313_323.out _; (with_reducible repeat (first | refine blk_drewN ?_ _ | refine blk_drew ?_ | refine blk_alloc ?_ _)); refine blk_far ?_ NB313_323.out _; (with_reducible repeat (first | refine blk_drewN ?_ _ | refine blk_drew ?_ | refine blk_alloc ?_ _)); refine blk_far ?_ NB313_323.out _; (with_reducible repeat (first | refine blk_drewN ?_ _ | refine blk_drew ?_ | refine blk_alloc ?_ _)); refine blk_far ?_ NB313_323.out _; (with_reducible repeat (first | refine blk_drewN ?_ _ | refine blk_drew ?_ | refine blk_alloc ?_ _)); refine blk_far ?_ NB313_323.out _; (with_reducible repeat (first | refine blk_drewN ?_ _ | refine blk_drew ?_ | refine blk_alloc ?_ _)); refine blk_far ?_ NB313_323.out _; (with_reducible repeat (first | refine blk_drewN ?_ _ | refine blk_drew ?_ | refine blk_alloc ?_ _)); exact BK313.out) hb); have n1_ := Aside0.mk (blk_below (g := gb323) (o := .cells #[.int .i64 t316, .int .i64 t317, .int .i64 t318, .int .i64 t319, .int .i64 t320, .int .i64 t321] 47 (0, 0)) (by (with_reducible repeat (first | refine blk_drewN ?_ _ | refine blk_drew ?_ | refine blk_alloc ?_ _)); refine blk_put (cs := #[.int .i64 t316, .int .i64 t317, .int .i64 t318, .int .i64 t319, .int .i64 t320, .int .i64 0]) ?_ 5 _ rfl; (with_reducible repeat (first | refine blk_drewN ?_ _ | refine blk_drew ?_ | refine blk_alloc ?_ _)); refine blk_put (cs := #[.int .i64 t316, .int .i64 t317, .int .i64 t318, .int .i64 t319, .int .i64 0, .int .i64 0]) ?_ 4 _ rfl; (with_reducible repeat (first | refine blk_drewN ?_ _ | refine blk_drew ?_ | refine blk_alloc ?_ _)); refine blk_put (cs := #[.int .i64 t316, .int .i64 t317, .int .i64 t318, .int .i64 0, .int .i64 0, .int .i64 0]) ?_ 3 _ rfl; (with_reducible repeat (first | refine blk_drewN ?_ _ | refine blk_drew ?_ | refine blk_alloc ?_ _)); refine blk_put (cs := #[.int .i64 t316, .int .i64 t317, .int .i64 0, .int .i64 0, .int .i64 0, .int .i64 0]) ?_ 2 _ rfl; (with_reducible repeat (first | refine blk_drewN ?_ _ | refine blk_drew ?_ | refine blk_alloc ?_ _)); refine blk_put (cs := #[.int .i64 t316, .int .i64 0, .int .i64 0, .int .i64 0, .int .i64 0, .int .i64 0]) ?_ 1 _ rfl; (with_reducible repeat (first | refine blk_drewN ?_ _ | refine blk_drew ?_ | refine blk_alloc ?_ _)); refine blk_put (cs := #[.int .i64 0, .int .i64 0, .int .i64 0, .int .i64 0, .int .i64 0, .int .i64 0]) ?_ 0 _ rfl; (with_reducible repeat (first | refine blk_drewN ?_ _ | refine blk_drew ?_ | refine blk_alloc ?_ _)); exact BK323.out) hb); have n2_ := Aside0.mk (below_step (by repeat (first | (with_reducible first | exact HB.out | apply below_alloc | apply pw_below_drewN | apply below_drew1 | refine below_set ?_ GE313.out | refine below_set ?_ GE323.out) | exact HB.out)) hb); clear BK313; clear BK323; clear HB; have BK313 := n0_; have BK323 := n1_; have HB := n2_; clear n0_ n1_ n2_; (try clear hb); (try clear hb2); (try clear hk); (try clear hi); have hcz45_0 : w44.cell? ⟨gb313, 0, none⟩ = some (.int .i64 t307) := (blk_cell BK313.out 0).trans rfl; have hcz45_1 : w44.cell? ⟨gb313, 1, none⟩ = some (.int .i64 t308) := (blk_cell BK313.out 1).trans rfl; have hcz45_2 : w44.cell? ⟨gb313, 2, none⟩ = some (.int .i64 t309) := (blk_cell BK313.out 2).trans rfl; have hcz45_3 : w44.cell? ⟨gb313, 3, none⟩ = some (.int .i64 t310) := (blk_cell BK313.out 3).trans rfl; have hcz45_4 : w44.cell? ⟨gb313, 4, none⟩ = some (.int .i64 t311) := (blk_cell BK313.out 4).trans rfl; have hcz45_5 : w44.cell? ⟨gb313, 5, none⟩ = some (.int .i64 t312) := (blk_cell BK313.out 5).trans rfl; have hfz45_0 := blk_frozen BK313.out 0; have hfz45_1 := blk_frozen BK313.out 1; have hfz45_2 := blk_frozen BK313.out 2; have hfz45_3 := blk_frozen BK313.out 3; have hfz45_4 := blk_frozen BK313.out 4; have hfz45_5 := blk_frozen BK313.out 5) | (go_at_call 58; (with_reducible refine (spec_FormatConfig.calls k t307 t308 t309 t310 t311 t312 t325 _ A21.out).mono ?_); rintro e w46 ⟨rfl, hb⟩; have n0_ := Aside0.mk (blk_below (g := gb313) (o := .cells #[.int .i64 t307, .int .i64 t308, .int .i64 t309, .int .i64 t310, .int .i64 t311, .int .i64 t312] 47 (0, 0)) (by (with_reducible repeat (first | refine blk_drewN ?_ _ | refine blk_drew ?_ | refine blk_alloc ?_ _)); exact BK313.out) hb); have n1_ := Aside0.mk (blk_below (g := gb323) (o := .cells #[.int .i64 t316, .int .i64 t317, .int .i64 t318, .int .i64 t319, .int .i64 t320, .int .i64 t321] 47 (0, 0)) (by (with_reducible repeat (first | refine blk_drewN ?_ _ | refine blk_drew ?_ | refine blk_alloc ?_ _)); exact BK323.out) hb); have n2_ := Aside0.mk (below_step (by repeat (first | (with_reducible first | exact HB.out | apply below_alloc | apply pw_below_drewN | apply below_drew1 | refine below_set ?_ GE313.out | refine below_set ?_ GE323.out) | exact HB.out)) hb); clear BK313; clear BK323; clear HB; have BK313 := n0_; have BK323 := n1_; have HB := n2_; clear n0_ n1_ n2_; (try clear hb); (try clear hb2); (try clear hk); (try clear hi); have hcz47_0 : w46.cell? ⟨gb313, 0, none⟩ = some (.int .i64 t307) := (blk_cell BK313.out 0).trans rfl; have hcz47_1 : w46.cell? ⟨gb313, 1, none⟩ = some (.int .i64 t308) := (blk_cell BK313.out 1).trans rfl; have hcz47_2 : w46.cell? ⟨gb313, 2, none⟩ = some (.int .i64 t309) := (blk_cell BK313.out 2).trans rfl; have hcz47_3 : w46.cell? ⟨gb313, 3, none⟩ = some (.int .i64 t310) := (blk_cell BK313.out 3).trans rfl; have hcz47_4 : w46.cell? ⟨gb313, 4, none⟩ = some (.int .i64 t311) := (blk_cell BK313.out 4).trans rfl; have hcz47_5 : w46.cell? ⟨gb313, 5, none⟩ = some (.int .i64 t312) := (blk_cell BK313.out 5).trans rfl; have hfz47_0 := blk_frozen BK313.out 0; have hfz47_1 := blk_frozen BK313.out 1; have hfz47_2 := blk_frozen BK313.out 2; have hfz47_3 := blk_frozen BK313.out 3; have hfz47_4 := blk_frozen BK313.out 4; have hfz47_5 := blk_frozen BK313.out 5) | (go_at_call 59; (with_reducible refine (spec_IsConfig.calls t307 t308 t309 t310 t311 t312 t326 _ A23.out).mono ?_); rintro e w48 ⟨rfl, hb⟩; have n0_ := Aside0.mk (blk_below (g := gb313) (o := .cells #[.int .i64 t307, .int .i64 t308, .int .i64 t309, .int .i64 t310, .int .i64 t311, .int .i64 t312] 47 (0, 0)) (by (with_reducible repeat (first | refine blk_drewN ?_ _ | refine blk_drew ?_ | refine blk_alloc ?_ _)); exact BK313.out) hb); have n1_ := Aside0.mk (blk_below (g := gb323) (o := .cells #[.int .i64 t316, .int .i64 t317, .int .i64 t318, .int .i64 t319, .int .i64 t320, .int .i64 t321] 47 (0, 0)) (by (with_reducible repeat (first | refine blk_drewN ?_ _ | refine blk_drew ?_ | refine blk_alloc ?_ _)); exact BK323.out) hb); have n2_ := Aside0.mk (below_step (by repeat (first | (with_reducible first | exact HB.out | apply below_alloc | apply pw_below_drewN | apply below_drew1 | refine below_set ?_ GE313.out | refine below_set ?_ GE323.out) | exact HB.out)) hb); clear BK313; clear BK323; clear HB; have BK313 := n0_; have BK323 := n1_; have HB := n2_; clear n0_ n1_ n2_; (try clear hb); (try clear hb2); (try clear hk); (try clear hi)))
              go_meet
              case rel => exact ⟨_, (false), (by first | rfl | (simp; done) | (simp [*]; done) | (simp [*]; generalize ByteArray.toList _ = l_; cases l_ <;> rfl)), H', ⟨by first | omega | exact Nat.le_refl _⟩, ⟨by (with_reducible repeat (first | refine blk_drewN ?_ _ | refine blk_drew ?_ | refine blk_alloc ?_ _)); exact BK313.out⟩, ⟨by (with_reducible repeat (first | refine blk_drewN ?_ _ | refine blk_drew ?_ | refine blk_alloc ?_ _)); exact BK323.out⟩, ⟨by repeat (first | (with_reducible first | exact HB.out | apply below_alloc | apply pw_below_drewN | apply below_drew1 | refine below_set ?_ GE313.out | refine below_set ?_ GE323.out) | exact HB.out)⟩⟩
        · rw [if_neg c22] at H
          have c22b0 : (t315.toList == t325.toList) = false := beq_eq_false_iff_ne.mpr c22
          have c22b1 : (t315.toList != t325.toList) = true := bne_iff_ne.mpr c22
          have H' := Aside0.mk H
          clear H
          have hnb49 := NB313_323.out
          have hnc49 := NB323_313.out
          have hcz50_0 : w16.cell? ⟨gb313, 0, none⟩ = some (.int .i64 t307) := (blk_cell BK313.out 0).trans rfl
          have hcz50_1 : w16.cell? ⟨gb313, 1, none⟩ = some (.int .i64 t308) := (blk_cell BK313.out 1).trans rfl
          have hcz50_2 : w16.cell? ⟨gb313, 2, none⟩ = some (.int .i64 t309) := (blk_cell BK313.out 2).trans rfl
          have hcz50_3 : w16.cell? ⟨gb313, 3, none⟩ = some (.int .i64 t310) := (blk_cell BK313.out 3).trans rfl
          have hcz50_4 : w16.cell? ⟨gb313, 4, none⟩ = some (.int .i64 t311) := (blk_cell BK313.out 4).trans rfl
          have hcz50_5 : w16.cell? ⟨gb313, 5, none⟩ = some (.int .i64 t312) := (blk_cell BK313.out 5).trans rfl
          have hfz50_0 := blk_frozen BK313.out 0
          have hfz50_1 := blk_frozen BK313.out 1
          have hfz50_2 := blk_frozen BK313.out 2
          have hfz50_3 := blk_frozen BK313.out 3
          have hfz50_4 := blk_frozen BK313.out 4
          have hfz50_5 := blk_frozen BK313.out 5
          go_wp2_with (first | ((with_reducible refine gate_callee (f := 57) rfl ?_); refine goesL_ (some 29) rfl rfl Tryd.func57 (by kernel_rfl) rfl #[.agg #[.int .i64 t307, .int .i64 t308, .int .i64 t309, .int .i64 t310, .int .i64 t311, .int .i64 t312]] rfl (by (try simp only [List.map_toArray, List.map_cons, List.map_nil]); first | done | rfl | (simp only [List.length_drop, List.length_take]; rfl)) ?_; (with_reducible refine (spec_CellCount.calls t307 t308 t309 t310 t311 t312 t324 _ A19.out).mono ?_); rintro e w51 ⟨rfl, hb⟩; refine ⟨_, rfl, ?_⟩; have n0_ := Aside0.mk (blk_below (g := gb313) (o := .cells #[.int .i64 t307, .int .i64 t308, .int .i64 t309, .int .i64 t310, .int .i64 t311, .int .i64 t312] 47 (0, 0)) (by (with_reducible repeat (first | refine blk_drewN ?_ _ | refine blk_drew ?_ | refine blk_alloc ?_ _)); refine blk_far ?_ NB313_323.out _; (with_reducible repeat (first | refine blk_drewN ?_ _ | refine blk_drew ?_ | refine blk_alloc ?_ _)); refine blk_far ?_ NB313_323.out _; (with_reducible repeat (first | refine blk_drewN ?_ _ | refine blk_drew ?_ | refine blk_alloc ?_ _)); refine blk_far ?_ NB313_323.out _; (with_reducible repeat (first | refine blk_drewN ?_ _ | refine blk_drew ?_ | refine blk_alloc ?_ _)); refine blk_far ?_ NB313_323.out _; (with_reducible repeat (first | refine blk_drewN ?_ _ | refine blk_drew ?_ | refine blk_alloc ?_ _)); refine blk_far ?_ NB313_323.out _; (with_reducible repeat (first | refine blk_drewN ?_ _ | refine blk_drew ?_ | refine blk_alloc ?_ _)); refine blk_far ?_ NB313_323.out _; (with_reducible repeat (first | refine blk_drewN ?_ _ | refine blk_drew ?_ | refine blk_alloc ?_ _)); exact BK313.out) hb); have n1_ := Aside0.mk (blk_below (g := gb323) (o := .cells #[.int .i64 t316, .int .i64 t317, .int .i64 t318, .int .i64 t319, .int .i64 t320, .int .i64 t321] 47 (0, 0)) (by (with_reducible repeat (first | refine blk_drewN ?_ _ | refine blk_drew ?_ | refine blk_alloc ?_ _)); refine blk_put (cs := #[.int .i64 t316, .int .i64 t317, .int .i64 t318, .int .i64 t319, .int .i64 t320, .int .i64 0]) ?_ 5 _ rfl; (with_reducible repeat (first | refine blk_drewN ?_ _ | refine blk_drew ?_ | refine blk_alloc ?_ _)); refine blk_put (cs := #[.int .i64 t316, .int .i64 t317, .int .i64 t318, .int .i64 t319, .int .i64 0, .int .i64 0]) ?_ 4 _ rfl; (with_reducible repeat (first | refine blk_drewN ?_ _ | refine blk_drew ?_ | refine blk_alloc ?_ _)); refine blk_put (cs := #[.int .i64 t316, .int .i64 t317, .int .i64 t318, .int .i64 0, .int .i64 0, .int .i64 0]) ?_ 3 _ rfl; (with_reducible repeat (first | refine blk_drewN ?_ _ | refine blk_drew ?_ | refine blk_alloc ?_ _)); refine blk_put (cs := #[.int .i64 t316, .int .i64 t317, .int .i64 0, .int .i64 0, .int .i64 0, .int .i64 0]) ?_ 2 _ rfl; (with_reducible repeat (first | refine blk_drewN ?_ _ | refine blk_drew ?_ | refine blk_alloc ?_ _)); refine blk_put (cs := #[.int .i64 t316, .int .i64 0, .int .i64 0, .int .i64 0, .int .i64 0, .int .i64 0]) ?_ 1 _ rfl; (with_reducible repeat (first | refine blk_drewN ?_ _ | refine blk_drew ?_ | refine blk_alloc ?_ _)); refine blk_put (cs := #[.int .i64 0, .int .i64 0, .int .i64 0, .int .i64 0, .int .i64 0, .int .i64 0]) ?_ 0 _ rfl; (with_reducible repeat (first | refine blk_drewN ?_ _ | refine blk_drew ?_ | refine blk_alloc ?_ _)); exact BK323.out) hb); have n2_ := Aside0.mk (below_step (by repeat (first | (with_reducible first | exact HB.out | apply below_alloc | apply pw_below_drewN | apply below_drew1 | refine below_set ?_ GE313.out | refine below_set ?_ GE323.out) | exact HB.out)) hb); clear BK313; clear BK323; clear HB; have BK313 := n0_; have BK323 := n1_; have HB := n2_; clear n0_ n1_ n2_; (try clear hb); (try clear hb2); (try clear hk); (try clear hi); have hcz52_0 : w51.cell? ⟨gb313, 0, none⟩ = some (.int .i64 t307) := (blk_cell BK313.out 0).trans rfl; have hcz52_1 : w51.cell? ⟨gb313, 1, none⟩ = some (.int .i64 t308) := (blk_cell BK313.out 1).trans rfl; have hcz52_2 : w51.cell? ⟨gb313, 2, none⟩ = some (.int .i64 t309) := (blk_cell BK313.out 2).trans rfl; have hcz52_3 : w51.cell? ⟨gb313, 3, none⟩ = some (.int .i64 t310) := (blk_cell BK313.out 3).trans rfl; have hcz52_4 : w51.cell? ⟨gb313, 4, none⟩ = some (.int .i64 t311) := (blk_cell BK313.out 4).trans rfl; have hcz52_5 : w51.cell? ⟨gb313, 5, none⟩ = some (.int .i64 t312) := (blk_cell BK313.out 5).trans rfl; have hfz52_0 := blk_frozen BK313.out 0; have hfz52_1 := blk_frozen BK313.out 1; have hfz52_2 := blk_frozen BK313.out 2; have hfz52_3 := blk_frozen BK313.out 3; have hfz52_4 := blk_frozen BK313.out 4; have hfz52_5 := blk_frozen BK313.out 5) | (go_at_call 58; (with_reducible refine (spec_FormatConfig.calls k t307 t308 t309 t310 t311 t312 t325 _ A21.out).mono ?_); rintro e w53 ⟨rfl, hb⟩; have n0_ := Aside0.mk (blk_below (g := gb313) (o := .cells #[.int .i64 t307, .int .i64 t308, .int .i64 t309, .int .i64 t310, .int .i64 t311, .int .i64 t312] 47 (0, 0)) (by (with_reducible repeat (first | refine blk_drewN ?_ _ | refine blk_drew ?_ | refine blk_alloc ?_ _)); exact BK313.out) hb); have n1_ := Aside0.mk (blk_below (g := gb323) (o := .cells #[.int .i64 t316, .int .i64 t317, .int .i64 t318, .int .i64 t319, .int .i64 t320, .int .i64 t321] 47 (0, 0)) (by (with_reducible repeat (first | refine blk_drewN ?_ _ | refine blk_drew ?_ | refine blk_alloc ?_ _)); exact BK323.out) hb); have n2_ := Aside0.mk (below_step (by repeat (first | (with_reducible first | exact HB.out | apply below_alloc | apply pw_below_drewN | apply below_drew1 | refine below_set ?_ GE313.out | refine below_set ?_ GE323.out) | exact HB.out)) hb); clear BK313; clear BK323; clear HB; have BK313 := n0_; have BK323 := n1_; have HB := n2_; clear n0_ n1_ n2_; (try clear hb); (try clear hb2); (try clear hk); (try clear hi)))
          go_meet
          case rel => exact ⟨_, (true), (by first | rfl | (simp; done) | (simp [*]; done) | (simp [*]; generalize ByteArray.toList _ = l_; cases l_ <;> rfl)), H', ⟨by first | omega | exact Nat.le_refl _⟩, ⟨by (with_reducible repeat (first | refine blk_drewN ?_ _ | refine blk_drew ?_ | refine blk_alloc ?_ _)); exact BK313.out⟩, ⟨by (with_reducible repeat (first | refine blk_drewN ?_ _ | refine blk_drew ?_ | refine blk_alloc ?_ _)); exact BK323.out⟩, ⟨by repeat (first | (with_reducible first | exact HB.out | apply below_alloc | apply pw_below_drewN | apply below_drew1 | refine below_set ?_ GE313.out | refine below_set ?_ GE323.out) | exact HB.out)⟩⟩
      · rw [if_neg c20] at H
        have c20b0 : (t314 == t324) = false := beq_eq_false_iff_ne.mpr c20
        have c20b1 : (t314 != t324) = true := bne_iff_ne.mpr c20
        (first | rw [c20b0] | (simp only [i64_w, i32_w]; rw [c20b0]) | skip)
        have H' := Aside0.mk H
        clear H
        have hnb54 := NB313_323.out
        have hnc54 := NB323_313.out
        have hcz55_0 : w16.cell? ⟨gb313, 0, none⟩ = some (.int .i64 t307) := (blk_cell BK313.out 0).trans rfl
        have hcz55_1 : w16.cell? ⟨gb313, 1, none⟩ = some (.int .i64 t308) := (blk_cell BK313.out 1).trans rfl
        have hcz55_2 : w16.cell? ⟨gb313, 2, none⟩ = some (.int .i64 t309) := (blk_cell BK313.out 2).trans rfl
        have hcz55_3 : w16.cell? ⟨gb313, 3, none⟩ = some (.int .i64 t310) := (blk_cell BK313.out 3).trans rfl
        have hcz55_4 : w16.cell? ⟨gb313, 4, none⟩ = some (.int .i64 t311) := (blk_cell BK313.out 4).trans rfl
        have hcz55_5 : w16.cell? ⟨gb313, 5, none⟩ = some (.int .i64 t312) := (blk_cell BK313.out 5).trans rfl
        have hfz55_0 := blk_frozen BK313.out 0
        have hfz55_1 := blk_frozen BK313.out 1
        have hfz55_2 := blk_frozen BK313.out 2
        have hfz55_3 := blk_frozen BK313.out 3
        have hfz55_4 := blk_frozen BK313.out 4
        have hfz55_5 := blk_frozen BK313.out 5
        go_wp2_with (first | ((with_reducible refine gate_callee (f := 57) rfl ?_); refine goesL_ (some 29) rfl rfl Tryd.func57 (by kernel_rfl) rfl #[.agg #[.int .i64 t307, .int .i64 t308, .int .i64 t309, .int .i64 t310, .int .i64 t311, .int .i64 t312]] rfl (by (try simp only [List.map_toArray, List.map_cons, List.map_nil]); first | done | rfl | (simp only [List.length_drop, List.length_take]; rfl)) ?_; (with_reducible refine (spec_CellCount.calls t307 t308 t309 t310 t311 t312 t324 _ A19.out).mono ?_); rintro e w56 ⟨rfl, hb⟩; refine ⟨_, rfl, ?_⟩; have n0_ := Aside0.mk (blk_below (g := gb313) (o := .cells #[.int .i64 t307, .int .i64 t308, .int .i64 t309, .int .i64 t310, .int .i64 t311, .int .i64 t312] 47 (0, 0)) (by (with_reducible repeat (first | refine blk_drewN ?_ _ | refine blk_drew ?_ | refine blk_alloc ?_ _)); refine blk_far ?_ NB313_323.out _; (with_reducible repeat (first | refine blk_drewN ?_ _ | refine blk_drew ?_ | refine blk_alloc ?_ _)); refine blk_far ?_ NB313_323.out _; (with_reducible repeat (first | refine blk_drewN ?_ _ | refine blk_drew ?_ | refine blk_alloc ?_ _)); refine blk_far ?_ NB313_323.out _; (with_reducible repeat (first | refine blk_drewN ?_ _ | refine blk_drew ?_ | refine blk_alloc ?_ _)); refine blk_far ?_ NB313_323.out _; (with_reducible repeat (first | refine blk_drewN ?_ _ | refine blk_drew ?_ | refine blk_alloc ?_ _)); refine blk_far ?_ NB313_323.out _; (with_reducible repeat (first | refine blk_drewN ?_ _ | refine blk_drew ?_ | refine blk_alloc ?_ _)); refine blk_far ?_ NB313_323.out _; (with_reducible repeat (first | refine blk_drewN ?_ _ | refine blk_drew ?_ | refine blk_alloc ?_ _)); exact BK313.out) hb); have n1_ := Aside0.mk (blk_below (g := gb323) (o := .cells #[.int .i64 t316, .int .i64 t317, .int .i64 t318, .int .i64 t319, .int .i64 t320, .int .i64 t321] 47 (0, 0)) (by (with_reducible repeat (first | refine blk_drewN ?_ _ | refine blk_drew ?_ | refine blk_alloc ?_ _)); refine blk_put (cs := #[.int .i64 t316, .int .i64 t317, .int .i64 t318, .int .i64 t319, .int .i64 t320, .int .i64 0]) ?_ 5 _ rfl; (with_reducible repeat (first | refine blk_drewN ?_ _ | refine blk_drew ?_ | refine blk_alloc ?_ _)); refine blk_put (cs := #[.int .i64 t316, .int .i64 t317, .int .i64 t318, .int .i64 t319, .int .i64 0, .int .i64 0]) ?_ 4 _ rfl; (with_reducible repeat (first | refine blk_drewN ?_ _ | refine blk_drew ?_ | refine blk_alloc ?_ _)); refine blk_put (cs := #[.int .i64 t316, .int .i64 t317, .int .i64 t318, .int .i64 0, .int .i64 0, .int .i64 0]) ?_ 3 _ rfl; (with_reducible repeat (first | refine blk_drewN ?_ _ | refine blk_drew ?_ | refine blk_alloc ?_ _)); refine blk_put (cs := #[.int .i64 t316, .int .i64 t317, .int .i64 0, .int .i64 0, .int .i64 0, .int .i64 0]) ?_ 2 _ rfl; (with_reducible repeat (first | refine blk_drewN ?_ _ | refine blk_drew ?_ | refine blk_alloc ?_ _)); refine blk_put (cs := #[.int .i64 t316, .int .i64 0, .int .i64 0, .int .i64 0, .int .i64 0, .int .i64 0]) ?_ 1 _ rfl; (with_reducible repeat (first | refine blk_drewN ?_ _ | refine blk_drew ?_ | refine blk_alloc ?_ _)); refine blk_put (cs := #[.int .i64 0, .int .i64 0, .int .i64 0, .int .i64 0, .int .i64 0, .int .i64 0]) ?_ 0 _ rfl; (with_reducible repeat (first | refine blk_drewN ?_ _ | refine blk_drew ?_ | refine blk_alloc ?_ _)); exact BK323.out) hb); have n2_ := Aside0.mk (below_step (by repeat (first | (with_reducible first | exact HB.out | apply below_alloc | apply pw_below_drewN | apply below_drew1 | refine below_set ?_ GE313.out | refine below_set ?_ GE323.out) | exact HB.out)) hb); clear BK313; clear BK323; clear HB; have BK313 := n0_; have BK323 := n1_; have HB := n2_; clear n0_ n1_ n2_; (try clear hb); (try clear hb2); (try clear hk); (try clear hi)))
        go_meet
        case rel => exact ⟨_, (true), (by first | rfl | (simp; done) | (simp [*]; done) | (simp [*]; generalize ByteArray.toList _ = l_; cases l_ <;> rfl)), H', ⟨by first | omega | exact Nat.le_refl _⟩, ⟨by (with_reducible repeat (first | refine blk_drewN ?_ _ | refine blk_drew ?_ | refine blk_alloc ?_ _)); exact BK313.out⟩, ⟨by (with_reducible repeat (first | refine blk_drewN ?_ _ | refine blk_drew ?_ | refine blk_alloc ?_ _)); exact BK323.out⟩, ⟨by repeat (first | (with_reducible first | exact HB.out | apply below_alloc | apply pw_below_drewN | apply below_drew1 | refine below_set ?_ GE313.out | refine below_set ?_ GE323.out) | exact HB.out)⟩⟩
    case rest =>
      clear HC8; (try clear c1); (try clear c2); (try clear p2); (try clear c3); (try clear c4); (try clear c5); (try clear c10); (try clear c13); (try clear c17); (try clear c20); (try clear c20b0); (try clear c20b1); (try clear c22); (try clear c22b0); (try clear c22b1); (try clear c24); (try clear c24b0); (try clear c24b1); (try clear c24b2); (try clear c25); (try clear c32); (try clear c33); (try clear c42); (try clear c47); (try clear c49); (try clear c54); (try clear c55); (try clear c56); (try clear hcz11_0); (try clear hcz11_1); (try clear hcz11_2); (try clear hcz11_3); (try clear hcz11_4); (try clear hcz11_5); (try clear hcz13_0); (try clear hcz13_1); (try clear hcz13_2); (try clear hcz13_3); (try clear hcz13_4); (try clear hcz13_5); (try clear hcz18_0); (try clear hcz18_1); (try clear hcz18_2); (try clear hcz18_3); (try clear hcz18_4); (try clear hcz18_5); (try clear hcz26_0); (try clear hcz26_1); (try clear hcz26_2); (try clear hcz26_3); (try clear hcz26_4); (try clear hcz26_5); (try clear hcz28_0); (try clear hcz28_1); (try clear hcz28_2); (try clear hcz28_3); (try clear hcz28_4); (try clear hcz28_5); (try clear hcz30_0); (try clear hcz30_1); (try clear hcz30_2); (try clear hcz30_3); (try clear hcz30_4); (try clear hcz30_5); (try clear hcz34_0); (try clear hcz34_1); (try clear hcz34_2); (try clear hcz34_3); (try clear hcz34_4); (try clear hcz34_5); (try clear hcz36_0); (try clear hcz36_1); (try clear hcz36_2); (try clear hcz36_3); (try clear hcz36_4); (try clear hcz36_5); (try clear hcz38_0); (try clear hcz38_1); (try clear hcz38_2); (try clear hcz38_3); (try clear hcz38_4); (try clear hcz38_5); (try clear hcz40_0); (try clear hcz40_1); (try clear hcz40_2); (try clear hcz40_3); (try clear hcz40_4); (try clear hcz40_5); (try clear hcz41_0); (try clear hcz41_1); (try clear hcz41_2); (try clear hcz41_3); (try clear hcz41_4); (try clear hcz41_5); (try clear hcz43_0); (try clear hcz43_1); (try clear hcz43_2); (try clear hcz43_3); (try clear hcz43_4); (try clear hcz43_5); (try clear hcz45_0); (try clear hcz45_1); (try clear hcz45_2); (try clear hcz45_3); (try clear hcz45_4); (try clear hcz45_5); (try clear hcz47_0); (try clear hcz47_1); (try clear hcz47_2); (try clear hcz47_3); (try clear hcz47_4); (try clear hcz47_5); (try clear hcz50_0); (try clear hcz50_1); (try clear hcz50_2); (try clear hcz50_3); (try clear hcz50_4); (try clear hcz50_5); (try clear hcz52_0); (try clear hcz52_1); (try clear hcz52_2); (try clear hcz52_3); (try clear hcz52_4); (try clear hcz52_5); (try clear hcz55_0); (try clear hcz55_1); (try clear hcz55_2); (try clear hcz55_3); (try clear hcz55_4); (try clear hcz55_5); (try clear hfz11_0); (try clear hfz11_1); (try clear hfz11_2); (try clear hfz11_3); (try clear hfz11_4); (try clear hfz11_5); (try clear hfz13_0); (try clear hfz13_1); (try clear hfz13_2); (try clear hfz13_3); (try clear hfz13_4); (try clear hfz13_5); (try clear hfz18_0); (try clear hfz18_1); (try clear hfz18_2); (try clear hfz18_3); (try clear hfz18_4); (try clear hfz18_5); (try clear hfz26_0); (try clear hfz26_1); (try clear hfz26_2); (try clear hfz26_3); (try clear hfz26_4); (try clear hfz26_5); (try clear hfz28_0); (try clear hfz28_1); (try clear hfz28_2); (try clear hfz28_3); (try clear hfz28_4); (try clear hfz28_5); (try clear hfz30_0); (try clear hfz30_1); (try clear hfz30_2); (try clear hfz30_3); (try clear hfz30_4); (try clear hfz30_5); (try clear hfz34_0); (try clear hfz34_1); (try clear hfz34_2); (try clear hfz34_3); (try clear hfz34_4); (try clear hfz34_5); (try clear hfz36_0); (try clear hfz36_1); (try clear hfz36_2); (try clear hfz36_3); (try clear hfz36_4); (try clear hfz36_5); (try clear hfz38_0); (try clear hfz38_1); (try clear hfz38_2); (try clear hfz38_3); (try clear hfz38_4); (try clear hfz38_5); (try clear hfz40_0); (try clear hfz40_1); (try clear hfz40_2); (try clear hfz40_3); (try clear hfz40_4); (try clear hfz40_5); (try clear hfz41_0); (try clear hfz41_1); (try clear hfz41_2); (try clear hfz41_3); (try clear hfz41_4); (try clear hfz41_5); (try clear hfz43_0); (try clear hfz43_1); (try clear hfz43_2); (try clear hfz43_3); (try clear hfz43_4); (try clear hfz43_5); (try clear hfz45_0); (try clear hfz45_1); (try clear hfz45_2); (try clear hfz45_3); (try clear hfz45_4); (try clear hfz45_5); (try clear hfz47_0); (try clear hfz47_1); (try clear hfz47_2); (try clear hfz47_3); (try clear hfz47_4); (try clear hfz47_5); (try clear hfz50_0); (try clear hfz50_1); (try clear hfz50_2); (try clear hfz50_3); (try clear hfz50_4); (try clear hfz50_5); (try clear hfz52_0); (try clear hfz52_1); (try clear hfz52_2); (try clear hfz52_3); (try clear hfz52_4); (try clear hfz52_5); (try clear hfz55_0); (try clear hfz55_1); (try clear hfz55_2); (try clear hfz55_3); (try clear hfz55_4); (try clear hfz55_5)
      obtain ⟨kq, x50_7, rfl, HA, HJ7, BK313, BK323, HB⟩ := hcut
      cases kq with
      | zero => exact absurd HA.out (by simp [laws_FnLayout.j0])
      | succ kj7 =>
        have H := HA.out
        clear HA
        simp only [laws_FnLayout.j0] at H
        by_cases c57 : x50_7 = true
        · subst c57
          have H1 : (none) = some r := by rw [if_pos rfl] at H; exact H
          clear H
          have H := H1
          clear H1
          exact absurd H (by simp)
        · replace c57 := Bool.eq_false_iff.mpr c57
          subst c57
          have H1 : ((impl_ClockCell.f).bind fun t327 => ((impl_ArenaCell.f).bind fun t328 => (laws_FnLayout.l0 kj7 t314 t322 (([t327, t328] : List Int)) 0 t307 t308 t309 t310 t311 t312))) = some r := by rw [if_neg (show ¬ (false = true) by decide)] at H; exact H
          clear H
          have H := H1
          clear H1
          replace H := Option.bind_eq_some_iff.mp H
          obtain ⟨t327, A580, H⟩ := H
          replace H : ((impl_ArenaCell.f).bind fun t328 => (laws_FnLayout.l0 kj7 t314 t322 (([t327, t328] : List Int)) 0 t307 t308 t309 t310 t311 t312)) = some r := H
          have A58 := Aside0.mk A580
          clear A580
          replace H := Option.bind_eq_some_iff.mp H
          obtain ⟨t328, A590, H⟩ := H
          replace H : (laws_FnLayout.l0 kj7 t314 t322 (([t327, t328] : List Int)) 0 t307 t308 t309 t310 t311 t312) = some r := H
          have A59 := Aside0.mk A590
          clear A590
          obtain ⟨y329, hy329⟩ : ∃ y_ : List Int, y_ = (([t327, t328] : List Int)) := ⟨_, rfl⟩
          replace H : (laws_FnLayout.l0 kj7 t314 t322 y329 0 t307 t308 t309 t310 t311 t312) = some r := by first | (rw [hy329]; with_reducible exact H) | (have H2_ := (Option.bind_some _ _).symm.trans H; rw [hy329]; with_reducible exact H2_) | (have H2_ := (Option.bind_some _ _).symm.trans H; with_reducible exact H2_) | with_reducible exact H | (rw [hy329]; exact H) | exact H
          have Ny329 := Aside0.mk hy329
          clear hy329
          have H' := Aside0.mk H
          clear H
          go_wp2_with (first | ((with_reducible refine gate_callee (f := 60) rfl ?_); refine goesL_ (some 51) rfl rfl Tryd.func60 (by kernel_rfl) rfl #[] rfl (by (try simp only [List.map_toArray, List.map_cons, List.map_nil]); first | done | rfl | (simp only [List.length_drop, List.length_take]; rfl)) ?_; (with_reducible refine (impl_ClockCell.calls  t327 _ A58.out).mono ?_); rintro e w' ⟨rfl, ⟨nd, rfl⟩⟩; refine ⟨_, rfl, ?_⟩) | ((with_reducible refine gate_callee (f := 61) rfl ?_); refine goesL_ (some 52) rfl rfl Tryd.func61 (by kernel_rfl) rfl #[] rfl (by (try simp only [List.map_toArray, List.map_cons, List.map_nil]); first | done | rfl | (simp only [List.length_drop, List.length_take]; rfl)) ?_; (with_reducible refine (impl_ArenaCell.calls  t328 _ A59.out).mono ?_); rintro e w' ⟨rfl, ⟨nd, rfl⟩⟩; refine ⟨_, rfl, ?_⟩) | ((with_reducible refine gate_dst (N := 53) rfl ?_); (try (refine gate_guard (by rfl) ?_; dsimp only)); refine Kd.R_lit (Kd.int .i64) _ 3 ?hg (N := 53) ?hd (xs := ([t327, t328] : List Int)) (inner := [.int .i64 t327, .int .i64 t328]) (ok := fun _ => True) (okp := fun _ => True) ?hr ?hp (fun _ hk => hk) trivial (Below.refl _ _) (Nat.le_refl _) (by simp) ?_; (case hd => rfl); (case hg => rfl); (case hr => first | (go_simp; done) | (go_simp; rfl)); (case hp => exact (Reps.one (show Kd.M (Kd.int .i64) _ _ _ t327 [.int .i64 t327] from rfl) (Reps.one (show Kd.M (Kd.int .i64) _ _ _ t328 [.int .i64 t328] from rfl) (Reps.none _ _)))); intro v330 w60 ho61 hb hg_ hnew_; clear hg_ hnew_; (first | rw [← Ny329.out] at ho61 | (simp only [Int.reduceToNat] at ho61; rw [← Ny329.out] at ho61)); have n0_ := Aside0.mk (Kd.R_lower ho61 (below_size (by repeat (first | (with_reducible first | exact HB.out | apply below_alloc | apply pw_below_drewN | apply below_drew1 | refine below_set ?_ GE313.out | refine below_set ?_ GE323.out) | exact HB.out)))); have n1_ := Aside0.mk (blk_below (g := gb313) (o := .cells #[.int .i64 t307, .int .i64 t308, .int .i64 t309, .int .i64 t310, .int .i64 t311, .int .i64 t312] 47 (0, 0)) (by (with_reducible repeat (first | refine blk_drewN ?_ _ | refine blk_drew ?_ | refine blk_alloc ?_ _)); exact BK313.out) hb); have n2_ := Aside0.mk (blk_below (g := gb323) (o := .cells #[.int .i64 t316, .int .i64 t317, .int .i64 t318, .int .i64 t319, .int .i64 t320, .int .i64 t321] 47 (0, 0)) (by (with_reducible repeat (first | refine blk_drewN ?_ _ | refine blk_drew ?_ | refine blk_alloc ?_ _)); exact BK323.out) hb); have n3_ := Aside0.mk (below_step (by repeat (first | (with_reducible first | exact HB.out | apply below_alloc | apply pw_below_drewN | apply below_drew1 | refine below_set ?_ GE313.out | refine below_set ?_ GE323.out) | exact HB.out)) hb); clear BK313; clear BK323; clear HB; have HO331 := n0_; have BK313 := n1_; have BK323 := n2_; have HB := n3_; clear n0_ n1_ n2_ n3_; clear hb ho61))
          go_loopg [8, 9] kj7 (fun kq v8 v9 w' => ∃ (x8_2 : List Int) (x9_2 : Int), v9 = .int .i64 x9_2 ∧ Aside0 (laws_FnLayout.l0 kq t314 t322 x8_2 x9_2 t307 t308 t309 t310 t311 t312 = some r) ∧ Aside0 (kq ≤ kj7) ∧ Aside0 (Kd.R (Kd.int .i64) 3 w' w.heap.size (fun _ => True) v8 x8_2) ∧ Aside0 (w'.heap[gb313]? = some (.cells #[.int .i64 t307, .int .i64 t308, .int .i64 t309, .int .i64 t310, .int .i64 t311, .int .i64 t312] 47 (0, 0))) ∧ Aside0 (w'.heap[gb323]? = some (.cells #[.int .i64 t316, .int .i64 t317, .int .i64 t318, .int .i64 t319, .int .i64 t320, .int .i64 t321] 47 (0, 0))) ∧ Aside0 (Below w.heap.size w w'))
          case atStart => exact ⟨(y329), (0), (by first | rfl | (simp; done) | (simp [*]; done) | (simp [*]; generalize ByteArray.toList _ = l_; cases l_ <;> rfl)), H', ⟨Nat.le_refl _⟩, ⟨by (with_reducible repeat (first | apply Kd.R_alloc | apply Kd.R_drewN | apply Kd.R_drew)); exact HO331.out⟩, ⟨by (with_reducible repeat (first | refine blk_drewN ?_ _ | refine blk_drew ?_ | refine blk_alloc ?_ _)); exact BK313.out⟩, ⟨by (with_reducible repeat (first | refine blk_drewN ?_ _ | refine blk_drew ?_ | refine blk_alloc ?_ _)); exact BK323.out⟩, ⟨by repeat (first | (with_reducible first | exact HB.out | apply below_alloc | apply pw_below_drewN | apply below_drew1 | refine below_set ?_ GE313.out | refine below_set ?_ GE323.out) | exact HB.out)⟩⟩
          case round =>
            clear H'
            (try clear c1); (try clear c2); (try clear p2); (try clear c3); (try clear c4); (try clear c5); (try clear c6); (try clear c10); (try clear c13); (try clear c17); (try clear c20); (try clear c20b0); (try clear c20b1); (try clear c22); (try clear c22b0); (try clear c22b1); (try clear c24); (try clear c24b0); (try clear c24b1); (try clear c24b2); (try clear c25); (try clear c32); (try clear c33); (try clear c42); (try clear c47); (try clear c49); (try clear c54); (try clear c55); (try clear c56); (try clear c57); (try clear c60); (try clear c61); (try clear hcz11_0); (try clear hcz11_1); (try clear hcz11_2); (try clear hcz11_3); (try clear hcz11_4); (try clear hcz11_5); (try clear hcz13_0); (try clear hcz13_1); (try clear hcz13_2); (try clear hcz13_3); (try clear hcz13_4); (try clear hcz13_5); (try clear hcz18_0); (try clear hcz18_1); (try clear hcz18_2); (try clear hcz18_3); (try clear hcz18_4); (try clear hcz18_5); (try clear hcz26_0); (try clear hcz26_1); (try clear hcz26_2); (try clear hcz26_3); (try clear hcz26_4); (try clear hcz26_5); (try clear hcz28_0); (try clear hcz28_1); (try clear hcz28_2); (try clear hcz28_3); (try clear hcz28_4); (try clear hcz28_5); (try clear hcz30_0); (try clear hcz30_1); (try clear hcz30_2); (try clear hcz30_3); (try clear hcz30_4); (try clear hcz30_5); (try clear hcz34_0); (try clear hcz34_1); (try clear hcz34_2); (try clear hcz34_3); (try clear hcz34_4); (try clear hcz34_5); (try clear hcz36_0); (try clear hcz36_1); (try clear hcz36_2); (try clear hcz36_3); (try clear hcz36_4); (try clear hcz36_5); (try clear hcz38_0); (try clear hcz38_1); (try clear hcz38_2); (try clear hcz38_3); (try clear hcz38_4); (try clear hcz38_5); (try clear hcz40_0); (try clear hcz40_1); (try clear hcz40_2); (try clear hcz40_3); (try clear hcz40_4); (try clear hcz40_5); (try clear hcz41_0); (try clear hcz41_1); (try clear hcz41_2); (try clear hcz41_3); (try clear hcz41_4); (try clear hcz41_5); (try clear hcz43_0); (try clear hcz43_1); (try clear hcz43_2); (try clear hcz43_3); (try clear hcz43_4); (try clear hcz43_5); (try clear hcz45_0); (try clear hcz45_1); (try clear hcz45_2); (try clear hcz45_3); (try clear hcz45_4); (try clear hcz45_5); (try clear hcz47_0); (try clear hcz47_1); (try clear hcz47_2); (try clear hcz47_3); (try clear hcz47_4); (try clear hcz47_5); (try clear hcz50_0); (try clear hcz50_1); (try clear hcz50_2); (try clear hcz50_3); (try clear hcz50_4); (try clear hcz50_5); (try clear hcz52_0); (try clear hcz52_1); (try clear hcz52_2); (try clear hcz52_3); (try clear hcz52_4); (try clear hcz52_5); (try clear hcz55_0); (try clear hcz55_1); (try clear hcz55_2); (try clear hcz55_3); (try clear hcz55_4); (try clear hcz55_5); (try clear hfz11_0); (try clear hfz11_1); (try clear hfz11_2); (try clear hfz11_3); (try clear hfz11_4); (try clear hfz11_5); (try clear hfz13_0); (try clear hfz13_1); (try clear hfz13_2); (try clear hfz13_3); (try clear hfz13_4); (try clear hfz13_5); (try clear hfz18_0); (try clear hfz18_1); (try clear hfz18_2); (try clear hfz18_3); (try clear hfz18_4); (try clear hfz18_5); (try clear hfz26_0); (try clear hfz26_1); (try clear hfz26_2); (try clear hfz26_3); (try clear hfz26_4); (try clear hfz26_5); (try clear hfz28_0); (try clear hfz28_1); (try clear hfz28_2); (try clear hfz28_3); (try clear hfz28_4); (try clear hfz28_5); (try clear hfz30_0); (try clear hfz30_1); (try clear hfz30_2); (try clear hfz30_3); (try clear hfz30_4); (try clear hfz30_5); (try clear hfz34_0); (try clear hfz34_1); (try clear hfz34_2); (try clear hfz34_3); (try clear hfz34_4); (try clear hfz34_5); (try clear hfz36_0); (try clear hfz36_1); (try clear hfz36_2); (try clear hfz36_3); (try clear hfz36_4); (try clear hfz36_5); (try clear hfz38_0); (try clear hfz38_1); (try clear hfz38_2); (try clear hfz38_3); (try clear hfz38_4); (try clear hfz38_5); (try clear hfz40_0); (try clear hfz40_1); (try clear hfz40_2); (try clear hfz40_3); (try clear hfz40_4); (try clear hfz40_5); (try clear hfz41_0); (try clear hfz41_1); (try clear hfz41_2); (try clear hfz41_3); (try clear hfz41_4); (try clear hfz41_5); (try clear hfz43_0); (try clear hfz43_1); (try clear hfz43_2); (try clear hfz43_3); (try clear hfz43_4); (try clear hfz43_5); (try clear hfz45_0); (try clear hfz45_1); (try clear hfz45_2); (try clear hfz45_3); (try clear hfz45_4); (try clear hfz45_5); (try clear hfz47_0); (try clear hfz47_1); (try clear hfz47_2); (try clear hfz47_3); (try clear hfz47_4); (try clear hfz47_5); (try clear hfz50_0); (try clear hfz50_1); (try clear hfz50_2); (try clear hfz50_3); (try clear hfz50_4); (try clear hfz50_5); (try clear hfz52_0); (try clear hfz52_1); (try clear hfz52_2); (try clear hfz52_3); (try clear hfz52_4); (try clear hfz52_5); (try clear hfz55_0); (try clear hfz55_1); (try clear hfz55_2); (try clear hfz55_3); (try clear hfz55_4); (try clear hfz55_5); (try clear p2)
            obtain ⟨x8_2, x9_2, rfl, HA, HK2, HO_8, BK313, BK323, HB⟩ := hrel
            cases gk with
            | zero => exact absurd HA.out (by simp [laws_FnLayout.l0])
            | succ k2 =>
              have H := HA.out
              clear HA
              simp only [laws_FnLayout.l0] at H
              have HC62 := Aside0.mk H
              clear H
              go_upto_region 11 with (fail)
              go_cut [60] (fun v60 wc => ∃ (kq : Nat) (x60_61 : Bool), v60 = .bool x60_61 ∧ Aside0 (laws_FnLayout.j2 kq t314 t322 x8_2 x9_2 x60_61 t307 t308 t309 t310 t311 t312 = some r) ∧ Aside0 (kq ≤ k2) ∧ Aside0 (Kd.R (Kd.int .i64) 3 wc w.heap.size (fun _ => True) u8 x8_2) ∧ Aside0 (wc.heap[gb313]? = some (.cells #[.int .i64 t307, .int .i64 t308, .int .i64 t309, .int .i64 t310, .int .i64 t311, .int .i64 t312] 47 (0, 0))) ∧ Aside0 (wc.heap[gb323]? = some (.cells #[.int .i64 t316, .int .i64 t317, .int .i64 t318, .int .i64 t319, .int .i64 t320, .int .i64 t321] 47 (0, 0))) ∧ Aside0 (Below w.heap.size w wc))
              case first =>
                have H := HC62.out
                clear HC62
                by_cases c63 : x9_2 < t307
                · rw [if_pos c63] at H
                  have c63b0 : decide (x9_2 < t307) = true := decide_eq_true c63
                  clear c63
                  (first | rw [c63b0] | (simp only [i64_w, i32_w]; rw [c63b0]) | skip)
                  have H' := Aside0.mk H
                  clear H
                  have hnb64 := NB313_323.out
                  have hnc64 := NB323_313.out
                  have hcz65_0 : wr.cell? ⟨gb313, 0, none⟩ = some (.int .i64 t307) := (blk_cell BK313.out 0).trans rfl
                  have hcz65_1 : wr.cell? ⟨gb313, 1, none⟩ = some (.int .i64 t308) := (blk_cell BK313.out 1).trans rfl
                  have hcz65_2 : wr.cell? ⟨gb313, 2, none⟩ = some (.int .i64 t309) := (blk_cell BK313.out 2).trans rfl
                  have hcz65_3 : wr.cell? ⟨gb313, 3, none⟩ = some (.int .i64 t310) := (blk_cell BK313.out 3).trans rfl
                  have hcz65_4 : wr.cell? ⟨gb313, 4, none⟩ = some (.int .i64 t311) := (blk_cell BK313.out 4).trans rfl
                  have hcz65_5 : wr.cell? ⟨gb313, 5, none⟩ = some (.int .i64 t312) := (blk_cell BK313.out 5).trans rfl
                  have hfz65_0 := blk_frozen BK313.out 0
                  have hfz65_1 := blk_frozen BK313.out 1
                  have hfz65_2 := blk_frozen BK313.out 2
                  have hfz65_3 := blk_frozen BK313.out 3
                  have hfz65_4 := blk_frozen BK313.out 4
                  have hfz65_5 := blk_frozen BK313.out 5
                  go_wp2
                  go_meet
                  case rel => exact ⟨_, (t322), (by first | rfl | (simp; done) | (simp [*]; done) | (simp [*]; generalize ByteArray.toList _ = l_; cases l_ <;> rfl)), H', ⟨by have := HJ7.out; have := HK2.out; first | omega | exact Nat.le_refl _⟩, ⟨by (with_reducible repeat (first | apply Kd.R_alloc | apply Kd.R_drewN | apply Kd.R_drew)); exact HO_8.out⟩, ⟨by (with_reducible repeat (first | refine blk_drewN ?_ _ | refine blk_drew ?_ | refine blk_alloc ?_ _)); exact BK313.out⟩, ⟨by (with_reducible repeat (first | refine blk_drewN ?_ _ | refine blk_drew ?_ | refine blk_alloc ?_ _)); exact BK323.out⟩, ⟨by repeat (first | (with_reducible first | exact HB.out | apply below_alloc | apply pw_below_drewN | apply below_drew1 | refine below_set ?_ GE313.out | refine below_set ?_ GE323.out) | exact HB.out)⟩⟩
                · rw [if_neg c63] at H
                  have c63b0 : decide (x9_2 < t307) = false := decide_eq_false c63
                  clear c63
                  (first | rw [c63b0] | (simp only [i64_w, i32_w]; rw [c63b0]) | skip)
                  have H' := Aside0.mk H
                  clear H
                  have hnb66 := NB313_323.out
                  have hnc66 := NB323_313.out
                  have hcz67_0 : wr.cell? ⟨gb313, 0, none⟩ = some (.int .i64 t307) := (blk_cell BK313.out 0).trans rfl
                  have hcz67_1 : wr.cell? ⟨gb313, 1, none⟩ = some (.int .i64 t308) := (blk_cell BK313.out 1).trans rfl
                  have hcz67_2 : wr.cell? ⟨gb313, 2, none⟩ = some (.int .i64 t309) := (blk_cell BK313.out 2).trans rfl
                  have hcz67_3 : wr.cell? ⟨gb313, 3, none⟩ = some (.int .i64 t310) := (blk_cell BK313.out 3).trans rfl
                  have hcz67_4 : wr.cell? ⟨gb313, 4, none⟩ = some (.int .i64 t311) := (blk_cell BK313.out 4).trans rfl
                  have hcz67_5 : wr.cell? ⟨gb313, 5, none⟩ = some (.int .i64 t312) := (blk_cell BK313.out 5).trans rfl
                  have hfz67_0 := blk_frozen BK313.out 0
                  have hfz67_1 := blk_frozen BK313.out 1
                  have hfz67_2 := blk_frozen BK313.out 2
                  have hfz67_3 := blk_frozen BK313.out 3
                  have hfz67_4 := blk_frozen BK313.out 4
                  have hfz67_5 := blk_frozen BK313.out 5
                  go_wp2
                  go_meet
                  case rel => exact ⟨_, (false), (by first | rfl | (simp; done) | (simp [*]; done) | (simp [*]; generalize ByteArray.toList _ = l_; cases l_ <;> rfl)), H', ⟨by have := HJ7.out; have := HK2.out; first | omega | exact Nat.le_refl _⟩, ⟨by (with_reducible repeat (first | apply Kd.R_alloc | apply Kd.R_drewN | apply Kd.R_drew)); exact HO_8.out⟩, ⟨by (with_reducible repeat (first | refine blk_drewN ?_ _ | refine blk_drew ?_ | refine blk_alloc ?_ _)); exact BK313.out⟩, ⟨by (with_reducible repeat (first | refine blk_drewN ?_ _ | refine blk_drew ?_ | refine blk_alloc ?_ _)); exact BK323.out⟩, ⟨by repeat (first | (with_reducible first | exact HB.out | apply below_alloc | apply pw_below_drewN | apply below_drew1 | refine below_set ?_ GE313.out | refine below_set ?_ GE323.out) | exact HB.out)⟩⟩
              case rest =>
                clear HC62; (try clear c1); (try clear c2); (try clear p2); (try clear c3); (try clear c4); (try clear c5); (try clear c6); (try clear c10); (try clear c13); (try clear c17); (try clear c20); (try clear c20b0); (try clear c20b1); (try clear c22); (try clear c22b0); (try clear c22b1); (try clear c24); (try clear c24b0); (try clear c24b1); (try clear c24b2); (try clear c25); (try clear c32); (try clear c33); (try clear c42); (try clear c47); (try clear c49); (try clear c54); (try clear c55); (try clear c56); (try clear c57); (try clear c60); (try clear c61); (try clear c63); (try clear c63b0); (try clear c64); (try clear c66); (try clear hcz11_0); (try clear hcz11_1); (try clear hcz11_2); (try clear hcz11_3); (try clear hcz11_4); (try clear hcz11_5); (try clear hcz13_0); (try clear hcz13_1); (try clear hcz13_2); (try clear hcz13_3); (try clear hcz13_4); (try clear hcz13_5); (try clear hcz18_0); (try clear hcz18_1); (try clear hcz18_2); (try clear hcz18_3); (try clear hcz18_4); (try clear hcz18_5); (try clear hcz26_0); (try clear hcz26_1); (try clear hcz26_2); (try clear hcz26_3); (try clear hcz26_4); (try clear hcz26_5); (try clear hcz28_0); (try clear hcz28_1); (try clear hcz28_2); (try clear hcz28_3); (try clear hcz28_4); (try clear hcz28_5); (try clear hcz30_0); (try clear hcz30_1); (try clear hcz30_2); (try clear hcz30_3); (try clear hcz30_4); (try clear hcz30_5); (try clear hcz34_0); (try clear hcz34_1); (try clear hcz34_2); (try clear hcz34_3); (try clear hcz34_4); (try clear hcz34_5); (try clear hcz36_0); (try clear hcz36_1); (try clear hcz36_2); (try clear hcz36_3); (try clear hcz36_4); (try clear hcz36_5); (try clear hcz38_0); (try clear hcz38_1); (try clear hcz38_2); (try clear hcz38_3); (try clear hcz38_4); (try clear hcz38_5); (try clear hcz40_0); (try clear hcz40_1); (try clear hcz40_2); (try clear hcz40_3); (try clear hcz40_4); (try clear hcz40_5); (try clear hcz41_0); (try clear hcz41_1); (try clear hcz41_2); (try clear hcz41_3); (try clear hcz41_4); (try clear hcz41_5); (try clear hcz43_0); (try clear hcz43_1); (try clear hcz43_2); (try clear hcz43_3); (try clear hcz43_4); (try clear hcz43_5); (try clear hcz45_0); (try clear hcz45_1); (try clear hcz45_2); (try clear hcz45_3); (try clear hcz45_4); (try clear hcz45_5); (try clear hcz47_0); (try clear hcz47_1); (try clear hcz47_2); (try clear hcz47_3); (try clear hcz47_4); (try clear hcz47_5); (try clear hcz50_0); (try clear hcz50_1); (try clear hcz50_2); (try clear hcz50_3); (try clear hcz50_4); (try clear hcz50_5); (try clear hcz52_0); (try clear hcz52_1); (try clear hcz52_2); (try clear hcz52_3); (try clear hcz52_4); (try clear hcz52_5); (try clear hcz55_0); (try clear hcz55_1); (try clear hcz55_2); (try clear hcz55_3); (try clear hcz55_4); (try clear hcz55_5); (try clear hcz65_0); (try clear hcz65_1); (try clear hcz65_2); (try clear hcz65_3); (try clear hcz65_4); (try clear hcz65_5); (try clear hcz67_0); (try clear hcz67_1); (try clear hcz67_2); (try clear hcz67_3); (try clear hcz67_4); (try clear hcz67_5); (try clear hfz11_0); (try clear hfz11_1); (try clear hfz11_2); (try clear hfz11_3); (try clear hfz11_4); (try clear hfz11_5); (try clear hfz13_0); (try clear hfz13_1); (try clear hfz13_2); (try clear hfz13_3); (try clear hfz13_4); (try clear hfz13_5); (try clear hfz18_0); (try clear hfz18_1); (try clear hfz18_2); (try clear hfz18_3); (try clear hfz18_4); (try clear hfz18_5); (try clear hfz26_0); (try clear hfz26_1); (try clear hfz26_2); (try clear hfz26_3); (try clear hfz26_4); (try clear hfz26_5); (try clear hfz28_0); (try clear hfz28_1); (try clear hfz28_2); (try clear hfz28_3); (try clear hfz28_4); (try clear hfz28_5); (try clear hfz30_0); (try clear hfz30_1); (try clear hfz30_2); (try clear hfz30_3); (try clear hfz30_4); (try clear hfz30_5); (try clear hfz34_0); (try clear hfz34_1); (try clear hfz34_2); (try clear hfz34_3); (try clear hfz34_4); (try clear hfz34_5); (try clear hfz36_0); (try clear hfz36_1); (try clear hfz36_2); (try clear hfz36_3); (try clear hfz36_4); (try clear hfz36_5); (try clear hfz38_0); (try clear hfz38_1); (try clear hfz38_2); (try clear hfz38_3); (try clear hfz38_4); (try clear hfz38_5); (try clear hfz40_0); (try clear hfz40_1); (try clear hfz40_2); (try clear hfz40_3); (try clear hfz40_4); (try clear hfz40_5); (try clear hfz41_0); (try clear hfz41_1); (try clear hfz41_2); (try clear hfz41_3); (try clear hfz41_4); (try clear hfz41_5); (try clear hfz43_0); (try clear hfz43_1); (try clear hfz43_2); (try clear hfz43_3); (try clear hfz43_4); (try clear hfz43_5); (try clear hfz45_0); (try clear hfz45_1); (try clear hfz45_2); (try clear hfz45_3); (try clear hfz45_4); (try clear hfz45_5); (try clear hfz47_0); (try clear hfz47_1); (try clear hfz47_2); (try clear hfz47_3); (try clear hfz47_4); (try clear hfz47_5); (try clear hfz50_0); (try clear hfz50_1); (try clear hfz50_2); (try clear hfz50_3); (try clear hfz50_4); (try clear hfz50_5); (try clear hfz52_0); (try clear hfz52_1); (try clear hfz52_2); (try clear hfz52_3); (try clear hfz52_4); (try clear hfz52_5); (try clear hfz55_0); (try clear hfz55_1); (try clear hfz55_2); (try clear hfz55_3); (try clear hfz55_4); (try clear hfz55_5); (try clear hfz65_0); (try clear hfz65_1); (try clear hfz65_2); (try clear hfz65_3); (try clear hfz65_4); (try clear hfz65_5); (try clear hfz67_0); (try clear hfz67_1); (try clear hfz67_2); (try clear hfz67_3); (try clear hfz67_4); (try clear hfz67_5); (try clear p2)
                obtain ⟨kq, x60_61, rfl, HA, HJ61, HO_8, BK313, BK323, HB⟩ := hcut
                cases kq with
                | zero => exact absurd HA.out (by simp [laws_FnLayout.j2])
                | succ kj61 =>
                  have H := HA.out
                  clear HA
                  simp only [laws_FnLayout.j2] at H
                  by_cases c68 : x60_61 = true
                  · subst c68
                    have H1 : ((impl_AnnounceCell.f t307 t308 t309 t310 t311 t312 x9_2).bind fun t332 => ((impl_HazardCell.f t307 t308 t309 t310 t311 t312 x9_2 0).bind fun t333 => ((impl_HazardCell.f t307 t308 t309 t310 t311 t312 x9_2 1).bind fun t334 => ((some (([t332, t333, t334] : List Int) : List Int)).bind fun y335 => (if x8_2.length + y335.length < 17592186044416 then (laws_FnLayout.l0 kj61 t314 t322 (x8_2 ++ y335) (wrap64 (x9_2 + 1)) t307 t308 t309 t310 t311 t312) else (none)))))) = some r := by rw [if_pos rfl] at H; exact H
                    clear H
                    have H := H1
                    clear H1
                    replace H := Option.bind_eq_some_iff.mp H
                    obtain ⟨t332, A690, H⟩ := H
                    replace H : ((impl_HazardCell.f t307 t308 t309 t310 t311 t312 x9_2 0).bind fun t333 => ((impl_HazardCell.f t307 t308 t309 t310 t311 t312 x9_2 1).bind fun t334 => ((some (([t332, t333, t334] : List Int) : List Int)).bind fun y335 => (if x8_2.length + y335.length < 17592186044416 then (laws_FnLayout.l0 kj61 t314 t322 (x8_2 ++ y335) (wrap64 (x9_2 + 1)) t307 t308 t309 t310 t311 t312) else (none))))) = some r := H
                    have A69 := Aside0.mk A690
                    clear A690
                    replace H := Option.bind_eq_some_iff.mp H
                    obtain ⟨t333, A700, H⟩ := H
                    replace H : ((impl_HazardCell.f t307 t308 t309 t310 t311 t312 x9_2 1).bind fun t334 => ((some (([t332, t333, t334] : List Int) : List Int)).bind fun y335 => (if x8_2.length + y335.length < 17592186044416 then (laws_FnLayout.l0 kj61 t314 t322 (x8_2 ++ y335) (wrap64 (x9_2 + 1)) t307 t308 t309 t310 t311 t312) else (none)))) = some r := H
                    have A70 := Aside0.mk A700
                    clear A700
                    replace H := Option.bind_eq_some_iff.mp H
                    obtain ⟨t334, A710, H⟩ := H
                    replace H : ((some (([t332, t333, t334] : List Int) : List Int)).bind fun y335 => (if x8_2.length + y335.length < 17592186044416 then (laws_FnLayout.l0 kj61 t314 t322 (x8_2 ++ y335) (wrap64 (x9_2 + 1)) t307 t308 t309 t310 t311 t312) else (none))) = some r := H
                    have A71 := Aside0.mk A710
                    clear A710
                    obtain ⟨y335, hy335⟩ : ∃ y_ : List Int, y_ = (([t332, t333, t334] : List Int)) := ⟨_, rfl⟩
                    replace H : (if x8_2.length + y335.length < 17592186044416 then (laws_FnLayout.l0 kj61 t314 t322 (x8_2 ++ y335) (wrap64 (x9_2 + 1)) t307 t308 t309 t310 t311 t312) else (none)) = some r := by first | (rw [hy335]; with_reducible exact H) | (have H2_ := (Option.bind_some _ _).symm.trans H; rw [hy335]; with_reducible exact H2_) | (have H2_ := (Option.bind_some _ _).symm.trans H; with_reducible exact H2_) | with_reducible exact H | (rw [hy335]; exact H) | exact H
                    have Ny335 := Aside0.mk hy335
                    clear hy335
                    by_cases c72 : x8_2.length + y335.length < 17592186044416
                    · rw [if_pos c72] at H
                      have LMc72 := Aside0.mk c72
                      clear c72
                      obtain ⟨y338, hy338⟩ : ∃ y_ : List Int, y_ = (x8_2 ++ y335) := ⟨_, rfl⟩
                      replace H : (laws_FnLayout.l0 kj61 t314 t322 y338 (wrap64 (x9_2 + 1)) t307 t308 t309 t310 t311 t312) = some r := by first | (rw [hy338]; with_reducible exact H) | (have H2_ := (Option.bind_some _ _).symm.trans H; rw [hy338]; with_reducible exact H2_) | (have H2_ := (Option.bind_some _ _).symm.trans H; with_reducible exact H2_) | with_reducible exact H | (rw [hy338]; exact H) | exact H
                      have Ny338 := Aside0.mk hy338
                      clear hy338
                      have H' := Aside0.mk H
                      clear H
                      try go_wp2
                      have n0_ := Aside0.mk (Kd.R_drew HO_8.out)
                      have n1_ := Aside0.mk (blk_drew BK313.out)
                      have n2_ := Aside0.mk (blk_drew BK323.out)
                      have n3_ := Aside0.mk (below_drew1 HB.out)
                      clear HO_8; clear BK313; clear BK323; clear HB; have HO_8 := n0_; have BK313 := n1_; have BK323 := n2_; have HB := n3_; clear n0_ n1_ n2_ n3_
                      refine start_ (n := 13) (S := fun w' => w'.cell? ⟨gb313, 0, none⟩ = some (.int .i64 t307) ∧ w'.cell? ⟨gb313, 1, none⟩ = some (.int .i64 t308) ∧ w'.cell? ⟨gb313, 2, none⟩ = some (.int .i64 t309) ∧ w'.cell? ⟨gb313, 3, none⟩ = some (.int .i64 t310) ∧ w'.cell? ⟨gb313, 4, none⟩ = some (.int .i64 t311) ∧ w'.cell? ⟨gb313, 5, none⟩ = some (.int .i64 t312)) (ds := []) #[false, false, false, false, false, false, false, false, false, false, false, false, false] (by kernel_rfl) rfl rfl ⟨(blk_cell BK313.out 0).trans rfl, (blk_cell BK313.out 1).trans rfl, (blk_cell BK313.out 2).trans rfl, (blk_cell BK313.out 3).trans rfl, (blk_cell BK313.out 4).trans rfl, (blk_cell BK313.out 5).trans rfl⟩ (fun hHeld => ?_); refine with_tabW laws_FnLayout.tab13 laws_FnLayout.bits13 (fun HT_ HW_ => ?_)
                      generalize wc.drew = w73 at HO_8 BK313 BK323 HB hHeld ⊢
                      refine pure_ (i := 0) (N := some 63) (v := ?_) (a' := ?_) #[true, false, false, false, false, false, false, false, false, false, false, false, false] rfl rfl (any_of HT_.out (by kernel_rfl)) (fun _ _ _ h => h) (Or.inl ⟨by rfl, ?_⟩) ?_ ?_
                      rotate_left
                      · intro w'; go_simp; with_reducible rfl
                      rotate_left
                      · simp only [Act.put, List.setIfInBounds_toArray, List.set_cons_zero, List.set_cons_succ, i64_w, i32_w]; rfl
                      refine pure_ (i := 2) (N := some 65) (v := ?_) (a' := ?_) #[true, false, true, false, false, false, false, false, false, false, false, false, false] rfl rfl (any_of HT_.out (by kernel_rfl)) (fun _ _ _ h => h) (Or.inl ⟨by rfl, ?_⟩) ?_ ?_
                      rotate_left
                      · intro w'; go_simp; with_reducible rfl
                      rotate_left
                      · simp only [Act.put, List.setIfInBounds_toArray, List.set_cons_zero, List.set_cons_succ, i64_w, i32_w]; rfl
                      refine pure_ (i := 5) (N := some 68) (v := ?_) (a' := ?_) #[true, false, true, false, false, true, false, false, false, false, false, false, false] rfl rfl (any_of HT_.out (by kernel_rfl)) (fun _ _ _ h => h) (Or.inl ⟨by rfl, ?_⟩) ?_ ?_
                      rotate_left
                      · intro w'; go_simp; with_reducible rfl
                      rotate_left
                      · simp only [Act.put, List.setIfInBounds_toArray, List.set_cons_zero, List.set_cons_succ, i64_w, i32_w]; rfl
                      refine pure_ (i := 8) (N := some 71) (v := ?_) (a' := ?_) #[true, false, true, false, false, true, false, false, true, false, false, false, false] rfl rfl (any_of HT_.out (by kernel_rfl)) (fun _ _ _ h => h) (Or.inl ⟨by rfl, ?_⟩) ?_ ?_
                      rotate_left
                      · intro w'; go_simp; with_reducible rfl
                      rotate_left
                      · simp only [Act.put, List.setIfInBounds_toArray, List.set_cons_zero, List.set_cons_succ, i64_w, i32_w]; rfl
                      refine take_ (i := 1) (N := some 64) (v := ?_) (a' := ?_) #[true, true, true, false, false, true, false, false, true, false, false, false, false] rfl rfl (take_ofW HT_.out HW_.out (by kernel_rfl)) (fun _ _ _ h => h) (Or.inl ⟨by rfl, ?_⟩) hHeld ?_ ?_
                      rotate_left
                      · rintro w' ⟨s0, s1, s2, s3, s4, s5⟩; go_simp; with_reducible rfl
                      rotate_left
                      · simp only [Act.put, List.setIfInBounds_toArray, List.set_cons_zero, List.set_cons_succ, i64_w, i32_w]; rfl
                      refine take_ (i := 4) (N := some 67) (v := ?_) (a' := ?_) #[true, true, true, false, true, true, false, false, true, false, false, false, false] rfl rfl (take_ofW HT_.out HW_.out (by kernel_rfl)) (fun _ _ _ h => h) (Or.inl ⟨by rfl, ?_⟩) hHeld ?_ ?_
                      rotate_left
                      · rintro w' ⟨s0, s1, s2, s3, s4, s5⟩; go_simp; with_reducible rfl
                      rotate_left
                      · simp only [Act.put, List.setIfInBounds_toArray, List.set_cons_zero, List.set_cons_succ, i64_w, i32_w]; rfl
                      refine take_ (i := 7) (N := some 70) (v := ?_) (a' := ?_) #[true, true, true, false, true, true, false, true, true, false, false, false, false] rfl rfl (take_ofW HT_.out HW_.out (by kernel_rfl)) (fun _ _ _ h => h) (Or.inl ⟨by rfl, ?_⟩) hHeld ?_ ?_
                      rotate_left
                      · rintro w' ⟨s0, s1, s2, s3, s4, s5⟩; go_simp; with_reducible rfl
                      rotate_left
                      · simp only [Act.put, List.setIfInBounds_toArray, List.set_cons_zero, List.set_cons_succ, i64_w, i32_w]; rfl
                      refine one_ (i := 3) (N := some 66) #[true, true, true, true, true, true, false, true, true, false, false, false, false] rfl rfl (one_of HT_.out (by kernel_rfl)) (by decide) (fun K hK => ?_)
                      refine goes_ Tryd.func62 (by kernel_rfl) rfl #[.agg #[.int .i64 t307, .int .i64 t308, .int .i64 t309, .int .i64 t310, .int .i64 t311, .int .i64 t312], .int .i64 x9_2] (by rfl) rfl rfl (by (try simp only [List.map_toArray, List.map_cons, List.map_nil]); first | done | rfl | (simp only [List.length_drop, List.length_take]; rfl)) ?_
                      with_reducible refine (impl_AnnounceCell.calls t307 t308 t309 t310 t311 t312 x9_2 t332 _ A69.out).mono ?_
                      rintro e w74 ⟨rfl, hb⟩
                      refine ⟨_, rfl, ?_⟩
                      have n0_ := Aside0.mk (Kd.R_below (by (with_reducible repeat (first | apply Kd.R_alloc | apply Kd.R_drewN | apply Kd.R_drew)); exact HO_8.out) hb)
                      have n1_ := Aside0.mk (blk_below (g := gb313) (o := .cells #[.int .i64 t307, .int .i64 t308, .int .i64 t309, .int .i64 t310, .int .i64 t311, .int .i64 t312] 47 (0, 0)) (by (with_reducible repeat (first | refine blk_drewN ?_ _ | refine blk_drew ?_ | refine blk_alloc ?_ _)); exact BK313.out) hb)
                      have n2_ := Aside0.mk (blk_below (g := gb323) (o := .cells #[.int .i64 t316, .int .i64 t317, .int .i64 t318, .int .i64 t319, .int .i64 t320, .int .i64 t321] 47 (0, 0)) (by (with_reducible repeat (first | refine blk_drewN ?_ _ | refine blk_drew ?_ | refine blk_alloc ?_ _)); exact BK323.out) hb)
                      have n3_ := Aside0.mk (below_step (by repeat (first | (with_reducible first | exact HB.out | apply below_alloc | apply pw_below_drewN | apply below_drew1 | refine below_set ?_ GE313.out | refine below_set ?_ GE323.out) | exact HB.out)) hb)
                      clear HO_8; clear BK313; clear BK323; clear HB; have HO_8 := n0_; have BK313 := n1_; have BK323 := n2_; have HB := n3_; clear n0_ n1_ n2_ n3_
                      (try clear hb)
                      (try clear hb2)
                      (try clear hk)
                      (try clear hi)
                      refine hK.out _ _ ⟨(blk_cell BK313.out 0).trans rfl, (blk_cell BK313.out 1).trans rfl, (blk_cell BK313.out 2).trans rfl, (blk_cell BK313.out 3).trans rfl, (blk_cell BK313.out 4).trans rfl, (blk_cell BK313.out 5).trans rfl⟩ (fun hHeld => ?_)
                      clear hK K
                      refine norm_ (a' := ?_) ?_ ?_
                      rotate_left
                      · show Act.put _ (some 66) _ = _
                        simp only [Act.put, List.setIfInBounds_toArray, List.set_cons_zero, List.set_cons_succ, i64_w, i32_w]
                        rfl
                      refine one_ (i := 6) (N := some 69) #[true, true, true, true, true, true, true, true, true, false, false, false, false] rfl rfl (one_of HT_.out (by kernel_rfl)) (by decide) (fun K hK => ?_)
                      refine goes_ Tryd.func63 (by kernel_rfl) rfl #[.agg #[.int .i64 t307, .int .i64 t308, .int .i64 t309, .int .i64 t310, .int .i64 t311, .int .i64 t312], .int .i64 x9_2, .int .i64 0] (by rfl) rfl rfl (by (try simp only [List.map_toArray, List.map_cons, List.map_nil]); first | done | rfl | (simp only [List.length_drop, List.length_take]; rfl)) ?_
                      with_reducible refine (impl_HazardCell.calls t307 t308 t309 t310 t311 t312 x9_2 0 t333 _ A70.out).mono ?_
                      rintro e w75 ⟨rfl, hb⟩
                      refine ⟨_, rfl, ?_⟩
                      have n0_ := Aside0.mk (Kd.R_below (by (with_reducible repeat (first | apply Kd.R_alloc | apply Kd.R_drewN | apply Kd.R_drew)); exact HO_8.out) hb)
                      have n1_ := Aside0.mk (blk_below (g := gb313) (o := .cells #[.int .i64 t307, .int .i64 t308, .int .i64 t309, .int .i64 t310, .int .i64 t311, .int .i64 t312] 47 (0, 0)) (by (with_reducible repeat (first | refine blk_drewN ?_ _ | refine blk_drew ?_ | refine blk_alloc ?_ _)); exact BK313.out) hb)
                      have n2_ := Aside0.mk (blk_below (g := gb323) (o := .cells #[.int .i64 t316, .int .i64 t317, .int .i64 t318, .int .i64 t319, .int .i64 t320, .int .i64 t321] 47 (0, 0)) (by (with_reducible repeat (first | refine blk_drewN ?_ _ | refine blk_drew ?_ | refine blk_alloc ?_ _)); exact BK323.out) hb)
                      have n3_ := Aside0.mk (below_step (by repeat (first | (with_reducible first | exact HB.out | apply below_alloc | apply pw_below_drewN | apply below_drew1 | refine below_set ?_ GE313.out | refine below_set ?_ GE323.out) | exact HB.out)) hb)
                      clear HO_8; clear BK313; clear BK323; clear HB; have HO_8 := n0_; have BK313 := n1_; have BK323 := n2_; have HB := n3_; clear n0_ n1_ n2_ n3_
                      (try clear hb)
                      (try clear hb2)
                      (try clear hk)
                      (try clear hi)
                      refine hK.out _ _ ⟨(blk_cell BK313.out 0).trans rfl, (blk_cell BK313.out 1).trans rfl, (blk_cell BK313.out 2).trans rfl, (blk_cell BK313.out 3).trans rfl, (blk_cell BK313.out 4).trans rfl, (blk_cell BK313.out 5).trans rfl⟩ (fun hHeld => ?_)
                      clear hK K
                      refine norm_ (a' := ?_) ?_ ?_
                      rotate_left
                      · show Act.put _ (some 69) _ = _
                        simp only [Act.put, List.setIfInBounds_toArray, List.set_cons_zero, List.set_cons_succ, i64_w, i32_w]
                        rfl
                      refine one_ (i := 9) (N := some 72) #[true, true, true, true, true, true, true, true, true, true, false, false, false] rfl rfl (one_of HT_.out (by kernel_rfl)) (by decide) (fun K hK => ?_)
                      refine goes_ Tryd.func63 (by kernel_rfl) rfl #[.agg #[.int .i64 t307, .int .i64 t308, .int .i64 t309, .int .i64 t310, .int .i64 t311, .int .i64 t312], .int .i64 x9_2, .int .i64 1] (by rfl) rfl rfl (by (try simp only [List.map_toArray, List.map_cons, List.map_nil]); first | done | rfl | (simp only [List.length_drop, List.length_take]; rfl)) ?_
                      with_reducible refine (impl_HazardCell.calls t307 t308 t309 t310 t311 t312 x9_2 1 t334 _ A71.out).mono ?_
                      rintro e w76 ⟨rfl, hb⟩
                      refine ⟨_, rfl, ?_⟩
                      have n0_ := Aside0.mk (Kd.R_below (by (with_reducible repeat (first | apply Kd.R_alloc | apply Kd.R_drewN | apply Kd.R_drew)); exact HO_8.out) hb)
                      have n1_ := Aside0.mk (blk_below (g := gb313) (o := .cells #[.int .i64 t307, .int .i64 t308, .int .i64 t309, .int .i64 t310, .int .i64 t311, .int .i64 t312] 47 (0, 0)) (by (with_reducible repeat (first | refine blk_drewN ?_ _ | refine blk_drew ?_ | refine blk_alloc ?_ _)); exact BK313.out) hb)
                      have n2_ := Aside0.mk (blk_below (g := gb323) (o := .cells #[.int .i64 t316, .int .i64 t317, .int .i64 t318, .int .i64 t319, .int .i64 t320, .int .i64 t321] 47 (0, 0)) (by (with_reducible repeat (first | refine blk_drewN ?_ _ | refine blk_drew ?_ | refine blk_alloc ?_ _)); exact BK323.out) hb)
                      have n3_ := Aside0.mk (below_step (by repeat (first | (with_reducible first | exact HB.out | apply below_alloc | apply pw_below_drewN | apply below_drew1 | refine below_set ?_ GE313.out | refine below_set ?_ GE323.out) | exact HB.out)) hb)
                      clear HO_8; clear BK313; clear BK323; clear HB; have HO_8 := n0_; have BK313 := n1_; have BK323 := n2_; have HB := n3_; clear n0_ n1_ n2_ n3_
                      (try clear hb)
                      (try clear hb2)
                      (try clear hk)
                      (try clear hi)
                      refine hK.out _ _ ⟨(blk_cell BK313.out 0).trans rfl, (blk_cell BK313.out 1).trans rfl, (blk_cell BK313.out 2).trans rfl, (blk_cell BK313.out 3).trans rfl, (blk_cell BK313.out 4).trans rfl, (blk_cell BK313.out 5).trans rfl⟩ (fun hHeld => ?_)
                      clear hK K
                      refine norm_ (a' := ?_) ?_ ?_
                      rotate_left
                      · show Act.put _ (some 72) _ = _
                        simp only [Act.put, List.setIfInBounds_toArray, List.set_cons_zero, List.set_cons_succ, i64_w, i32_w]
                        rfl
                      refine one_ (i := 10) (N := some 73) #[true, true, true, true, true, true, true, true, true, true, true, false, false] rfl rfl (one_of HT_.out (by kernel_rfl)) (by decide) (fun K hK => ?_)
                      refine Kd.R_lit_step (Kd.int .i64) _ 3 ?hg (N := 73) ?hd (xs := ([t332, t333, t334] : List Int)) (inner := [.int .i64 t332, .int .i64 t333, .int .i64 t334]) (ok := fun _ => True) (okp := fun _ => True) ?hr ?hp (fun _ hk => hk) trivial (Below.refl _ _) (Nat.le_refl _) (by simp) ?_; (case hd => rfl); (case hg => rfl); (case hr => first | (go_simp; done) | (go_simp; rfl)); (case hp => exact (Reps.one (show Kd.M (Kd.int .i64) _ _ _ t332 [.int .i64 t332] from rfl) (Reps.one (show Kd.M (Kd.int .i64) _ _ _ t333 [.int .i64 t333] from rfl) (Reps.one (show Kd.M (Kd.int .i64) _ _ _ t334 [.int .i64 t334] from rfl) (Reps.none _ _)))))
                      intro v336 w77 ho78 hb hg_ hnew_
                      clear hg_ hnew_
                      (first | rw [← Ny335.out] at ho78 | (simp only [Int.reduceToNat] at ho78; rw [← Ny335.out] at ho78))
                      have n0_ := Aside0.mk (Kd.R_elder' (by (with_reducible repeat (first | apply Kd.R_alloc | apply Kd.R_drewN | apply Kd.R_drew)); exact HO_8.out) (Kd.R_base ho78) hb)
                      have n1_ := Aside0.mk (Kd.R_lower (Kd.R_new' ho78 (Kd.R_lt (by (with_reducible repeat (first | apply Kd.R_alloc | apply Kd.R_drewN | apply Kd.R_drew)); exact HO_8.out))) (below_size (by repeat (first | (with_reducible first | exact HB.out | apply below_alloc | apply pw_below_drewN | apply below_drew1 | refine below_set ?_ GE313.out | refine below_set ?_ GE323.out) | exact HB.out))))
                      have n2_ := Aside0.mk (blk_below (g := gb313) (o := .cells #[.int .i64 t307, .int .i64 t308, .int .i64 t309, .int .i64 t310, .int .i64 t311, .int .i64 t312] 47 (0, 0)) (by (with_reducible repeat (first | refine blk_drewN ?_ _ | refine blk_drew ?_ | refine blk_alloc ?_ _)); exact BK313.out) hb)
                      have n3_ := Aside0.mk (blk_below (g := gb323) (o := .cells #[.int .i64 t316, .int .i64 t317, .int .i64 t318, .int .i64 t319, .int .i64 t320, .int .i64 t321] 47 (0, 0)) (by (with_reducible repeat (first | refine blk_drewN ?_ _ | refine blk_drew ?_ | refine blk_alloc ?_ _)); exact BK323.out) hb)
                      have n4_ := Aside0.mk (below_step (by repeat (first | (with_reducible first | exact HB.out | apply below_alloc | apply pw_below_drewN | apply below_drew1 | refine below_set ?_ GE313.out | refine below_set ?_ GE323.out) | exact HB.out)) hb)
                      clear HO_8; clear BK313; clear BK323; clear HB; have HO_8 := n0_; have HO337 := n1_; have BK313 := n2_; have BK323 := n3_; have HB := n4_; clear n0_ n1_ n2_ n3_ n4_; clear hb ho78
                      obtain ⟨Ao80, co80, eo80⟩ := Kd.R_slice HO337.out
                      (first | subst eo80 | (injection eo80 with f1_ f2_ f3_; have f4_ := f1_.symm; have f5_ := f3_.symm; clear f1_ f2_ f3_; subst f4_; subst f5_))
                      refine hK.out _ _ ⟨(blk_cell BK313.out 0).trans rfl, (blk_cell BK313.out 1).trans rfl, (blk_cell BK313.out 2).trans rfl, (blk_cell BK313.out 3).trans rfl, (blk_cell BK313.out 4).trans rfl, (blk_cell BK313.out 5).trans rfl⟩ (fun hHeld => ?_)
                      clear hK K
                      refine norm_ (a' := ?_) ?_ ?_
                      rotate_left
                      · show Act.put _ (some 73) _ = _
                        simp only [Act.put, List.setIfInBounds_toArray, List.set_cons_zero, List.set_cons_succ, i64_w, i32_w]
                        rfl
                      refine one_ (i := 11) (N := some 74) #[true, true, true, true, true, true, true, true, true, true, true, true, false] rfl rfl (one_of HT_.out (by kernel_rfl)) (by decide) (fun K hK => ?_)
                      refine Kd.R_append_rows_step (Kd.int .i64) (w0 := w) w.heap.size (by rfl) (.tmp 63) (.tmp 73) 61 3 (.int .i64 0) 8 rfl Tryd.underlying61 info3 rfl (by decide) (by omega) u8 x8_2 y335 _ _ _ (fun k_ => some k_ ≠ (.slice Ao80 y335.length co80 : Value).ownBlock) (fun _ => False) rfl rfl ?aO ?aR (fun _ _ h => h) (fun _ h => h.elim) ?aF ?aB ?aS ?aL ?_
                      (case aR => repeat (first | exact (Kd.R_reads' HO337.out).2.2 | (with_reducible refine Kd.C_alloc ?_ _) | (with_reducible refine Kd.C_drewN ?_ _) | (with_reducible refine Kd.C_drew ?_)))
                      (case aB => exact (by repeat (first | (with_reducible first | exact HB.out | apply below_alloc | apply pw_below_drewN | apply below_drew1 | refine below_set ?_ GE313.out | refine below_set ?_ GE323.out) | exact HB.out)))
                      (case aF => exact (fun k_ hk => Kd.fresh' (Kd.R_lt (by (with_reducible repeat (first | apply Kd.R_alloc | apply Kd.R_drewN | apply Kd.R_drew)); exact HO337.out)) k_ hk))
                      (case aO => exact (by (with_reducible repeat (first | apply Kd.R_alloc | apply Kd.R_drewN | apply Kd.R_drew)); exact Kd.R_mono HO_8.out (fun _ hk => hk.2)))
                      (case aS => exact (below_size (by repeat (first | (with_reducible first | exact HB.out | apply below_alloc | apply pw_below_drewN | apply below_drew1 | refine below_set ?_ GE313.out | refine below_set ?_ GE323.out) | exact HB.out))))
                      (case aL => have := LMc72.out; omega)
                      intro v339 w79 ho hb hg hat
                      rw [← Ny338.out] at ho
                      have n0_ := Aside0.mk (blk_grown (g := gb313) (o := .cells #[.int .i64 t307, .int .i64 t308, .int .i64 t309, .int .i64 t310, .int .i64 t311, .int .i64 t312] 47 (0, 0)) (by (with_reducible repeat (first | refine blk_drewN ?_ _ | refine blk_drew ?_ | refine blk_alloc ?_ _)); exact BK313.out) hg (Kd.R_ne HO_8.out BK313.out (by decide)))
                      have n1_ := Aside0.mk (blk_grown (g := gb323) (o := .cells #[.int .i64 t316, .int .i64 t317, .int .i64 t318, .int .i64 t319, .int .i64 t320, .int .i64 t321] 47 (0, 0)) (by (with_reducible repeat (first | refine blk_drewN ?_ _ | refine blk_drew ?_ | refine blk_alloc ?_ _)); exact BK323.out) hg (Kd.R_ne HO_8.out BK323.out (by decide)))
                      have n2_ := Aside0.mk (Kd.R_after (ok := (fun _ => True)) (by (with_reducible repeat (first | apply Kd.R_alloc | apply Kd.R_drewN | apply Kd.R_drew)); exact HO337.out) hg hat)
                      have n3_ := Aside0.mk (hb)
                      have n4_ := Aside0.mk (ho)
                      clear BK313; clear BK323; clear HO337; clear HB; clear HO_8; have BK313 := n0_; have BK323 := n1_; have HO337 := n2_; have HB := n3_; have HO340 := n4_; clear n0_ n1_ n2_ n3_ n4_; clear ho hb hg hat
                      refine hK.out _ _ ⟨(blk_cell BK313.out 0).trans rfl, (blk_cell BK313.out 1).trans rfl, (blk_cell BK313.out 2).trans rfl, (blk_cell BK313.out 3).trans rfl, (blk_cell BK313.out 4).trans rfl, (blk_cell BK313.out 5).trans rfl⟩ (fun hHeld => ?_)
                      clear hK K
                      refine norm_ (a' := ?_) ?_ ?_
                      rotate_left
                      · show Act.put _ (some 74) _ = _
                        simp only [Act.put, List.setIfInBounds_toArray, List.set_cons_zero, List.set_cons_succ, i64_w, i32_w]
                        rfl
                      refine pure_ (i := 12) (N := some 8) (v := ?_) (a' := ?_) #[true, true, true, true, true, true, true, true, true, true, true, true, true] rfl rfl (any_of HT_.out (by kernel_rfl)) (fun _ _ _ h => h) (Or.inl ⟨by rfl, ?_⟩) ?_ ?_
                      rotate_left
                      · intro w'; go_simp; with_reducible rfl
                      rotate_left
                      · simp only [Act.put, List.setIfInBounds_toArray, List.set_cons_zero, List.set_cons_succ, i64_w, i32_w]; rfl
                      refine done_ (done_of HT_.out (by kernel_rfl)) ?_
                      try go_wp2
                      go_roundg kj61
                      case measure => have := HJ7.out; have := HK2.out; have := HJ61.out; omega
                      case rel => exact ⟨(y338), (wrap64 (x9_2 + 1)), (by first | rfl | (simp; done) | (simp [*]; done) | (simp [*]; generalize ByteArray.toList _ = l_; cases l_ <;> rfl)), H', ⟨by have := HJ7.out; have := HK2.out; have := HJ61.out; omega⟩, ⟨by (with_reducible repeat (first | apply Kd.R_alloc | apply Kd.R_drewN | apply Kd.R_drew)); exact Kd.R_mono HO340.out (fun _ hk => trivial)⟩, ⟨by (with_reducible repeat (first | refine blk_drewN ?_ _ | refine blk_drew ?_ | refine blk_alloc ?_ _)); exact BK313.out⟩, ⟨by (with_reducible repeat (first | refine blk_drewN ?_ _ | refine blk_drew ?_ | refine blk_alloc ?_ _)); exact BK323.out⟩, ⟨by repeat (first | (with_reducible first | exact HB.out | apply below_alloc | apply pw_below_drewN | apply below_drew1 | refine below_set ?_ GE313.out | refine below_set ?_ GE323.out) | exact HB.out)⟩⟩
                    · rw [if_neg c72] at H
                      exact absurd H (by simp)
                  · replace c68 := Bool.eq_false_iff.mpr c68
                    subst c68
                    have H1 : (laws_FnLayout.l1 kj61 t314 t322 x8_2 0 t307 t308 t309 t310 t311 t312) = some r := by rw [if_neg (show ¬ (false = true) by decide)] at H; exact H
                    clear H
                    have H := H1
                    clear H1
                    have HC81 := Aside0.mk H
                    clear H
                    go_upto_block 2 with (fail)
                    go_cut [8] (fun v8 wc => ∃ (kq : Nat) (x8_80 : List Int), Aside0 (laws_FnLayout.j4 kq t314 t322 x8_80 t307 t308 t309 t310 t311 t312 = some r) ∧ Aside0 (kq ≤ kj61) ∧ Aside0 (Kd.R (Kd.int .i64) 3 wc w.heap.size (fun _ => True) v8 x8_80) ∧ Aside0 (wc.heap[gb313]? = some (.cells #[.int .i64 t307, .int .i64 t308, .int .i64 t309, .int .i64 t310, .int .i64 t311, .int .i64 t312] 47 (0, 0))) ∧ Aside0 (wc.heap[gb323]? = some (.cells #[.int .i64 t316, .int .i64 t317, .int .i64 t318, .int .i64 t319, .int .i64 t320, .int .i64 t321] 47 (0, 0))) ∧ Aside0 (Below w.heap.size w wc))
                    case first =>
                      have H := HC81.out
                      clear HC81
                      have H' := Aside0.mk H
                      clear H
                      go_wp2
                      go_loopg [8, 10] kj61 (fun kq v8 v10 w' => ∃ (x8_4 : List Int) (x10_4 : Int), v10 = .int .i64 x10_4 ∧ Aside0 (laws_FnLayout.l1 kq t314 t322 x8_4 x10_4 t307 t308 t309 t310 t311 t312 = some r) ∧ Aside0 (kq ≤ kj61) ∧ Aside0 (Kd.R (Kd.int .i64) 3 w' w.heap.size (fun _ => True) v8 x8_4) ∧ Aside0 (w'.heap[gb313]? = some (.cells #[.int .i64 t307, .int .i64 t308, .int .i64 t309, .int .i64 t310, .int .i64 t311, .int .i64 t312] 47 (0, 0))) ∧ Aside0 (w'.heap[gb323]? = some (.cells #[.int .i64 t316, .int .i64 t317, .int .i64 t318, .int .i64 t319, .int .i64 t320, .int .i64 t321] 47 (0, 0))) ∧ Aside0 (Below w.heap.size w w'))
                      case atStart => exact ⟨(x8_2), (0), (by first | rfl | (simp; done) | (simp [*]; done) | (simp [*]; generalize ByteArray.toList _ = l_; cases l_ <;> rfl)), H', ⟨Nat.le_refl _⟩, ⟨by (with_reducible repeat (first | apply Kd.R_alloc | apply Kd.R_drewN | apply Kd.R_drew)); exact HO_8.out⟩, ⟨by (with_reducible repeat (first | refine blk_drewN ?_ _ | refine blk_drew ?_ | refine blk_alloc ?_ _)); exact BK313.out⟩, ⟨by (with_reducible repeat (first | refine blk_drewN ?_ _ | refine blk_drew ?_ | refine blk_alloc ?_ _)); exact BK323.out⟩, ⟨by repeat (first | (with_reducible first | exact HB.out | apply below_alloc | apply pw_below_drewN | apply below_drew1 | refine below_set ?_ GE313.out | refine below_set ?_ GE323.out) | exact HB.out)⟩⟩
                      case round =>
                        clear H'
                        (try clear c1); (try clear c2); (try clear p2); (try clear c3); (try clear c4); (try clear c5); (try clear c6); (try clear p6); (try clear c7); (try clear c10); (try clear c13); (try clear c17); (try clear c20); (try clear c20b0); (try clear c20b1); (try clear c22); (try clear c22b0); (try clear c22b1); (try clear c24); (try clear c24b0); (try clear c24b1); (try clear c24b2); (try clear c25); (try clear c32); (try clear c33); (try clear c42); (try clear c47); (try clear c49); (try clear c54); (try clear c55); (try clear c56); (try clear c57); (try clear c60); (try clear c61); (try clear c62); (try clear c63); (try clear c63b0); (try clear c64); (try clear p64); (try clear c66); (try clear c68); (try clear c72); (try clear hcz11_0); (try clear hcz11_1); (try clear hcz11_2); (try clear hcz11_3); (try clear hcz11_4); (try clear hcz11_5); (try clear hcz13_0); (try clear hcz13_1); (try clear hcz13_2); (try clear hcz13_3); (try clear hcz13_4); (try clear hcz13_5); (try clear hcz18_0); (try clear hcz18_1); (try clear hcz18_2); (try clear hcz18_3); (try clear hcz18_4); (try clear hcz18_5); (try clear hcz26_0); (try clear hcz26_1); (try clear hcz26_2); (try clear hcz26_3); (try clear hcz26_4); (try clear hcz26_5); (try clear hcz28_0); (try clear hcz28_1); (try clear hcz28_2); (try clear hcz28_3); (try clear hcz28_4); (try clear hcz28_5); (try clear hcz30_0); (try clear hcz30_1); (try clear hcz30_2); (try clear hcz30_3); (try clear hcz30_4); (try clear hcz30_5); (try clear hcz34_0); (try clear hcz34_1); (try clear hcz34_2); (try clear hcz34_3); (try clear hcz34_4); (try clear hcz34_5); (try clear hcz36_0); (try clear hcz36_1); (try clear hcz36_2); (try clear hcz36_3); (try clear hcz36_4); (try clear hcz36_5); (try clear hcz38_0); (try clear hcz38_1); (try clear hcz38_2); (try clear hcz38_3); (try clear hcz38_4); (try clear hcz38_5); (try clear hcz40_0); (try clear hcz40_1); (try clear hcz40_2); (try clear hcz40_3); (try clear hcz40_4); (try clear hcz40_5); (try clear hcz41_0); (try clear hcz41_1); (try clear hcz41_2); (try clear hcz41_3); (try clear hcz41_4); (try clear hcz41_5); (try clear hcz43_0); (try clear hcz43_1); (try clear hcz43_2); (try clear hcz43_3); (try clear hcz43_4); (try clear hcz43_5); (try clear hcz45_0); (try clear hcz45_1); (try clear hcz45_2); (try clear hcz45_3); (try clear hcz45_4); (try clear hcz45_5); (try clear hcz47_0); (try clear hcz47_1); (try clear hcz47_2); (try clear hcz47_3); (try clear hcz47_4); (try clear hcz47_5); (try clear hcz50_0); (try clear hcz50_1); (try clear hcz50_2); (try clear hcz50_3); (try clear hcz50_4); (try clear hcz50_5); (try clear hcz52_0); (try clear hcz52_1); (try clear hcz52_2); (try clear hcz52_3); (try clear hcz52_4); (try clear hcz52_5); (try clear hcz55_0); (try clear hcz55_1); (try clear hcz55_2); (try clear hcz55_3); (try clear hcz55_4); (try clear hcz55_5); (try clear hcz65_0); (try clear hcz65_1); (try clear hcz65_2); (try clear hcz65_3); (try clear hcz65_4); (try clear hcz65_5); (try clear hcz67_0); (try clear hcz67_1); (try clear hcz67_2); (try clear hcz67_3); (try clear hcz67_4); (try clear hcz67_5); (try clear hfz11_0); (try clear hfz11_1); (try clear hfz11_2); (try clear hfz11_3); (try clear hfz11_4); (try clear hfz11_5); (try clear hfz13_0); (try clear hfz13_1); (try clear hfz13_2); (try clear hfz13_3); (try clear hfz13_4); (try clear hfz13_5); (try clear hfz18_0); (try clear hfz18_1); (try clear hfz18_2); (try clear hfz18_3); (try clear hfz18_4); (try clear hfz18_5); (try clear hfz26_0); (try clear hfz26_1); (try clear hfz26_2); (try clear hfz26_3); (try clear hfz26_4); (try clear hfz26_5); (try clear hfz28_0); (try clear hfz28_1); (try clear hfz28_2); (try clear hfz28_3); (try clear hfz28_4); (try clear hfz28_5); (try clear hfz30_0); (try clear hfz30_1); (try clear hfz30_2); (try clear hfz30_3); (try clear hfz30_4); (try clear hfz30_5); (try clear hfz34_0); (try clear hfz34_1); (try clear hfz34_2); (try clear hfz34_3); (try clear hfz34_4); (try clear hfz34_5); (try clear hfz36_0); (try clear hfz36_1); (try clear hfz36_2); (try clear hfz36_3); (try clear hfz36_4); (try clear hfz36_5); (try clear hfz38_0); (try clear hfz38_1); (try clear hfz38_2); (try clear hfz38_3); (try clear hfz38_4); (try clear hfz38_5); (try clear hfz40_0); (try clear hfz40_1); (try clear hfz40_2); (try clear hfz40_3); (try clear hfz40_4); (try clear hfz40_5); (try clear hfz41_0); (try clear hfz41_1); (try clear hfz41_2); (try clear hfz41_3); (try clear hfz41_4); (try clear hfz41_5); (try clear hfz43_0); (try clear hfz43_1); (try clear hfz43_2); (try clear hfz43_3); (try clear hfz43_4); (try clear hfz43_5); (try clear hfz45_0); (try clear hfz45_1); (try clear hfz45_2); (try clear hfz45_3); (try clear hfz45_4); (try clear hfz45_5); (try clear hfz47_0); (try clear hfz47_1); (try clear hfz47_2); (try clear hfz47_3); (try clear hfz47_4); (try clear hfz47_5); (try clear hfz50_0); (try clear hfz50_1); (try clear hfz50_2); (try clear hfz50_3); (try clear hfz50_4); (try clear hfz50_5); (try clear hfz52_0); (try clear hfz52_1); (try clear hfz52_2); (try clear hfz52_3); (try clear hfz52_4); (try clear hfz52_5); (try clear hfz55_0); (try clear hfz55_1); (try clear hfz55_2); (try clear hfz55_3); (try clear hfz55_4); (try clear hfz55_5); (try clear hfz65_0); (try clear hfz65_1); (try clear hfz65_2); (try clear hfz65_3); (try clear hfz65_4); (try clear hfz65_5); (try clear hfz67_0); (try clear hfz67_1); (try clear hfz67_2); (try clear hfz67_3); (try clear hfz67_4); (try clear hfz67_5); (try clear p2)
                        obtain ⟨x8_4, x10_4, rfl, HA, HK4, HO_8, BK313, BK323, HB⟩ := hrel
                        cases gk with
                        | zero => exact absurd HA.out (by simp [laws_FnLayout.l1])
                        | succ k4 =>
                          have H := HA.out
                          clear HA
                          simp only [laws_FnLayout.l1] at H
                          by_cases c82 : x10_4 < t308
                          · rw [if_pos c82] at H
                            have c82b0 : decide (x10_4 < t308) = true := decide_eq_true c82
                            clear c82
                            (first | rw [c82b0] | (simp only [i64_w, i32_w]; rw [c82b0]) | skip)
                            by_cases c83 : t322 = true
                            · subst c83
                              have H1 : ((impl_HeadCell.f t307 t308 t309 t310 t311 t312 x10_4).bind fun t341 => (if x8_4.length < 17592186044416 then (laws_FnLayout.l1 k4 t314 true (x8_4 ++ [t341]) (wrap64 (x10_4 + 1)) t307 t308 t309 t310 t311 t312) else (none))) = some r := by rw [if_pos rfl] at H; exact H
                              clear H
                              have H := H1
                              clear H1
                              replace H := Option.bind_eq_some_iff.mp H
                              obtain ⟨t341, A840, H⟩ := H
                              replace H : (if x8_4.length < 17592186044416 then (laws_FnLayout.l1 k4 t314 true (x8_4 ++ [t341]) (wrap64 (x10_4 + 1)) t307 t308 t309 t310 t311 t312) else (none)) = some r := H
                              have A84 := Aside0.mk A840
                              clear A840
                              by_cases c85 : x8_4.length < 17592186044416
                              · rw [if_pos c85] at H
                                have LMc85 := Aside0.mk c85
                                clear c85
                                obtain ⟨y342, hy342⟩ : ∃ y_ : List Int, y_ = (x8_4 ++ [t341]) := ⟨_, rfl⟩
                                replace H : (laws_FnLayout.l1 k4 t314 true y342 (wrap64 (x10_4 + 1)) t307 t308 t309 t310 t311 t312) = some r := by first | (rw [hy342]; with_reducible exact H) | (have H2_ := (Option.bind_some _ _).symm.trans H; rw [hy342]; with_reducible exact H2_) | (have H2_ := (Option.bind_some _ _).symm.trans H; with_reducible exact H2_) | with_reducible exact H | (rw [hy342]; exact H) | exact H
                                have Ny342 := Aside0.mk hy342
                                clear hy342
                                have H' := Aside0.mk H
                                clear H
                                have hnb86 := NB313_323.out
                                have hnc86 := NB323_313.out
                                have hcz87_0 : wr.cell? ⟨gb313, 0, none⟩ = some (.int .i64 t307) := (blk_cell BK313.out 0).trans rfl
                                have hcz87_1 : wr.cell? ⟨gb313, 1, none⟩ = some (.int .i64 t308) := (blk_cell BK313.out 1).trans rfl
                                have hcz87_2 : wr.cell? ⟨gb313, 2, none⟩ = some (.int .i64 t309) := (blk_cell BK313.out 2).trans rfl
                                have hcz87_3 : wr.cell? ⟨gb313, 3, none⟩ = some (.int .i64 t310) := (blk_cell BK313.out 3).trans rfl
                                have hcz87_4 : wr.cell? ⟨gb313, 4, none⟩ = some (.int .i64 t311) := (blk_cell BK313.out 4).trans rfl
                                have hcz87_5 : wr.cell? ⟨gb313, 5, none⟩ = some (.int .i64 t312) := (blk_cell BK313.out 5).trans rfl
                                have hfz87_0 := blk_frozen BK313.out 0
                                have hfz87_1 := blk_frozen BK313.out 1
                                have hfz87_2 := blk_frozen BK313.out 2
                                have hfz87_3 := blk_frozen BK313.out 3
                                have hfz87_4 := blk_frozen BK313.out 4
                                have hfz87_5 := blk_frozen BK313.out 5
                                go_wp2_with (first | ((with_reducible refine gate_callee (f := 64) rfl ?_); refine goesL_ (some 87) rfl rfl Tryd.func64 (by kernel_rfl) rfl #[.agg #[.int .i64 t307, .int .i64 t308, .int .i64 t309, .int .i64 t310, .int .i64 t311, .int .i64 t312], .int .i64 x10_4] rfl (by (try simp only [List.map_toArray, List.map_cons, List.map_nil]); first | done | rfl | (simp only [List.length_drop, List.length_take]; rfl)) ?_; (with_reducible refine (impl_HeadCell.calls t307 t308 t309 t310 t311 t312 x10_4 t341 _ A84.out).mono ?_); rintro e w88 ⟨rfl, hb⟩; refine ⟨_, rfl, ?_⟩; have n0_ := Aside0.mk (Kd.R_below (by (with_reducible repeat (first | apply Kd.R_alloc | apply Kd.R_drewN | apply Kd.R_drew)); exact HO_8.out) hb); have n1_ := Aside0.mk (blk_below (g := gb313) (o := .cells #[.int .i64 t307, .int .i64 t308, .int .i64 t309, .int .i64 t310, .int .i64 t311, .int .i64 t312] 47 (0, 0)) (by (with_reducible repeat (first | refine blk_drewN ?_ _ | refine blk_drew ?_ | refine blk_alloc ?_ _)); exact BK313.out) hb); have n2_ := Aside0.mk (blk_below (g := gb323) (o := .cells #[.int .i64 t316, .int .i64 t317, .int .i64 t318, .int .i64 t319, .int .i64 t320, .int .i64 t321] 47 (0, 0)) (by (with_reducible repeat (first | refine blk_drewN ?_ _ | refine blk_drew ?_ | refine blk_alloc ?_ _)); exact BK323.out) hb); have n3_ := Aside0.mk (below_step (by repeat (first | (with_reducible first | exact HB.out | apply below_alloc | apply pw_below_drewN | apply below_drew1 | refine below_set ?_ GE313.out | refine below_set ?_ GE323.out) | exact HB.out)) hb); clear HO_8; clear BK313; clear BK323; clear HB; have HO_8 := n0_; have BK313 := n1_; have BK323 := n2_; have HB := n3_; clear n0_ n1_ n2_ n3_; (try clear hb); (try clear hb2); (try clear hk); (try clear hi)) | ((with_reducible refine gate_builtin (b := .append) (xs := #[.tmp 84, .tmp 88]) rfl ?_); (try (refine gate_guard (by rfl) ?_; dsimp only)); at_builtin; refine Kd.R_append (Kd.int .i64) (w0 := w) w.heap.size rfl (.tmp 84) (.tmp 88) 61 3 (.int .i64 0) 8 rfl Tryd.underlying61 info3 rfl (by decide) (by omega) u8 x8_4 t341 [.int .i64 t341] (fun _ => True) (fun _ => False) rfl rfl ?aP (fun _ hk => hk.elim) ?aF ?aO ?aB ?aS ?aL ?_; (case aP => exact rfl); (case aB => exact (by repeat (first | (with_reducible first | exact HB.out | apply below_alloc | apply pw_below_drewN | apply below_drew1 | refine below_set ?_ GE313.out | refine below_set ?_ GE323.out) | exact HB.out))); (case aF => exact (fun _ _ => trivial)); (case aO => exact (by (with_reducible repeat (first | apply Kd.R_alloc | apply Kd.R_drewN | apply Kd.R_drew)); exact HO_8.out)); (case aS => exact (below_size (by repeat (first | (with_reducible first | exact HB.out | apply below_alloc | apply pw_below_drewN | apply below_drew1 | refine below_set ?_ GE313.out | refine below_set ?_ GE323.out) | exact HB.out)))); (case aL => have := LMc85.out; omega); intro v343 w89 ho hb hg hat; rw [← Ny342.out] at ho; have n0_ := Aside0.mk (blk_grown (g := gb313) (o := .cells #[.int .i64 t307, .int .i64 t308, .int .i64 t309, .int .i64 t310, .int .i64 t311, .int .i64 t312] 47 (0, 0)) (by (with_reducible repeat (first | refine blk_drewN ?_ _ | refine blk_drew ?_ | refine blk_alloc ?_ _)); exact BK313.out) hg (Kd.R_ne HO_8.out BK313.out (by decide))); have n1_ := Aside0.mk (blk_grown (g := gb323) (o := .cells #[.int .i64 t316, .int .i64 t317, .int .i64 t318, .int .i64 t319, .int .i64 t320, .int .i64 t321] 47 (0, 0)) (by (with_reducible repeat (first | refine blk_drewN ?_ _ | refine blk_drew ?_ | refine blk_alloc ?_ _)); exact BK323.out) hg (Kd.R_ne HO_8.out BK323.out (by decide))); have n2_ := Aside0.mk (hb); have n3_ := Aside0.mk (ho); clear BK313; clear BK323; clear HB; clear HO_8; have BK313 := n0_; have BK323 := n1_; have HB := n2_; have HO344 := n3_; clear n0_ n1_ n2_ n3_; clear ho hb hg hat))
                                go_roundg k4
                                case measure => have := HJ7.out; have := HK2.out; have := HJ61.out; have := HK4.out; omega
                                case rel => exact ⟨(y342), (wrap64 (x10_4 + 1)), (by first | rfl | (simp; done) | (simp [*]; done) | (simp [*]; generalize ByteArray.toList _ = l_; cases l_ <;> rfl)), H', ⟨by have := HJ7.out; have := HK2.out; have := HJ61.out; have := HK4.out; omega⟩, ⟨by (with_reducible repeat (first | apply Kd.R_alloc | apply Kd.R_drewN | apply Kd.R_drew)); exact HO344.out⟩, ⟨by (with_reducible repeat (first | refine blk_drewN ?_ _ | refine blk_drew ?_ | refine blk_alloc ?_ _)); exact BK313.out⟩, ⟨by (with_reducible repeat (first | refine blk_drewN ?_ _ | refine blk_drew ?_ | refine blk_alloc ?_ _)); exact BK323.out⟩, ⟨by repeat (first | (with_reducible first | exact HB.out | apply below_alloc | apply pw_below_drewN | apply below_drew1 | refine below_set ?_ GE313.out | refine below_set ?_ GE323.out) | exact HB.out)⟩⟩
                              · rw [if_neg c85] at H
                                exact absurd H (by simp)
                            · replace c83 := Bool.eq_false_iff.mpr c83
                              subst c83
                              have H1 : (laws_FnLayout.j4 k4 t314 false x8_4 t307 t308 t309 t310 t311 t312) = some r := by rw [if_neg (show ¬ (false = true) by decide)] at H; exact H
                              clear H
                              have H := H1
                              clear H1
                              have H' := Aside0.mk H
                              clear H
                              have hnb90 := NB313_323.out
                              have hnc90 := NB323_313.out
                              have hcz91_0 : wr.cell? ⟨gb313, 0, none⟩ = some (.int .i64 t307) := (blk_cell BK313.out 0).trans rfl
                              have hcz91_1 : wr.cell? ⟨gb313, 1, none⟩ = some (.int .i64 t308) := (blk_cell BK313.out 1).trans rfl
                              have hcz91_2 : wr.cell? ⟨gb313, 2, none⟩ = some (.int .i64 t309) := (blk_cell BK313.out 2).trans rfl
                              have hcz91_3 : wr.cell? ⟨gb313, 3, none⟩ = some (.int .i64 t310) := (blk_cell BK313.out 3).trans rfl
                              have hcz91_4 : wr.cell? ⟨gb313, 4, none⟩ = some (.int .i64 t311) := (blk_cell BK313.out 4).trans rfl
                              have hcz91_5 : wr.cell? ⟨gb313, 5, none⟩ = some (.int .i64 t312) := (blk_cell BK313.out 5).trans rfl
                              have hfz91_0 := blk_frozen BK313.out 0
                              have hfz91_1 := blk_frozen BK313.out 1
                              have hfz91_2 := blk_frozen BK313.out 2
                              have hfz91_3 := blk_frozen BK313.out 3
                              have hfz91_4 := blk_frozen BK313.out 4
                              have hfz91_5 := blk_frozen BK313.out 5
                              go_wp2
                              go_meet
                              case rel => exact ⟨_, (x8_4), H', ⟨by have := HJ7.out; have := HK2.out; have := HJ61.out; have := HK4.out; first | omega | exact Nat.le_refl _⟩, ⟨by (with_reducible repeat (first | apply Kd.R_alloc | apply Kd.R_drewN | apply Kd.R_drew)); exact HO_8.out⟩, ⟨by (with_reducible repeat (first | refine blk_drewN ?_ _ | refine blk_drew ?_ | refine blk_alloc ?_ _)); exact BK313.out⟩, ⟨by (with_reducible repeat (first | refine blk_drewN ?_ _ | refine blk_drew ?_ | refine blk_alloc ?_ _)); exact BK323.out⟩, ⟨by repeat (first | (with_reducible first | exact HB.out | apply below_alloc | apply pw_below_drewN | apply below_drew1 | refine below_set ?_ GE313.out | refine below_set ?_ GE323.out) | exact HB.out)⟩⟩
                          · rw [if_neg c82] at H
                            have c82b0 : decide (x10_4 < t308) = false := decide_eq_false c82
                            clear c82
                            (first | rw [c82b0] | (simp only [i64_w, i32_w]; rw [c82b0]) | skip)
                            have H' := Aside0.mk H
                            clear H
                            have hnb92 := NB313_323.out
                            have hnc92 := NB323_313.out
                            have hcz93_0 : wr.cell? ⟨gb313, 0, none⟩ = some (.int .i64 t307) := (blk_cell BK313.out 0).trans rfl
                            have hcz93_1 : wr.cell? ⟨gb313, 1, none⟩ = some (.int .i64 t308) := (blk_cell BK313.out 1).trans rfl
                            have hcz93_2 : wr.cell? ⟨gb313, 2, none⟩ = some (.int .i64 t309) := (blk_cell BK313.out 2).trans rfl
                            have hcz93_3 : wr.cell? ⟨gb313, 3, none⟩ = some (.int .i64 t310) := (blk_cell BK313.out 3).trans rfl
                            have hcz93_4 : wr.cell? ⟨gb313, 4, none⟩ = some (.int .i64 t311) := (blk_cell BK313.out 4).trans rfl
                            have hcz93_5 : wr.cell? ⟨gb313, 5, none⟩ = some (.int .i64 t312) := (blk_cell BK313.out 5).trans rfl
                            have hfz93_0 := blk_frozen BK313.out 0
                            have hfz93_1 := blk_frozen BK313.out 1
                            have hfz93_2 := blk_frozen BK313.out 2
                            have hfz93_3 := blk_frozen BK313.out 3
                            have hfz93_4 := blk_frozen BK313.out 4
                            have hfz93_5 := blk_frozen BK313.out 5
                            go_wp2
                            go_meet
                            case rel => exact ⟨_, (x8_4), H', ⟨by have := HJ7.out; have := HK2.out; have := HJ61.out; have := HK4.out; first | omega | exact Nat.le_refl _⟩, ⟨by (with_reducible repeat (first | apply Kd.R_alloc | apply Kd.R_drewN | apply Kd.R_drew)); exact HO_8.out⟩, ⟨by (with_reducible repeat (first | refine blk_drewN ?_ _ | refine blk_drew ?_ | refine blk_alloc ?_ _)); exact BK313.out⟩, ⟨by (with_reducible repeat (first | refine blk_drewN ?_ _ | refine blk_drew ?_ | refine blk_alloc ?_ _)); exact BK323.out⟩, ⟨by repeat (first | (with_reducible first | exact HB.out | apply below_alloc | apply pw_below_drewN | apply below_drew1 | refine below_set ?_ GE313.out | refine below_set ?_ GE323.out) | exact HB.out)⟩⟩
                    case rest =>
                      clear HC81; (try clear c1); (try clear c2); (try clear p2); (try clear c3); (try clear c4); (try clear c5); (try clear c6); (try clear p6); (try clear c7); (try clear c8); (try clear c9); (try clear c10); (try clear c13); (try clear c17); (try clear c20); (try clear c20b0); (try clear c20b1); (try clear c22); (try clear c22b0); (try clear c22b1); (try clear c24); (try clear c24b0); (try clear c24b1); (try clear c24b2); (try clear c25); (try clear c32); (try clear c33); (try clear c42); (try clear c47); (try clear c49); (try clear c54); (try clear c55); (try clear c56); (try clear c57); (try clear c60); (try clear c61); (try clear c62); (try clear c63); (try clear c63b0); (try clear c64); (try clear p64); (try clear c66); (try clear c68); (try clear c72); (try clear c82); (try clear c82b0); (try clear c83); (try clear c85); (try clear c86); (try clear c90); (try clear c92); (try clear hcz11_0); (try clear hcz11_1); (try clear hcz11_2); (try clear hcz11_3); (try clear hcz11_4); (try clear hcz11_5); (try clear hcz13_0); (try clear hcz13_1); (try clear hcz13_2); (try clear hcz13_3); (try clear hcz13_4); (try clear hcz13_5); (try clear hcz18_0); (try clear hcz18_1); (try clear hcz18_2); (try clear hcz18_3); (try clear hcz18_4); (try clear hcz18_5); (try clear hcz26_0); (try clear hcz26_1); (try clear hcz26_2); (try clear hcz26_3); (try clear hcz26_4); (try clear hcz26_5); (try clear hcz28_0); (try clear hcz28_1); (try clear hcz28_2); (try clear hcz28_3); (try clear hcz28_4); (try clear hcz28_5); (try clear hcz30_0); (try clear hcz30_1); (try clear hcz30_2); (try clear hcz30_3); (try clear hcz30_4); (try clear hcz30_5); (try clear hcz34_0); (try clear hcz34_1); (try clear hcz34_2); (try clear hcz34_3); (try clear hcz34_4); (try clear hcz34_5); (try clear hcz36_0); (try clear hcz36_1); (try clear hcz36_2); (try clear hcz36_3); (try clear hcz36_4); (try clear hcz36_5); (try clear hcz38_0); (try clear hcz38_1); (try clear hcz38_2); (try clear hcz38_3); (try clear hcz38_4); (try clear hcz38_5); (try clear hcz40_0); (try clear hcz40_1); (try clear hcz40_2); (try clear hcz40_3); (try clear hcz40_4); (try clear hcz40_5); (try clear hcz41_0); (try clear hcz41_1); (try clear hcz41_2); (try clear hcz41_3); (try clear hcz41_4); (try clear hcz41_5); (try clear hcz43_0); (try clear hcz43_1); (try clear hcz43_2); (try clear hcz43_3); (try clear hcz43_4); (try clear hcz43_5); (try clear hcz45_0); (try clear hcz45_1); (try clear hcz45_2); (try clear hcz45_3); (try clear hcz45_4); (try clear hcz45_5); (try clear hcz47_0); (try clear hcz47_1); (try clear hcz47_2); (try clear hcz47_3); (try clear hcz47_4); (try clear hcz47_5); (try clear hcz50_0); (try clear hcz50_1); (try clear hcz50_2); (try clear hcz50_3); (try clear hcz50_4); (try clear hcz50_5); (try clear hcz52_0); (try clear hcz52_1); (try clear hcz52_2); (try clear hcz52_3); (try clear hcz52_4); (try clear hcz52_5); (try clear hcz55_0); (try clear hcz55_1); (try clear hcz55_2); (try clear hcz55_3); (try clear hcz55_4); (try clear hcz55_5); (try clear hcz65_0); (try clear hcz65_1); (try clear hcz65_2); (try clear hcz65_3); (try clear hcz65_4); (try clear hcz65_5); (try clear hcz67_0); (try clear hcz67_1); (try clear hcz67_2); (try clear hcz67_3); (try clear hcz67_4); (try clear hcz67_5); (try clear hcz87_0); (try clear hcz87_1); (try clear hcz87_2); (try clear hcz87_3); (try clear hcz87_4); (try clear hcz87_5); (try clear hcz91_0); (try clear hcz91_1); (try clear hcz91_2); (try clear hcz91_3); (try clear hcz91_4); (try clear hcz91_5); (try clear hcz93_0); (try clear hcz93_1); (try clear hcz93_2); (try clear hcz93_3); (try clear hcz93_4); (try clear hcz93_5); (try clear hfz11_0); (try clear hfz11_1); (try clear hfz11_2); (try clear hfz11_3); (try clear hfz11_4); (try clear hfz11_5); (try clear hfz13_0); (try clear hfz13_1); (try clear hfz13_2); (try clear hfz13_3); (try clear hfz13_4); (try clear hfz13_5); (try clear hfz18_0); (try clear hfz18_1); (try clear hfz18_2); (try clear hfz18_3); (try clear hfz18_4); (try clear hfz18_5); (try clear hfz26_0); (try clear hfz26_1); (try clear hfz26_2); (try clear hfz26_3); (try clear hfz26_4); (try clear hfz26_5); (try clear hfz28_0); (try clear hfz28_1); (try clear hfz28_2); (try clear hfz28_3); (try clear hfz28_4); (try clear hfz28_5); (try clear hfz30_0); (try clear hfz30_1); (try clear hfz30_2); (try clear hfz30_3); (try clear hfz30_4); (try clear hfz30_5); (try clear hfz34_0); (try clear hfz34_1); (try clear hfz34_2); (try clear hfz34_3); (try clear hfz34_4); (try clear hfz34_5); (try clear hfz36_0); (try clear hfz36_1); (try clear hfz36_2); (try clear hfz36_3); (try clear hfz36_4); (try clear hfz36_5); (try clear hfz38_0); (try clear hfz38_1); (try clear hfz38_2); (try clear hfz38_3); (try clear hfz38_4); (try clear hfz38_5); (try clear hfz40_0); (try clear hfz40_1); (try clear hfz40_2); (try clear hfz40_3); (try clear hfz40_4); (try clear hfz40_5); (try clear hfz41_0); (try clear hfz41_1); (try clear hfz41_2); (try clear hfz41_3); (try clear hfz41_4); (try clear hfz41_5); (try clear hfz43_0); (try clear hfz43_1); (try clear hfz43_2); (try clear hfz43_3); (try clear hfz43_4); (try clear hfz43_5); (try clear hfz45_0); (try clear hfz45_1); (try clear hfz45_2); (try clear hfz45_3); (try clear hfz45_4); (try clear hfz45_5); (try clear hfz47_0); (try clear hfz47_1); (try clear hfz47_2); (try clear hfz47_3); (try clear hfz47_4); (try clear hfz47_5); (try clear hfz50_0); (try clear hfz50_1); (try clear hfz50_2); (try clear hfz50_3); (try clear hfz50_4); (try clear hfz50_5); (try clear hfz52_0); (try clear hfz52_1); (try clear hfz52_2); (try clear hfz52_3); (try clear hfz52_4); (try clear hfz52_5); (try clear hfz55_0); (try clear hfz55_1); (try clear hfz55_2); (try clear hfz55_3); (try clear hfz55_4); (try clear hfz55_5); (try clear hfz65_0); (try clear hfz65_1); (try clear hfz65_2); (try clear hfz65_3); (try clear hfz65_4); (try clear hfz65_5); (try clear hfz67_0); (try clear hfz67_1); (try clear hfz67_2); (try clear hfz67_3); (try clear hfz67_4); (try clear hfz67_5); (try clear hfz87_0); (try clear hfz87_1); (try clear hfz87_2); (try clear hfz87_3); (try clear hfz87_4); (try clear hfz87_5); (try clear hfz91_0); (try clear hfz91_1); (try clear hfz91_2); (try clear hfz91_3); (try clear hfz91_4); (try clear hfz91_5); (try clear hfz93_0); (try clear hfz93_1); (try clear hfz93_2); (try clear hfz93_3); (try clear hfz93_4); (try clear hfz93_5); (try clear p2); (try clear p6); (try clear p64)
                      obtain ⟨kq, x8_80, HA, HJ80, HO_8, BK313, BK323, HB⟩ := hcut
                      cases kq with
                      | zero => exact absurd HA.out (by simp [laws_FnLayout.j4])
                      | succ kj80 =>
                        have H := HA.out
                        clear HA
                        simp only [laws_FnLayout.j4] at H
                        have H' := Aside0.mk H
                        clear H
                        go_wp2
                        go_loopg [8, 11] kj80 (fun kq v8 v11 w' => ∃ (x8_5 : List Int) (x11_5 : Int), v11 = .int .i64 x11_5 ∧ Aside0 (laws_FnLayout.l2 kq t314 t322 x8_5 x11_5 t307 t308 t309 t310 t311 t312 = some r) ∧ Aside0 (kq ≤ kj80) ∧ Aside0 (Kd.R (Kd.int .i64) 3 w' w.heap.size (fun _ => True) v8 x8_5) ∧ Aside0 (w'.heap[gb313]? = some (.cells #[.int .i64 t307, .int .i64 t308, .int .i64 t309, .int .i64 t310, .int .i64 t311, .int .i64 t312] 47 (0, 0))) ∧ Aside0 (w'.heap[gb323]? = some (.cells #[.int .i64 t316, .int .i64 t317, .int .i64 t318, .int .i64 t319, .int .i64 t320, .int .i64 t321] 47 (0, 0))) ∧ Aside0 (Below w.heap.size w w'))
                        case atStart => exact ⟨(x8_80), (0), (by first | rfl | (simp; done) | (simp [*]; done) | (simp [*]; generalize ByteArray.toList _ = l_; cases l_ <;> rfl)), H', ⟨Nat.le_refl _⟩, ⟨by (with_reducible repeat (first | apply Kd.R_alloc | apply Kd.R_drewN | apply Kd.R_drew)); exact HO_8.out⟩, ⟨by (with_reducible repeat (first | refine blk_drewN ?_ _ | refine blk_drew ?_ | refine blk_alloc ?_ _)); exact BK313.out⟩, ⟨by (with_reducible repeat (first | refine blk_drewN ?_ _ | refine blk_drew ?_ | refine blk_alloc ?_ _)); exact BK323.out⟩, ⟨by repeat (first | (with_reducible first | exact HB.out | apply below_alloc | apply pw_below_drewN | apply below_drew1 | refine below_set ?_ GE313.out | refine below_set ?_ GE323.out) | exact HB.out)⟩⟩
                        case round =>
                          clear H'
                          (try clear c1); (try clear c2); (try clear p2); (try clear c3); (try clear c4); (try clear c5); (try clear c6); (try clear p6); (try clear c7); (try clear c8); (try clear c9); (try clear c10); (try clear c13); (try clear c17); (try clear c20); (try clear c20b0); (try clear c20b1); (try clear c22); (try clear c22b0); (try clear c22b1); (try clear c24); (try clear c24b0); (try clear c24b1); (try clear c24b2); (try clear c25); (try clear c32); (try clear c33); (try clear c42); (try clear c47); (try clear c49); (try clear c54); (try clear c55); (try clear c56); (try clear c57); (try clear c60); (try clear c61); (try clear c62); (try clear c63); (try clear c63b0); (try clear c64); (try clear p64); (try clear c66); (try clear c68); (try clear c72); (try clear c82); (try clear c82b0); (try clear c83); (try clear c85); (try clear c86); (try clear c90); (try clear c92); (try clear hcz11_0); (try clear hcz11_1); (try clear hcz11_2); (try clear hcz11_3); (try clear hcz11_4); (try clear hcz11_5); (try clear hcz13_0); (try clear hcz13_1); (try clear hcz13_2); (try clear hcz13_3); (try clear hcz13_4); (try clear hcz13_5); (try clear hcz18_0); (try clear hcz18_1); (try clear hcz18_2); (try clear hcz18_3); (try clear hcz18_4); (try clear hcz18_5); (try clear hcz26_0); (try clear hcz26_1); (try clear hcz26_2); (try clear hcz26_3); (try clear hcz26_4); (try clear hcz26_5); (try clear hcz28_0); (try clear hcz28_1); (try clear hcz28_2); (try clear hcz28_3); (try clear hcz28_4); (try clear hcz28_5); (try clear hcz30_0); (try clear hcz30_1); (try clear hcz30_2); (try clear hcz30_3); (try clear hcz30_4); (try clear hcz30_5); (try clear hcz34_0); (try clear hcz34_1); (try clear hcz34_2); (try clear hcz34_3); (try clear hcz34_4); (try clear hcz34_5); (try clear hcz36_0); (try clear hcz36_1); (try clear hcz36_2); (try clear hcz36_3); (try clear hcz36_4); (try clear hcz36_5); (try clear hcz38_0); (try clear hcz38_1); (try clear hcz38_2); (try clear hcz38_3); (try clear hcz38_4); (try clear hcz38_5); (try clear hcz40_0); (try clear hcz40_1); (try clear hcz40_2); (try clear hcz40_3); (try clear hcz40_4); (try clear hcz40_5); (try clear hcz41_0); (try clear hcz41_1); (try clear hcz41_2); (try clear hcz41_3); (try clear hcz41_4); (try clear hcz41_5); (try clear hcz43_0); (try clear hcz43_1); (try clear hcz43_2); (try clear hcz43_3); (try clear hcz43_4); (try clear hcz43_5); (try clear hcz45_0); (try clear hcz45_1); (try clear hcz45_2); (try clear hcz45_3); (try clear hcz45_4); (try clear hcz45_5); (try clear hcz47_0); (try clear hcz47_1); (try clear hcz47_2); (try clear hcz47_3); (try clear hcz47_4); (try clear hcz47_5); (try clear hcz50_0); (try clear hcz50_1); (try clear hcz50_2); (try clear hcz50_3); (try clear hcz50_4); (try clear hcz50_5); (try clear hcz52_0); (try clear hcz52_1); (try clear hcz52_2); (try clear hcz52_3); (try clear hcz52_4); (try clear hcz52_5); (try clear hcz55_0); (try clear hcz55_1); (try clear hcz55_2); (try clear hcz55_3); (try clear hcz55_4); (try clear hcz55_5); (try clear hcz65_0); (try clear hcz65_1); (try clear hcz65_2); (try clear hcz65_3); (try clear hcz65_4); (try clear hcz65_5); (try clear hcz67_0); (try clear hcz67_1); (try clear hcz67_2); (try clear hcz67_3); (try clear hcz67_4); (try clear hcz67_5); (try clear hcz87_0); (try clear hcz87_1); (try clear hcz87_2); (try clear hcz87_3); (try clear hcz87_4); (try clear hcz87_5); (try clear hcz91_0); (try clear hcz91_1); (try clear hcz91_2); (try clear hcz91_3); (try clear hcz91_4); (try clear hcz91_5); (try clear hcz93_0); (try clear hcz93_1); (try clear hcz93_2); (try clear hcz93_3); (try clear hcz93_4); (try clear hcz93_5); (try clear hfz11_0); (try clear hfz11_1); (try clear hfz11_2); (try clear hfz11_3); (try clear hfz11_4); (try clear hfz11_5); (try clear hfz13_0); (try clear hfz13_1); (try clear hfz13_2); (try clear hfz13_3); (try clear hfz13_4); (try clear hfz13_5); (try clear hfz18_0); (try clear hfz18_1); (try clear hfz18_2); (try clear hfz18_3); (try clear hfz18_4); (try clear hfz18_5); (try clear hfz26_0); (try clear hfz26_1); (try clear hfz26_2); (try clear hfz26_3); (try clear hfz26_4); (try clear hfz26_5); (try clear hfz28_0); (try clear hfz28_1); (try clear hfz28_2); (try clear hfz28_3); (try clear hfz28_4); (try clear hfz28_5); (try clear hfz30_0); (try clear hfz30_1); (try clear hfz30_2); (try clear hfz30_3); (try clear hfz30_4); (try clear hfz30_5); (try clear hfz34_0); (try clear hfz34_1); (try clear hfz34_2); (try clear hfz34_3); (try clear hfz34_4); (try clear hfz34_5); (try clear hfz36_0); (try clear hfz36_1); (try clear hfz36_2); (try clear hfz36_3); (try clear hfz36_4); (try clear hfz36_5); (try clear hfz38_0); (try clear hfz38_1); (try clear hfz38_2); (try clear hfz38_3); (try clear hfz38_4); (try clear hfz38_5); (try clear hfz40_0); (try clear hfz40_1); (try clear hfz40_2); (try clear hfz40_3); (try clear hfz40_4); (try clear hfz40_5); (try clear hfz41_0); (try clear hfz41_1); (try clear hfz41_2); (try clear hfz41_3); (try clear hfz41_4); (try clear hfz41_5); (try clear hfz43_0); (try clear hfz43_1); (try clear hfz43_2); (try clear hfz43_3); (try clear hfz43_4); (try clear hfz43_5); (try clear hfz45_0); (try clear hfz45_1); (try clear hfz45_2); (try clear hfz45_3); (try clear hfz45_4); (try clear hfz45_5); (try clear hfz47_0); (try clear hfz47_1); (try clear hfz47_2); (try clear hfz47_3); (try clear hfz47_4); (try clear hfz47_5); (try clear hfz50_0); (try clear hfz50_1); (try clear hfz50_2); (try clear hfz50_3); (try clear hfz50_4); (try clear hfz50_5); (try clear hfz52_0); (try clear hfz52_1); (try clear hfz52_2); (try clear hfz52_3); (try clear hfz52_4); (try clear hfz52_5); (try clear hfz55_0); (try clear hfz55_1); (try clear hfz55_2); (try clear hfz55_3); (try clear hfz55_4); (try clear hfz55_5); (try clear hfz65_0); (try clear hfz65_1); (try clear hfz65_2); (try clear hfz65_3); (try clear hfz65_4); (try clear hfz65_5); (try clear hfz67_0); (try clear hfz67_1); (try clear hfz67_2); (try clear hfz67_3); (try clear hfz67_4); (try clear hfz67_5); (try clear hfz87_0); (try clear hfz87_1); (try clear hfz87_2); (try clear hfz87_3); (try clear hfz87_4); (try clear hfz87_5); (try clear hfz91_0); (try clear hfz91_1); (try clear hfz91_2); (try clear hfz91_3); (try clear hfz91_4); (try clear hfz91_5); (try clear hfz93_0); (try clear hfz93_1); (try clear hfz93_2); (try clear hfz93_3); (try clear hfz93_4); (try clear hfz93_5); (try clear p2); (try clear p6); (try clear p64)
                          obtain ⟨x8_5, x11_5, rfl, HA, HK5, HO_8, BK313, BK323, HB⟩ := hrel
                          cases gk with
                          | zero => exact absurd HA.out (by simp [laws_FnLayout.l2])
                          | succ k5 =>
                            have H := HA.out
                            clear HA
                            simp only [laws_FnLayout.l2] at H
                            have HC94 := Aside0.mk H
                            clear H
                            go_upto_region 19 with (fail)
                            go_cut [96] (fun v96 wc => ∃ (kq : Nat) (x96_93 : Bool), v96 = .bool x96_93 ∧ Aside0 (laws_FnLayout.j6 kq t314 t322 x8_5 x11_5 x96_93 t307 t308 t309 t310 t311 t312 = some r) ∧ Aside0 (kq ≤ k5) ∧ Aside0 (Kd.R (Kd.int .i64) 3 wc w.heap.size (fun _ => True) u8 x8_5) ∧ Aside0 (wc.heap[gb313]? = some (.cells #[.int .i64 t307, .int .i64 t308, .int .i64 t309, .int .i64 t310, .int .i64 t311, .int .i64 t312] 47 (0, 0))) ∧ Aside0 (wc.heap[gb323]? = some (.cells #[.int .i64 t316, .int .i64 t317, .int .i64 t318, .int .i64 t319, .int .i64 t320, .int .i64 t321] 47 (0, 0))) ∧ Aside0 (Below w.heap.size w wc))
                            case first =>
                              have H := HC94.out
                              clear HC94
                              by_cases c95 : x11_5 < t309
                              · rw [if_pos c95] at H
                                have c95b0 : decide (x11_5 < t309) = true := decide_eq_true c95
                                clear c95
                                (first | rw [c95b0] | (simp only [i64_w, i32_w]; rw [c95b0]) | skip)
                                have H' := Aside0.mk H
                                clear H
                                have hnb96 := NB313_323.out
                                have hnc96 := NB323_313.out
                                have hcz97_0 : wr.cell? ⟨gb313, 0, none⟩ = some (.int .i64 t307) := (blk_cell BK313.out 0).trans rfl
                                have hcz97_1 : wr.cell? ⟨gb313, 1, none⟩ = some (.int .i64 t308) := (blk_cell BK313.out 1).trans rfl
                                have hcz97_2 : wr.cell? ⟨gb313, 2, none⟩ = some (.int .i64 t309) := (blk_cell BK313.out 2).trans rfl
                                have hcz97_3 : wr.cell? ⟨gb313, 3, none⟩ = some (.int .i64 t310) := (blk_cell BK313.out 3).trans rfl
                                have hcz97_4 : wr.cell? ⟨gb313, 4, none⟩ = some (.int .i64 t311) := (blk_cell BK313.out 4).trans rfl
                                have hcz97_5 : wr.cell? ⟨gb313, 5, none⟩ = some (.int .i64 t312) := (blk_cell BK313.out 5).trans rfl
                                have hfz97_0 := blk_frozen BK313.out 0
                                have hfz97_1 := blk_frozen BK313.out 1
                                have hfz97_2 := blk_frozen BK313.out 2
                                have hfz97_3 := blk_frozen BK313.out 3
                                have hfz97_4 := blk_frozen BK313.out 4
                                have hfz97_5 := blk_frozen BK313.out 5
                                go_wp2
                                go_meet
                                case rel => exact ⟨_, (t322), (by first | rfl | (simp; done) | (simp [*]; done) | (simp [*]; generalize ByteArray.toList _ = l_; cases l_ <;> rfl)), H', ⟨by have := HJ7.out; have := HK2.out; have := HJ61.out; have := HJ80.out; have := HK5.out; first | omega | exact Nat.le_refl _⟩, ⟨by (with_reducible repeat (first | apply Kd.R_alloc | apply Kd.R_drewN | apply Kd.R_drew)); exact HO_8.out⟩, ⟨by (with_reducible repeat (first | refine blk_drewN ?_ _ | refine blk_drew ?_ | refine blk_alloc ?_ _)); exact BK313.out⟩, ⟨by (with_reducible repeat (first | refine blk_drewN ?_ _ | refine blk_drew ?_ | refine blk_alloc ?_ _)); exact BK323.out⟩, ⟨by repeat (first | (with_reducible first | exact HB.out | apply below_alloc | apply pw_below_drewN | apply below_drew1 | refine below_set ?_ GE313.out | refine below_set ?_ GE323.out) | exact HB.out)⟩⟩
                              · rw [if_neg c95] at H
                                have c95b0 : decide (x11_5 < t309) = false := decide_eq_false c95
                                clear c95
                                (first | rw [c95b0] | (simp only [i64_w, i32_w]; rw [c95b0]) | skip)
                                have H' := Aside0.mk H
                                clear H
                                have hnb98 := NB313_323.out
                                have hnc98 := NB323_313.out
                                have hcz99_0 : wr.cell? ⟨gb313, 0, none⟩ = some (.int .i64 t307) := (blk_cell BK313.out 0).trans rfl
                                have hcz99_1 : wr.cell? ⟨gb313, 1, none⟩ = some (.int .i64 t308) := (blk_cell BK313.out 1).trans rfl
                                have hcz99_2 : wr.cell? ⟨gb313, 2, none⟩ = some (.int .i64 t309) := (blk_cell BK313.out 2).trans rfl
                                have hcz99_3 : wr.cell? ⟨gb313, 3, none⟩ = some (.int .i64 t310) := (blk_cell BK313.out 3).trans rfl
                                have hcz99_4 : wr.cell? ⟨gb313, 4, none⟩ = some (.int .i64 t311) := (blk_cell BK313.out 4).trans rfl
                                have hcz99_5 : wr.cell? ⟨gb313, 5, none⟩ = some (.int .i64 t312) := (blk_cell BK313.out 5).trans rfl
                                have hfz99_0 := blk_frozen BK313.out 0
                                have hfz99_1 := blk_frozen BK313.out 1
                                have hfz99_2 := blk_frozen BK313.out 2
                                have hfz99_3 := blk_frozen BK313.out 3
                                have hfz99_4 := blk_frozen BK313.out 4
                                have hfz99_5 := blk_frozen BK313.out 5
                                go_wp2
                                go_meet
                                case rel => exact ⟨_, (false), (by first | rfl | (simp; done) | (simp [*]; done) | (simp [*]; generalize ByteArray.toList _ = l_; cases l_ <;> rfl)), H', ⟨by have := HJ7.out; have := HK2.out; have := HJ61.out; have := HJ80.out; have := HK5.out; first | omega | exact Nat.le_refl _⟩, ⟨by (with_reducible repeat (first | apply Kd.R_alloc | apply Kd.R_drewN | apply Kd.R_drew)); exact HO_8.out⟩, ⟨by (with_reducible repeat (first | refine blk_drewN ?_ _ | refine blk_drew ?_ | refine blk_alloc ?_ _)); exact BK313.out⟩, ⟨by (with_reducible repeat (first | refine blk_drewN ?_ _ | refine blk_drew ?_ | refine blk_alloc ?_ _)); exact BK323.out⟩, ⟨by repeat (first | (with_reducible first | exact HB.out | apply below_alloc | apply pw_below_drewN | apply below_drew1 | refine below_set ?_ GE313.out | refine below_set ?_ GE323.out) | exact HB.out)⟩⟩
                            case rest =>
                              clear HC94; (try clear c1); (try clear c2); (try clear p2); (try clear c3); (try clear c4); (try clear c5); (try clear c6); (try clear p6); (try clear c7); (try clear c8); (try clear c9); (try clear c10); (try clear c13); (try clear c17); (try clear c20); (try clear c20b0); (try clear c20b1); (try clear c22); (try clear c22b0); (try clear c22b1); (try clear c24); (try clear c24b0); (try clear c24b1); (try clear c24b2); (try clear c25); (try clear c32); (try clear c33); (try clear c42); (try clear c47); (try clear c49); (try clear c54); (try clear c55); (try clear c56); (try clear c57); (try clear c60); (try clear c61); (try clear c62); (try clear c63); (try clear c63b0); (try clear c64); (try clear p64); (try clear c66); (try clear c68); (try clear c72); (try clear c82); (try clear c82b0); (try clear c83); (try clear c85); (try clear c86); (try clear c90); (try clear c92); (try clear c95); (try clear c95b0); (try clear c96); (try clear c98); (try clear hcz11_0); (try clear hcz11_1); (try clear hcz11_2); (try clear hcz11_3); (try clear hcz11_4); (try clear hcz11_5); (try clear hcz13_0); (try clear hcz13_1); (try clear hcz13_2); (try clear hcz13_3); (try clear hcz13_4); (try clear hcz13_5); (try clear hcz18_0); (try clear hcz18_1); (try clear hcz18_2); (try clear hcz18_3); (try clear hcz18_4); (try clear hcz18_5); (try clear hcz26_0); (try clear hcz26_1); (try clear hcz26_2); (try clear hcz26_3); (try clear hcz26_4); (try clear hcz26_5); (try clear hcz28_0); (try clear hcz28_1); (try clear hcz28_2); (try clear hcz28_3); (try clear hcz28_4); (try clear hcz28_5); (try clear hcz30_0); (try clear hcz30_1); (try clear hcz30_2); (try clear hcz30_3); (try clear hcz30_4); (try clear hcz30_5); (try clear hcz34_0); (try clear hcz34_1); (try clear hcz34_2); (try clear hcz34_3); (try clear hcz34_4); (try clear hcz34_5); (try clear hcz36_0); (try clear hcz36_1); (try clear hcz36_2); (try clear hcz36_3); (try clear hcz36_4); (try clear hcz36_5); (try clear hcz38_0); (try clear hcz38_1); (try clear hcz38_2); (try clear hcz38_3); (try clear hcz38_4); (try clear hcz38_5); (try clear hcz40_0); (try clear hcz40_1); (try clear hcz40_2); (try clear hcz40_3); (try clear hcz40_4); (try clear hcz40_5); (try clear hcz41_0); (try clear hcz41_1); (try clear hcz41_2); (try clear hcz41_3); (try clear hcz41_4); (try clear hcz41_5); (try clear hcz43_0); (try clear hcz43_1); (try clear hcz43_2); (try clear hcz43_3); (try clear hcz43_4); (try clear hcz43_5); (try clear hcz45_0); (try clear hcz45_1); (try clear hcz45_2); (try clear hcz45_3); (try clear hcz45_4); (try clear hcz45_5); (try clear hcz47_0); (try clear hcz47_1); (try clear hcz47_2); (try clear hcz47_3); (try clear hcz47_4); (try clear hcz47_5); (try clear hcz50_0); (try clear hcz50_1); (try clear hcz50_2); (try clear hcz50_3); (try clear hcz50_4); (try clear hcz50_5); (try clear hcz52_0); (try clear hcz52_1); (try clear hcz52_2); (try clear hcz52_3); (try clear hcz52_4); (try clear hcz52_5); (try clear hcz55_0); (try clear hcz55_1); (try clear hcz55_2); (try clear hcz55_3); (try clear hcz55_4); (try clear hcz55_5); (try clear hcz65_0); (try clear hcz65_1); (try clear hcz65_2); (try clear hcz65_3); (try clear hcz65_4); (try clear hcz65_5); (try clear hcz67_0); (try clear hcz67_1); (try clear hcz67_2); (try clear hcz67_3); (try clear hcz67_4); (try clear hcz67_5); (try clear hcz87_0); (try clear hcz87_1); (try clear hcz87_2); (try clear hcz87_3); (try clear hcz87_4); (try clear hcz87_5); (try clear hcz91_0); (try clear hcz91_1); (try clear hcz91_2); (try clear hcz91_3); (try clear hcz91_4); (try clear hcz91_5); (try clear hcz93_0); (try clear hcz93_1); (try clear hcz93_2); (try clear hcz93_3); (try clear hcz93_4); (try clear hcz93_5); (try clear hcz97_0); (try clear hcz97_1); (try clear hcz97_2); (try clear hcz97_3); (try clear hcz97_4); (try clear hcz97_5); (try clear hcz99_0); (try clear hcz99_1); (try clear hcz99_2); (try clear hcz99_3); (try clear hcz99_4); (try clear hcz99_5); (try clear hfz11_0); (try clear hfz11_1); (try clear hfz11_2); (try clear hfz11_3); (try clear hfz11_4); (try clear hfz11_5); (try clear hfz13_0); (try clear hfz13_1); (try clear hfz13_2); (try clear hfz13_3); (try clear hfz13_4); (try clear hfz13_5); (try clear hfz18_0); (try clear hfz18_1); (try clear hfz18_2); (try clear hfz18_3); (try clear hfz18_4); (try clear hfz18_5); (try clear hfz26_0); (try clear hfz26_1); (try clear hfz26_2); (try clear hfz26_3); (try clear hfz26_4); (try clear hfz26_5); (try clear hfz28_0); (try clear hfz28_1); (try clear hfz28_2); (try clear hfz28_3); (try clear hfz28_4); (try clear hfz28_5); (try clear hfz30_0); (try clear hfz30_1); (try clear hfz30_2); (try clear hfz30_3); (try clear hfz30_4); (try clear hfz30_5); (try clear hfz34_0); (try clear hfz34_1); (try clear hfz34_2); (try clear hfz34_3); (try clear hfz34_4); (try clear hfz34_5); (try clear hfz36_0); (try clear hfz36_1); (try clear hfz36_2); (try clear hfz36_3); (try clear hfz36_4); (try clear hfz36_5); (try clear hfz38_0); (try clear hfz38_1); (try clear hfz38_2); (try clear hfz38_3); (try clear hfz38_4); (try clear hfz38_5); (try clear hfz40_0); (try clear hfz40_1); (try clear hfz40_2); (try clear hfz40_3); (try clear hfz40_4); (try clear hfz40_5); (try clear hfz41_0); (try clear hfz41_1); (try clear hfz41_2); (try clear hfz41_3); (try clear hfz41_4); (try clear hfz41_5); (try clear hfz43_0); (try clear hfz43_1); (try clear hfz43_2); (try clear hfz43_3); (try clear hfz43_4); (try clear hfz43_5); (try clear hfz45_0); (try clear hfz45_1); (try clear hfz45_2); (try clear hfz45_3); (try clear hfz45_4); (try clear hfz45_5); (try clear hfz47_0); (try clear hfz47_1); (try clear hfz47_2); (try clear hfz47_3); (try clear hfz47_4); (try clear hfz47_5); (try clear hfz50_0); (try clear hfz50_1); (try clear hfz50_2); (try clear hfz50_3); (try clear hfz50_4); (try clear hfz50_5); (try clear hfz52_0); (try clear hfz52_1); (try clear hfz52_2); (try clear hfz52_3); (try clear hfz52_4); (try clear hfz52_5); (try clear hfz55_0); (try clear hfz55_1); (try clear hfz55_2); (try clear hfz55_3); (try clear hfz55_4); (try clear hfz55_5); (try clear hfz65_0); (try clear hfz65_1); (try clear hfz65_2); (try clear hfz65_3); (try clear hfz65_4); (try clear hfz65_5); (try clear hfz67_0); (try clear hfz67_1); (try clear hfz67_2); (try clear hfz67_3); (try clear hfz67_4); (try clear hfz67_5); (try clear hfz87_0); (try clear hfz87_1); (try clear hfz87_2); (try clear hfz87_3); (try clear hfz87_4); (try clear hfz87_5); (try clear hfz91_0); (try clear hfz91_1); (try clear hfz91_2); (try clear hfz91_3); (try clear hfz91_4); (try clear hfz91_5); (try clear hfz93_0); (try clear hfz93_1); (try clear hfz93_2); (try clear hfz93_3); (try clear hfz93_4); (try clear hfz93_5); (try clear hfz97_0); (try clear hfz97_1); (try clear hfz97_2); (try clear hfz97_3); (try clear hfz97_4); (try clear hfz97_5); (try clear hfz99_0); (try clear hfz99_1); (try clear hfz99_2); (try clear hfz99_3); (try clear hfz99_4); (try clear hfz99_5); (try clear p2); (try clear p6); (try clear p64)
                              obtain ⟨kq, x96_93, rfl, HA, HJ93, HO_8, BK313, BK323, HB⟩ := hcut
                              cases kq with
                              | zero => exact absurd HA.out (by simp [laws_FnLayout.j6])
                              | succ kj93 =>
                                have H := HA.out
                                clear HA
                                simp only [laws_FnLayout.j6] at H
                                by_cases c100 : x96_93 = true
                                · subst c100
                                  have H1 : ((impl_NodeCell.f t307 t308 t309 t310 t311 t312 x11_5 0).bind fun t345 => ((impl_NodeCell.f t307 t308 t309 t310 t311 t312 x11_5 1).bind fun t346 => ((impl_NodeCell.f t307 t308 t309 t310 t311 t312 x11_5 2).bind fun t347 => ((some (([t345, t346, t347] : List Int) : List Int)).bind fun y348 => (if x8_5.length + y348.length < 17592186044416 then (laws_FnLayout.l2 kj93 t314 t322 (x8_5 ++ y348) (wrap64 (x11_5 + 1)) t307 t308 t309 t310 t311 t312) else (none)))))) = some r := by rw [if_pos rfl] at H; exact H
                                  clear H
                                  have H := H1
                                  clear H1
                                  replace H := Option.bind_eq_some_iff.mp H
                                  obtain ⟨t345, A1010, H⟩ := H
                                  replace H : ((impl_NodeCell.f t307 t308 t309 t310 t311 t312 x11_5 1).bind fun t346 => ((impl_NodeCell.f t307 t308 t309 t310 t311 t312 x11_5 2).bind fun t347 => ((some (([t345, t346, t347] : List Int) : List Int)).bind fun y348 => (if x8_5.length + y348.length < 17592186044416 then (laws_FnLayout.l2 kj93 t314 t322 (x8_5 ++ y348) (wrap64 (x11_5 + 1)) t307 t308 t309 t310 t311 t312) else (none))))) = some r := H
                                  have A101 := Aside0.mk A1010
                                  clear A1010
                                  replace H := Option.bind_eq_some_iff.mp H
                                  obtain ⟨t346, A1020, H⟩ := H
                                  replace H : ((impl_NodeCell.f t307 t308 t309 t310 t311 t312 x11_5 2).bind fun t347 => ((some (([t345, t346, t347] : List Int) : List Int)).bind fun y348 => (if x8_5.length + y348.length < 17592186044416 then (laws_FnLayout.l2 kj93 t314 t322 (x8_5 ++ y348) (wrap64 (x11_5 + 1)) t307 t308 t309 t310 t311 t312) else (none)))) = some r := H
                                  have A102 := Aside0.mk A1020
                                  clear A1020
                                  replace H := Option.bind_eq_some_iff.mp H
                                  obtain ⟨t347, A1030, H⟩ := H
                                  replace H : ((some (([t345, t346, t347] : List Int) : List Int)).bind fun y348 => (if x8_5.length + y348.length < 17592186044416 then (laws_FnLayout.l2 kj93 t314 t322 (x8_5 ++ y348) (wrap64 (x11_5 + 1)) t307 t308 t309 t310 t311 t312) else (none))) = some r := H
                                  have A103 := Aside0.mk A1030
                                  clear A1030
                                  obtain ⟨y348, hy348⟩ : ∃ y_ : List Int, y_ = (([t345, t346, t347] : List Int)) := ⟨_, rfl⟩
                                  replace H : (if x8_5.length + y348.length < 17592186044416 then (laws_FnLayout.l2 kj93 t314 t322 (x8_5 ++ y348) (wrap64 (x11_5 + 1)) t307 t308 t309 t310 t311 t312) else (none)) = some r := by first | (rw [hy348]; with_reducible exact H) | (have H2_ := (Option.bind_some _ _).symm.trans H; rw [hy348]; with_reducible exact H2_) | (have H2_ := (Option.bind_some _ _).symm.trans H; with_reducible exact H2_) | with_reducible exact H | (rw [hy348]; exact H) | exact H
                                  have Ny348 := Aside0.mk hy348
                                  clear hy348
                                  by_cases c104 : x8_5.length + y348.length < 17592186044416
                                  · rw [if_pos c104] at H
                                    have LMc104 := Aside0.mk c104
                                    clear c104
                                    obtain ⟨y351, hy351⟩ : ∃ y_ : List Int, y_ = (x8_5 ++ y348) := ⟨_, rfl⟩
                                    replace H : (laws_FnLayout.l2 kj93 t314 t322 y351 (wrap64 (x11_5 + 1)) t307 t308 t309 t310 t311 t312) = some r := by first | (rw [hy351]; with_reducible exact H) | (have H2_ := (Option.bind_some _ _).symm.trans H; rw [hy351]; with_reducible exact H2_) | (have H2_ := (Option.bind_some _ _).symm.trans H; with_reducible exact H2_) | with_reducible exact H | (rw [hy351]; exact H) | exact H
                                    have Ny351 := Aside0.mk hy351
                                    clear hy351
                                    have H' := Aside0.mk H
                                    clear H
                                    try go_wp2
                                    have n0_ := Aside0.mk (Kd.R_drew HO_8.out)
                                    have n1_ := Aside0.mk (blk_drew BK313.out)
                                    have n2_ := Aside0.mk (blk_drew BK323.out)
                                    have n3_ := Aside0.mk (below_drew1 HB.out)
                                    clear HO_8; clear BK313; clear BK323; clear HB; have HO_8 := n0_; have BK313 := n1_; have BK323 := n2_; have HB := n3_; clear n0_ n1_ n2_ n3_
                                    refine start_ (n := 13) (S := fun w' => w'.cell? ⟨gb313, 0, none⟩ = some (.int .i64 t307) ∧ w'.cell? ⟨gb313, 1, none⟩ = some (.int .i64 t308) ∧ w'.cell? ⟨gb313, 2, none⟩ = some (.int .i64 t309) ∧ w'.cell? ⟨gb313, 3, none⟩ = some (.int .i64 t310) ∧ w'.cell? ⟨gb313, 4, none⟩ = some (.int .i64 t311) ∧ w'.cell? ⟨gb313, 5, none⟩ = some (.int .i64 t312)) (ds := []) #[false, false, false, false, false, false, false, false, false, false, false, false, false] (by kernel_rfl) rfl rfl ⟨(blk_cell BK313.out 0).trans rfl, (blk_cell BK313.out 1).trans rfl, (blk_cell BK313.out 2).trans rfl, (blk_cell BK313.out 3).trans rfl, (blk_cell BK313.out 4).trans rfl, (blk_cell BK313.out 5).trans rfl⟩ (fun hHeld => ?_); refine with_tabW laws_FnLayout.tab21 laws_FnLayout.bits21 (fun HT_ HW_ => ?_)
                                    generalize wc.drew = w105 at HO_8 BK313 BK323 HB hHeld ⊢
                                    refine pure_ (i := 0) (N := some 99) (v := ?_) (a' := ?_) #[true, false, false, false, false, false, false, false, false, false, false, false, false] rfl rfl (any_of HT_.out (by kernel_rfl)) (fun _ _ _ h => h) (Or.inl ⟨by rfl, ?_⟩) ?_ ?_
                                    rotate_left
                                    · intro w'; go_simp; with_reducible rfl
                                    rotate_left
                                    · simp only [Act.put, List.setIfInBounds_toArray, List.set_cons_zero, List.set_cons_succ, i64_w, i32_w]; rfl
                                    refine pure_ (i := 2) (N := some 101) (v := ?_) (a' := ?_) #[true, false, true, false, false, false, false, false, false, false, false, false, false] rfl rfl (any_of HT_.out (by kernel_rfl)) (fun _ _ _ h => h) (Or.inl ⟨by rfl, ?_⟩) ?_ ?_
                                    rotate_left
                                    · intro w'; go_simp; with_reducible rfl
                                    rotate_left
                                    · simp only [Act.put, List.setIfInBounds_toArray, List.set_cons_zero, List.set_cons_succ, i64_w, i32_w]; rfl
                                    refine pure_ (i := 5) (N := some 104) (v := ?_) (a' := ?_) #[true, false, true, false, false, true, false, false, false, false, false, false, false] rfl rfl (any_of HT_.out (by kernel_rfl)) (fun _ _ _ h => h) (Or.inl ⟨by rfl, ?_⟩) ?_ ?_
                                    rotate_left
                                    · intro w'; go_simp; with_reducible rfl
                                    rotate_left
                                    · simp only [Act.put, List.setIfInBounds_toArray, List.set_cons_zero, List.set_cons_succ, i64_w, i32_w]; rfl
                                    refine pure_ (i := 8) (N := some 107) (v := ?_) (a' := ?_) #[true, false, true, false, false, true, false, false, true, false, false, false, false] rfl rfl (any_of HT_.out (by kernel_rfl)) (fun _ _ _ h => h) (Or.inl ⟨by rfl, ?_⟩) ?_ ?_
                                    rotate_left
                                    · intro w'; go_simp; with_reducible rfl
                                    rotate_left
                                    · simp only [Act.put, List.setIfInBounds_toArray, List.set_cons_zero, List.set_cons_succ, i64_w, i32_w]; rfl
                                    refine take_ (i := 1) (N := some 100) (v := ?_) (a' := ?_) #[true, true, true, false, false, true, false, false, true, false, false, false, false] rfl rfl (take_ofW HT_.out HW_.out (by kernel_rfl)) (fun _ _ _ h => h) (Or.inl ⟨by rfl, ?_⟩) hHeld ?_ ?_
                                    rotate_left
                                    · rintro w' ⟨s0, s1, s2, s3, s4, s5⟩; go_simp; with_reducible rfl
                                    rotate_left
                                    · simp only [Act.put, List.setIfInBounds_toArray, List.set_cons_zero, List.set_cons_succ, i64_w, i32_w]; rfl
                                    refine take_ (i := 4) (N := some 103) (v := ?_) (a' := ?_) #[true, true, true, false, true, true, false, false, true, false, false, false, false] rfl rfl (take_ofW HT_.out HW_.out (by kernel_rfl)) (fun _ _ _ h => h) (Or.inl ⟨by rfl, ?_⟩) hHeld ?_ ?_
                                    rotate_left
                                    · rintro w' ⟨s0, s1, s2, s3, s4, s5⟩; go_simp; with_reducible rfl
                                    rotate_left
                                    · simp only [Act.put, List.setIfInBounds_toArray, List.set_cons_zero, List.set_cons_succ, i64_w, i32_w]; rfl
                                    refine take_ (i := 7) (N := some 106) (v := ?_) (a' := ?_) #[true, true, true, false, true, true, false, true, true, false, false, false, false] rfl rfl (take_ofW HT_.out HW_.out (by kernel_rfl)) (fun _ _ _ h => h) (Or.inl ⟨by rfl, ?_⟩) hHeld ?_ ?_
                                    rotate_left
                                    · rintro w' ⟨s0, s1, s2, s3, s4, s5⟩; go_simp; with_reducible rfl
                                    rotate_left
                                    · simp only [Act.put, List.setIfInBounds_toArray, List.set_cons_zero, List.set_cons_succ, i64_w, i32_w]; rfl
                                    refine one_ (i := 3) (N := some 102) #[true, true, true, true, true, true, false, true, true, false, false, false, false] rfl rfl (one_of HT_.out (by kernel_rfl)) (by decide) (fun K hK => ?_)
                                    refine goes_ Tryd.func65 (by kernel_rfl) rfl #[.agg #[.int .i64 t307, .int .i64 t308, .int .i64 t309, .int .i64 t310, .int .i64 t311, .int .i64 t312], .int .i64 x11_5, .int .i64 0] (by rfl) rfl rfl (by (try simp only [List.map_toArray, List.map_cons, List.map_nil]); first | done | rfl | (simp only [List.length_drop, List.length_take]; rfl)) ?_
                                    with_reducible refine (impl_NodeCell.calls t307 t308 t309 t310 t311 t312 x11_5 0 t345 _ A101.out).mono ?_
                                    rintro e w106 ⟨rfl, hb⟩
                                    refine ⟨_, rfl, ?_⟩
                                    have n0_ := Aside0.mk (Kd.R_below (by (with_reducible repeat (first | apply Kd.R_alloc | apply Kd.R_drewN | apply Kd.R_drew)); exact HO_8.out) hb)
                                    have n1_ := Aside0.mk (blk_below (g := gb313) (o := .cells #[.int .i64 t307, .int .i64 t308, .int .i64 t309, .int .i64 t310, .int .i64 t311, .int .i64 t312] 47 (0, 0)) (by (with_reducible repeat (first | refine blk_drewN ?_ _ | refine blk_drew ?_ | refine blk_alloc ?_ _)); exact BK313.out) hb)
                                    have n2_ := Aside0.mk (blk_below (g := gb323) (o := .cells #[.int .i64 t316, .int .i64 t317, .int .i64 t318, .int .i64 t319, .int .i64 t320, .int .i64 t321] 47 (0, 0)) (by (with_reducible repeat (first | refine blk_drewN ?_ _ | refine blk_drew ?_ | refine blk_alloc ?_ _)); exact BK323.out) hb)
                                    have n3_ := Aside0.mk (below_step (by repeat (first | (with_reducible first | exact HB.out | apply below_alloc | apply pw_below_drewN | apply below_drew1 | refine below_set ?_ GE313.out | refine below_set ?_ GE323.out) | exact HB.out)) hb)
                                    clear HO_8; clear BK313; clear BK323; clear HB; have HO_8 := n0_; have BK313 := n1_; have BK323 := n2_; have HB := n3_; clear n0_ n1_ n2_ n3_
                                    (try clear hb)
                                    (try clear hb2)
                                    (try clear hk)
                                    (try clear hi)
                                    refine hK.out _ _ ⟨(blk_cell BK313.out 0).trans rfl, (blk_cell BK313.out 1).trans rfl, (blk_cell BK313.out 2).trans rfl, (blk_cell BK313.out 3).trans rfl, (blk_cell BK313.out 4).trans rfl, (blk_cell BK313.out 5).trans rfl⟩ (fun hHeld => ?_)
                                    clear hK K
                                    refine norm_ (a' := ?_) ?_ ?_
                                    rotate_left
                                    · show Act.put _ (some 102) _ = _
                                      simp only [Act.put, List.setIfInBounds_toArray, List.set_cons_zero, List.set_cons_succ, i64_w, i32_w]
                                      rfl
                                    refine one_ (i := 6) (N := some 105) #[true, true, true, true, true, true, true, true, true, false, false, false, false] rfl rfl (one_of HT_.out (by kernel_rfl)) (by decide) (fun K hK => ?_)
                                    refine goes_ Tryd.func65 (by kernel_rfl) rfl #[.agg #[.int .i64 t307, .int .i64 t308, .int .i64 t309, .int .i64 t310, .int .i64 t311, .int .i64 t312], .int .i64 x11_5, .int .i64 1] (by rfl) rfl rfl (by (try simp only [List.map_toArray, List.map_cons, List.map_nil]); first | done | rfl | (simp only [List.length_drop, List.length_take]; rfl)) ?_
                                    with_reducible refine (impl_NodeCell.calls t307 t308 t309 t310 t311 t312 x11_5 1 t346 _ A102.out).mono ?_
                                    rintro e w107 ⟨rfl, hb⟩
                                    refine ⟨_, rfl, ?_⟩
                                    have n0_ := Aside0.mk (Kd.R_below (by (with_reducible repeat (first | apply Kd.R_alloc | apply Kd.R_drewN | apply Kd.R_drew)); exact HO_8.out) hb)
                                    have n1_ := Aside0.mk (blk_below (g := gb313) (o := .cells #[.int .i64 t307, .int .i64 t308, .int .i64 t309, .int .i64 t310, .int .i64 t311, .int .i64 t312] 47 (0, 0)) (by (with_reducible repeat (first | refine blk_drewN ?_ _ | refine blk_drew ?_ | refine blk_alloc ?_ _)); exact BK313.out) hb)
                                    have n2_ := Aside0.mk (blk_below (g := gb323) (o := .cells #[.int .i64 t316, .int .i64 t317, .int .i64 t318, .int .i64 t319, .int .i64 t320, .int .i64 t321] 47 (0, 0)) (by (with_reducible repeat (first | refine blk_drewN ?_ _ | refine blk_drew ?_ | refine blk_alloc ?_ _)); exact BK323.out) hb)
                                    have n3_ := Aside0.mk (below_step (by repeat (first | (with_reducible first | exact HB.out | apply below_alloc | apply pw_below_drewN | apply below_drew1 | refine below_set ?_ GE313.out | refine below_set ?_ GE323.out) | exact HB.out)) hb)
                                    clear HO_8; clear BK313; clear BK323; clear HB; have HO_8 := n0_; have BK313 := n1_; have BK323 := n2_; have HB := n3_; clear n0_ n1_ n2_ n3_
                                    (try clear hb)
                                    (try clear hb2)
                                    (try clear hk)
                                    (try clear hi)
                                    refine hK.out _ _ ⟨(blk_cell BK313.out 0).trans rfl, (blk_cell BK313.out 1).trans rfl, (blk_cell BK313.out 2).trans rfl, (blk_cell BK313.out 3).trans rfl, (blk_cell BK313.out 4).trans rfl, (blk_cell BK313.out 5).trans rfl⟩ (fun hHeld => ?_)
                                    clear hK K
                                    refine norm_ (a' := ?_) ?_ ?_
                                    rotate_left
                                    · show Act.put _ (some 105) _ = _
                                      simp only [Act.put, List.setIfInBounds_toArray, List.set_cons_zero, List.set_cons_succ, i64_w, i32_w]
                                      rfl
                                    refine one_ (i := 9) (N := some 108) #[true, true, true, true, true, true, true, true, true, true, false, false, false] rfl rfl (one_of HT_.out (by kernel_rfl)) (by decide) (fun K hK => ?_)
                                    refine goes_ Tryd.func65 (by kernel_rfl) rfl #[.agg #[.int .i64 t307, .int .i64 t308, .int .i64 t309, .int .i64 t310, .int .i64 t311, .int .i64 t312], .int .i64 x11_5, .int .i64 2] (by rfl) rfl rfl (by (try simp only [List.map_toArray, List.map_cons, List.map_nil]); first | done | rfl | (simp only [List.length_drop, List.length_take]; rfl)) ?_
                                    with_reducible refine (impl_NodeCell.calls t307 t308 t309 t310 t311 t312 x11_5 2 t347 _ A103.out).mono ?_
                                    rintro e w108 ⟨rfl, hb⟩
                                    refine ⟨_, rfl, ?_⟩
                                    have n0_ := Aside0.mk (Kd.R_below (by (with_reducible repeat (first | apply Kd.R_alloc | apply Kd.R_drewN | apply Kd.R_drew)); exact HO_8.out) hb)
                                    have n1_ := Aside0.mk (blk_below (g := gb313) (o := .cells #[.int .i64 t307, .int .i64 t308, .int .i64 t309, .int .i64 t310, .int .i64 t311, .int .i64 t312] 47 (0, 0)) (by (with_reducible repeat (first | refine blk_drewN ?_ _ | refine blk_drew ?_ | refine blk_alloc ?_ _)); exact BK313.out) hb)
                                    have n2_ := Aside0.mk (blk_below (g := gb323) (o := .cells #[.int .i64 t316, .int .i64 t317, .int .i64 t318, .int .i64 t319, .int .i64 t320, .int .i64 t321] 47 (0, 0)) (by (with_reducible repeat (first | refine blk_drewN ?_ _ | refine blk_drew ?_ | refine blk_alloc ?_ _)); exact BK323.out) hb)
                                    have n3_ := Aside0.mk (below_step (by repeat (first | (with_reducible first | exact HB.out | apply below_alloc | apply pw_below_drewN | apply below_drew1 | refine below_set ?_ GE313.out | refine below_set ?_ GE323.out) | exact HB.out)) hb)
                                    clear HO_8; clear BK313; clear BK323; clear HB; have HO_8 := n0_; have BK313 := n1_; have BK323 := n2_; have HB := n3_; clear n0_ n1_ n2_ n3_
                                    (try clear hb)
                                    (try clear hb2)
                                    (try clear hk)
                                    (try clear hi)
                                    refine hK.out _ _ ⟨(blk_cell BK313.out 0).trans rfl, (blk_cell BK313.out 1).trans rfl, (blk_cell BK313.out 2).trans rfl, (blk_cell BK313.out 3).trans rfl, (blk_cell BK313.out 4).trans rfl, (blk_cell BK313.out 5).trans rfl⟩ (fun hHeld => ?_)
                                    clear hK K
                                    refine norm_ (a' := ?_) ?_ ?_
                                    rotate_left
                                    · show Act.put _ (some 108) _ = _
                                      simp only [Act.put, List.setIfInBounds_toArray, List.set_cons_zero, List.set_cons_succ, i64_w, i32_w]
                                      rfl
                                    refine one_ (i := 10) (N := some 109) #[true, true, true, true, true, true, true, true, true, true, true, false, false] rfl rfl (one_of HT_.out (by kernel_rfl)) (by decide) (fun K hK => ?_)
                                    refine Kd.R_lit_step (Kd.int .i64) _ 3 ?hg (N := 109) ?hd (xs := ([t345, t346, t347] : List Int)) (inner := [.int .i64 t345, .int .i64 t346, .int .i64 t347]) (ok := fun _ => True) (okp := fun _ => True) ?hr ?hp (fun _ hk => hk) trivial (Below.refl _ _) (Nat.le_refl _) (by simp) ?_; (case hd => rfl); (case hg => rfl); (case hr => first | (go_simp; done) | (go_simp; rfl)); (case hp => exact (Reps.one (show Kd.M (Kd.int .i64) _ _ _ t345 [.int .i64 t345] from rfl) (Reps.one (show Kd.M (Kd.int .i64) _ _ _ t346 [.int .i64 t346] from rfl) (Reps.one (show Kd.M (Kd.int .i64) _ _ _ t347 [.int .i64 t347] from rfl) (Reps.none _ _)))))
                                    intro v349 w109 ho110 hb hg_ hnew_
                                    clear hg_ hnew_
                                    (first | rw [← Ny348.out] at ho110 | (simp only [Int.reduceToNat] at ho110; rw [← Ny348.out] at ho110))
                                    have n0_ := Aside0.mk (Kd.R_elder' (by (with_reducible repeat (first | apply Kd.R_alloc | apply Kd.R_drewN | apply Kd.R_drew)); exact HO_8.out) (Kd.R_base ho110) hb)
                                    have n1_ := Aside0.mk (Kd.R_lower (Kd.R_new' ho110 (Kd.R_lt (by (with_reducible repeat (first | apply Kd.R_alloc | apply Kd.R_drewN | apply Kd.R_drew)); exact HO_8.out))) (below_size (by repeat (first | (with_reducible first | exact HB.out | apply below_alloc | apply pw_below_drewN | apply below_drew1 | refine below_set ?_ GE313.out | refine below_set ?_ GE323.out) | exact HB.out))))
                                    have n2_ := Aside0.mk (blk_below (g := gb313) (o := .cells #[.int .i64 t307, .int .i64 t308, .int .i64 t309, .int .i64 t310, .int .i64 t311, .int .i64 t312] 47 (0, 0)) (by (with_reducible repeat (first | refine blk_drewN ?_ _ | refine blk_drew ?_ | refine blk_alloc ?_ _)); exact BK313.out) hb)
                                    have n3_ := Aside0.mk (blk_below (g := gb323) (o := .cells #[.int .i64 t316, .int .i64 t317, .int .i64 t318, .int .i64 t319, .int .i64 t320, .int .i64 t321] 47 (0, 0)) (by (with_reducible repeat (first | refine blk_drewN ?_ _ | refine blk_drew ?_ | refine blk_alloc ?_ _)); exact BK323.out) hb)
                                    have n4_ := Aside0.mk (below_step (by repeat (first | (with_reducible first | exact HB.out | apply below_alloc | apply pw_below_drewN | apply below_drew1 | refine below_set ?_ GE313.out | refine below_set ?_ GE323.out) | exact HB.out)) hb)
                                    clear HO_8; clear BK313; clear BK323; clear HB; have HO_8 := n0_; have HO350 := n1_; have BK313 := n2_; have BK323 := n3_; have HB := n4_; clear n0_ n1_ n2_ n3_ n4_; clear hb ho110
                                    obtain ⟨Ao112, co112, eo112⟩ := Kd.R_slice HO350.out
                                    (first | subst eo112 | (injection eo112 with f1_ f2_ f3_; have f4_ := f1_.symm; have f5_ := f3_.symm; clear f1_ f2_ f3_; subst f4_; subst f5_))
                                    refine hK.out _ _ ⟨(blk_cell BK313.out 0).trans rfl, (blk_cell BK313.out 1).trans rfl, (blk_cell BK313.out 2).trans rfl, (blk_cell BK313.out 3).trans rfl, (blk_cell BK313.out 4).trans rfl, (blk_cell BK313.out 5).trans rfl⟩ (fun hHeld => ?_)
                                    clear hK K
                                    refine norm_ (a' := ?_) ?_ ?_
                                    rotate_left
                                    · show Act.put _ (some 109) _ = _
                                      simp only [Act.put, List.setIfInBounds_toArray, List.set_cons_zero, List.set_cons_succ, i64_w, i32_w]
                                      rfl
                                    refine one_ (i := 11) (N := some 110) #[true, true, true, true, true, true, true, true, true, true, true, true, false] rfl rfl (one_of HT_.out (by kernel_rfl)) (by decide) (fun K hK => ?_)
                                    refine Kd.R_append_rows_step (Kd.int .i64) (w0 := w) w.heap.size (by rfl) (.tmp 99) (.tmp 109) 61 3 (.int .i64 0) 8 rfl Tryd.underlying61 info3 rfl (by decide) (by omega) u8 x8_5 y348 _ _ _ (fun k_ => some k_ ≠ (.slice Ao112 y348.length co112 : Value).ownBlock) (fun _ => False) rfl rfl ?aO ?aR (fun _ _ h => h) (fun _ h => h.elim) ?aF ?aB ?aS ?aL ?_
                                    (case aR => repeat (first | exact (Kd.R_reads' HO350.out).2.2 | (with_reducible refine Kd.C_alloc ?_ _) | (with_reducible refine Kd.C_drewN ?_ _) | (with_reducible refine Kd.C_drew ?_)))
                                    (case aB => exact (by repeat (first | (with_reducible first | exact HB.out | apply below_alloc | apply pw_below_drewN | apply below_drew1 | refine below_set ?_ GE313.out | refine below_set ?_ GE323.out) | exact HB.out)))
                                    (case aF => exact (fun k_ hk => Kd.fresh' (Kd.R_lt (by (with_reducible repeat (first | apply Kd.R_alloc | apply Kd.R_drewN | apply Kd.R_drew)); exact HO350.out)) k_ hk))
                                    (case aO => exact (by (with_reducible repeat (first | apply Kd.R_alloc | apply Kd.R_drewN | apply Kd.R_drew)); exact Kd.R_mono HO_8.out (fun _ hk => hk.2)))
                                    (case aS => exact (below_size (by repeat (first | (with_reducible first | exact HB.out | apply below_alloc | apply pw_below_drewN | apply below_drew1 | refine below_set ?_ GE313.out | refine below_set ?_ GE323.out) | exact HB.out))))
                                    (case aL => have := LMc104.out; omega)
                                    intro v352 w111 ho hb hg hat
                                    rw [← Ny351.out] at ho
                                    have n0_ := Aside0.mk (blk_grown (g := gb313) (o := .cells #[.int .i64 t307, .int .i64 t308, .int .i64 t309, .int .i64 t310, .int .i64 t311, .int .i64 t312] 47 (0, 0)) (by (with_reducible repeat (first | refine blk_drewN ?_ _ | refine blk_drew ?_ | refine blk_alloc ?_ _)); exact BK313.out) hg (Kd.R_ne HO_8.out BK313.out (by decide)))
                                    have n1_ := Aside0.mk (blk_grown (g := gb323) (o := .cells #[.int .i64 t316, .int .i64 t317, .int .i64 t318, .int .i64 t319, .int .i64 t320, .int .i64 t321] 47 (0, 0)) (by (with_reducible repeat (first | refine blk_drewN ?_ _ | refine blk_drew ?_ | refine blk_alloc ?_ _)); exact BK323.out) hg (Kd.R_ne HO_8.out BK323.out (by decide)))
                                    have n2_ := Aside0.mk (Kd.R_after (ok := (fun _ => True)) (by (with_reducible repeat (first | apply Kd.R_alloc | apply Kd.R_drewN | apply Kd.R_drew)); exact HO350.out) hg hat)
                                    have n3_ := Aside0.mk (hb)
                                    have n4_ := Aside0.mk (ho)
                                    clear BK313; clear BK323; clear HO350; clear HB; clear HO_8; have BK313 := n0_; have BK323 := n1_; have HO350 := n2_; have HB := n3_; have HO353 := n4_; clear n0_ n1_ n2_ n3_ n4_; clear ho hb hg hat
                                    refine hK.out _ _ ⟨(blk_cell BK313.out 0).trans rfl, (blk_cell BK313.out 1).trans rfl, (blk_cell BK313.out 2).trans rfl, (blk_cell BK313.out 3).trans rfl, (blk_cell BK313.out 4).trans rfl, (blk_cell BK313.out 5).trans rfl⟩ (fun hHeld => ?_)
                                    clear hK K
                                    refine norm_ (a' := ?_) ?_ ?_
                                    rotate_left
                                    · show Act.put _ (some 110) _ = _
                                      simp only [Act.put, List.setIfInBounds_toArray, List.set_cons_zero, List.set_cons_succ, i64_w, i32_w]
                                      rfl
                                    refine pure_ (i := 12) (N := some 8) (v := ?_) (a' := ?_) #[true, true, true, true, true, true, true, true, true, true, true, true, true] rfl rfl (any_of HT_.out (by kernel_rfl)) (fun _ _ _ h => h) (Or.inl ⟨by rfl, ?_⟩) ?_ ?_
                                    rotate_left
                                    · intro w'; go_simp; with_reducible rfl
                                    rotate_left
                                    · simp only [Act.put, List.setIfInBounds_toArray, List.set_cons_zero, List.set_cons_succ, i64_w, i32_w]; rfl
                                    refine done_ (done_of HT_.out (by kernel_rfl)) ?_
                                    try go_wp2
                                    go_roundg kj93
                                    case measure => have := HJ7.out; have := HK2.out; have := HJ61.out; have := HJ80.out; have := HK5.out; have := HJ93.out; omega
                                    case rel => exact ⟨(y351), (wrap64 (x11_5 + 1)), (by first | rfl | (simp; done) | (simp [*]; done) | (simp [*]; generalize ByteArray.toList _ = l_; cases l_ <;> rfl)), H', ⟨by have := HJ7.out; have := HK2.out; have := HJ61.out; have := HJ80.out; have := HK5.out; have := HJ93.out; omega⟩, ⟨by (with_reducible repeat (first | apply Kd.R_alloc | apply Kd.R_drewN | apply Kd.R_drew)); exact Kd.R_mono HO353.out (fun _ hk => trivial)⟩, ⟨by (with_reducible repeat (first | refine blk_drewN ?_ _ | refine blk_drew ?_ | refine blk_alloc ?_ _)); exact BK313.out⟩, ⟨by (with_reducible repeat (first | refine blk_drewN ?_ _ | refine blk_drew ?_ | refine blk_alloc ?_ _)); exact BK323.out⟩, ⟨by repeat (first | (with_reducible first | exact HB.out | apply below_alloc | apply pw_below_drewN | apply below_drew1 | refine below_set ?_ GE313.out | refine below_set ?_ GE323.out) | exact HB.out)⟩⟩
                                  · rw [if_neg c104] at H
                                    exact absurd H (by simp)
                                · replace c100 := Bool.eq_false_iff.mpr c100
                                  subst c100
                                  have H1 : (laws_FnLayout.l3 kj93 t314 t322 x8_5 0 t307 t308 t309 t310 t311 t312) = some r := by rw [if_neg (show ¬ (false = true) by decide)] at H; exact H
                                  clear H
                                  have H := H1
                                  clear H1
                                  have H' := Aside0.mk H
                                  clear H
                                  go_wp2
                                  go_loopg [12] kj93 (fun kq v12 w' => ∃ (x12_7 : Int), v12 = .int .i64 x12_7 ∧ Aside0 (laws_FnLayout.l3 kq t314 t322 x8_5 x12_7 t307 t308 t309 t310 t311 t312 = some r) ∧ Aside0 (kq ≤ kj93) ∧ Aside0 (Kd.R (Kd.int .i64) 3 w' w.heap.size (fun _ => True) u8 x8_5) ∧ Aside0 (w'.heap[gb313]? = some (.cells #[.int .i64 t307, .int .i64 t308, .int .i64 t309, .int .i64 t310, .int .i64 t311, .int .i64 t312] 47 (0, 0))) ∧ Aside0 (w'.heap[gb323]? = some (.cells #[.int .i64 t316, .int .i64 t317, .int .i64 t318, .int .i64 t319, .int .i64 t320, .int .i64 t321] 47 (0, 0))) ∧ Aside0 (Below w.heap.size w w'))
                                  case atStart => exact ⟨(0), (by first | rfl | (simp; done) | (simp [*]; done) | (simp [*]; generalize ByteArray.toList _ = l_; cases l_ <;> rfl)), H', ⟨Nat.le_refl _⟩, ⟨by (with_reducible repeat (first | apply Kd.R_alloc | apply Kd.R_drewN | apply Kd.R_drew)); exact HO_8.out⟩, ⟨by (with_reducible repeat (first | refine blk_drewN ?_ _ | refine blk_drew ?_ | refine blk_alloc ?_ _)); exact BK313.out⟩, ⟨by (with_reducible repeat (first | refine blk_drewN ?_ _ | refine blk_drew ?_ | refine blk_alloc ?_ _)); exact BK323.out⟩, ⟨by repeat (first | (with_reducible first | exact HB.out | apply below_alloc | apply pw_below_drewN | apply below_drew1 | refine below_set ?_ GE313.out | refine below_set ?_ GE323.out) | exact HB.out)⟩⟩
                                  case round =>
                                    clear H'
                                    (try clear c1); (try clear p2); (try clear c6); (try clear p6); (try clear c7); (try clear c8); (try clear c9); (try clear c10); (try clear c64); (try clear p64); (try clear c65); (try clear c66); (try clear c68); (try clear c72); (try clear c82); (try clear c82b0); (try clear c83); (try clear c85); (try clear c86); (try clear c90); (try clear c92); (try clear c95); (try clear c95b0); (try clear c96); (try clear c98); (try clear c100); (try clear c104); (try clear hcz11_0); (try clear hcz11_1); (try clear hcz11_2); (try clear hcz11_3); (try clear hcz11_4); (try clear hcz11_5); (try clear hcz13_0); (try clear hcz13_1); (try clear hcz13_2); (try clear hcz13_3); (try clear hcz13_4); (try clear hcz13_5); (try clear hcz18_0); (try clear hcz18_1); (try clear hcz18_2); (try clear hcz18_3); (try clear hcz18_4); (try clear hcz18_5); (try clear hcz26_0); (try clear hcz26_1); (try clear hcz26_2); (try clear hcz26_3); (try clear hcz26_4); (try clear hcz26_5); (try clear hcz28_0); (try clear hcz28_1); (try clear hcz28_2); (try clear hcz28_3); (try clear hcz28_4); (try clear hcz28_5); (try clear hcz30_0); (try clear hcz30_1); (try clear hcz30_2); (try clear hcz30_3); (try clear hcz30_4); (try clear hcz30_5); (try clear hcz34_0); (try clear hcz34_1); (try clear hcz34_2); (try clear hcz34_3); (try clear hcz34_4); (try clear hcz34_5); (try clear hcz36_0); (try clear hcz36_1); (try clear hcz36_2); (try clear hcz36_3); (try clear hcz36_4); (try clear hcz36_5); (try clear hcz38_0); (try clear hcz38_1); (try clear hcz38_2); (try clear hcz38_3); (try clear hcz38_4); (try clear hcz38_5); (try clear hcz40_0); (try clear hcz40_1); (try clear hcz40_2); (try clear hcz40_3); (try clear hcz40_4); (try clear hcz40_5); (try clear hcz41_0); (try clear hcz41_1); (try clear hcz41_2); (try clear hcz41_3); (try clear hcz41_4); (try clear hcz41_5); (try clear hcz43_0); (try clear hcz43_1); (try clear hcz43_2); (try clear hcz43_3); (try clear hcz43_4); (try clear hcz43_5); (try clear hcz45_0); (try clear hcz45_1); (try clear hcz45_2); (try clear hcz45_3); (try clear hcz45_4); (try clear hcz45_5); (try clear hcz47_0); (try clear hcz47_1); (try clear hcz47_2); (try clear hcz47_3); (try clear hcz47_4); (try clear hcz47_5); (try clear hcz50_0); (try clear hcz50_1); (try clear hcz50_2); (try clear hcz50_3); (try clear hcz50_4); (try clear hcz50_5); (try clear hcz52_0); (try clear hcz52_1); (try clear hcz52_2); (try clear hcz52_3); (try clear hcz52_4); (try clear hcz52_5); (try clear hcz55_0); (try clear hcz55_1); (try clear hcz55_2); (try clear hcz55_3); (try clear hcz55_4); (try clear hcz55_5); (try clear hcz65_0); (try clear hcz65_1); (try clear hcz65_2); (try clear hcz65_3); (try clear hcz65_4); (try clear hcz65_5); (try clear hcz67_0); (try clear hcz67_1); (try clear hcz67_2); (try clear hcz67_3); (try clear hcz67_4); (try clear hcz67_5); (try clear hcz87_0); (try clear hcz87_1); (try clear hcz87_2); (try clear hcz87_3); (try clear hcz87_4); (try clear hcz87_5); (try clear hcz91_0); (try clear hcz91_1); (try clear hcz91_2); (try clear hcz91_3); (try clear hcz91_4); (try clear hcz91_5); (try clear hcz93_0); (try clear hcz93_1); (try clear hcz93_2); (try clear hcz93_3); (try clear hcz93_4); (try clear hcz93_5); (try clear hcz97_0); (try clear hcz97_1); (try clear hcz97_2); (try clear hcz97_3); (try clear hcz97_4); (try clear hcz97_5); (try clear hcz99_0); (try clear hcz99_1); (try clear hcz99_2); (try clear hcz99_3); (try clear hcz99_4); (try clear hcz99_5); (try clear hfz11_0); (try clear hfz11_1); (try clear hfz11_2); (try clear hfz11_3); (try clear hfz11_4); (try clear hfz11_5); (try clear hfz13_0); (try clear hfz13_1); (try clear hfz13_2); (try clear hfz13_3); (try clear hfz13_4); (try clear hfz13_5); (try clear hfz18_0); (try clear hfz18_1); (try clear hfz18_2); (try clear hfz18_3); (try clear hfz18_4); (try clear hfz18_5); (try clear hfz26_0); (try clear hfz26_1); (try clear hfz26_2); (try clear hfz26_3); (try clear hfz26_4); (try clear hfz26_5); (try clear hfz28_0); (try clear hfz28_1); (try clear hfz28_2); (try clear hfz28_3); (try clear hfz28_4); (try clear hfz28_5); (try clear hfz30_0); (try clear hfz30_1); (try clear hfz30_2); (try clear hfz30_3); (try clear hfz30_4); (try clear hfz30_5); (try clear hfz34_0); (try clear hfz34_1); (try clear hfz34_2); (try clear hfz34_3); (try clear hfz34_4); (try clear hfz34_5); (try clear hfz36_0); (try clear hfz36_1); (try clear hfz36_2); (try clear hfz36_3); (try clear hfz36_4); (try clear hfz36_5); (try clear hfz38_0); (try clear hfz38_1); (try clear hfz38_2); (try clear hfz38_3); (try clear hfz38_4); (try clear hfz38_5); (try clear hfz40_0); (try clear hfz40_1); (try clear hfz40_2); (try clear hfz40_3); (try clear hfz40_4); (try clear hfz40_5); (try clear hfz41_0); (try clear hfz41_1); (try clear hfz41_2); (try clear hfz41_3); (try clear hfz41_4); (try clear hfz41_5); (try clear hfz43_0); (try clear hfz43_1); (try clear hfz43_2); (try clear hfz43_3); (try clear hfz43_4); (try clear hfz43_5); (try clear hfz45_0); (try clear hfz45_1); (try clear hfz45_2); (try clear hfz45_3); (try clear hfz45_4); (try clear hfz45_5); (try clear hfz47_0); (try clear hfz47_1); (try clear hfz47_2); (try clear hfz47_3); (try clear hfz47_4); (try clear hfz47_5); (try clear hfz50_0); (try clear hfz50_1); (try clear hfz50_2); (try clear hfz50_3); (try clear hfz50_4); (try clear hfz50_5); (try clear hfz52_0); (try clear hfz52_1); (try clear hfz52_2); (try clear hfz52_3); (try clear hfz52_4); (try clear hfz52_5); (try clear hfz55_0); (try clear hfz55_1); (try clear hfz55_2); (try clear hfz55_3); (try clear hfz55_4); (try clear hfz55_5); (try clear hfz65_0); (try clear hfz65_1); (try clear hfz65_2); (try clear hfz65_3); (try clear hfz65_4); (try clear hfz65_5); (try clear hfz67_0); (try clear hfz67_1); (try clear hfz67_2); (try clear hfz67_3); (try clear hfz67_4); (try clear hfz67_5); (try clear hfz87_0); (try clear hfz87_1); (try clear hfz87_2); (try clear hfz87_3); (try clear hfz87_4); (try clear hfz87_5); (try clear hfz91_0); (try clear hfz91_1); (try clear hfz91_2); (try clear hfz91_3); (try clear hfz91_4); (try clear hfz91_5); (try clear hfz93_0); (try clear hfz93_1); (try clear hfz93_2); (try clear hfz93_3); (try clear hfz93_4); (try clear hfz93_5); (try clear hfz97_0); (try clear hfz97_1); (try clear hfz97_2); (try clear hfz97_3); (try clear hfz97_4); (try clear hfz97_5); (try clear hfz99_0); (try clear hfz99_1); (try clear hfz99_2); (try clear hfz99_3); (try clear hfz99_4); (try clear hfz99_5); (try clear p2); (try clear p6); (try clear p64)
                                    obtain ⟨x12_7, rfl, HA, HK7, HO_8, BK313, BK323, HB⟩ := hrel
                                    cases gk with
                                    | zero => exact absurd HA.out (by simp [laws_FnLayout.l3])
                                    | succ k7 =>
                                      have H := HA.out
                                      clear HA
                                      simp only [laws_FnLayout.l3] at H
                                      by_cases c113 : x12_7 < t314
                                      · rw [if_pos c113] at H
                                        have c113b0 : decide (x12_7 < t314) = true := decide_eq_true c113
                                        clear c113
                                        replace H := Option.bind_eq_some_iff.mp H
                                        obtain ⟨t354, A1140, H⟩ := H
                                        replace H : (if t354 = true then (laws_FnLayout.l3 k7 t314 t322 x8_5 (wrap64 (x12_7 + 1)) t307 t308 t309 t310 t311 t312) else (none)) = some r := H
                                        have A114 := Aside0.mk A1140
                                        clear A1140
                                        by_cases c115 : t354 = true
                                        · subst c115
                                          have H1 : (laws_FnLayout.l3 k7 t314 t322 x8_5 (wrap64 (x12_7 + 1)) t307 t308 t309 t310 t311 t312) = some r := by rw [if_pos rfl] at H; exact H
                                          clear H
                                          have H := H1
                                          clear H1
                                          have H' := Aside0.mk H
                                          clear H
                                          obtain ⟨Ao116, co116, eo116⟩ := Kd.R_slice HO_8.out
                                          subst eo116
                                          go_wp2_with (first | ((with_reducible refine gate_callee (f := 66) rfl ?_); refine goesL_ (some 118) rfl rfl Tryd.func66 (by kernel_rfl) rfl #[.slice Ao116 x8_5.length co116, .int .i64 x12_7] rfl (by (try simp only [List.map_toArray, List.map_cons, List.map_nil]); first | done | rfl | (simp only [List.length_drop, List.length_take]; rfl)) ?_; (with_reducible refine (laws_has.calls k7 _ _ x8_5 x12_7 true _ ?side1 ?side2 A114.out).mono ?_); (case side1 => repeat (first | exact (Kd.R_reads' HO_8.out).2.2 | (with_reducible refine Kd.C_alloc ?_ _) | (with_reducible refine Kd.C_drewN ?_ _) | (with_reducible refine Kd.C_drew ?_))); (case side2 => exact (Kd.R_reads' HO_8.out).2.1); rintro e w' ⟨rfl, ⟨nd, rfl⟩⟩; refine ⟨_, rfl, ?_⟩))
                                          go_roundg k7
                                          case measure => have := HJ7.out; have := HK2.out; have := HJ61.out; have := HJ80.out; have := HK5.out; have := HJ93.out; have := HK7.out; omega
                                          case rel => exact ⟨(wrap64 (x12_7 + 1)), (by first | rfl | (simp; done) | (simp [*]; done) | (simp [*]; generalize ByteArray.toList _ = l_; cases l_ <;> rfl)), H', ⟨by have := HJ7.out; have := HK2.out; have := HJ61.out; have := HJ80.out; have := HK5.out; have := HJ93.out; have := HK7.out; omega⟩, ⟨by (with_reducible repeat (first | apply Kd.R_alloc | apply Kd.R_drewN | apply Kd.R_drew)); exact HO_8.out⟩, ⟨by (with_reducible repeat (first | refine blk_drewN ?_ _ | refine blk_drew ?_ | refine blk_alloc ?_ _)); exact BK313.out⟩, ⟨by (with_reducible repeat (first | refine blk_drewN ?_ _ | refine blk_drew ?_ | refine blk_alloc ?_ _)); exact BK323.out⟩, ⟨by repeat (first | (with_reducible first | exact HB.out | apply below_alloc | apply pw_below_drewN | apply below_drew1 | refine below_set ?_ GE313.out | refine below_set ?_ GE323.out) | exact HB.out)⟩⟩
                                        · replace c115 := Bool.eq_false_iff.mpr c115
                                          subst c115
                                          have H1 : (none) = some r := by rw [if_neg (show ¬ (false = true) by decide)] at H; exact H
                                          clear H
                                          have H := H1
                                          clear H1
                                          exact absurd H (by simp)
                                      · rw [if_neg c113] at H
                                        have c113b0 : decide (x12_7 < t314) = false := decide_eq_false c113
                                        clear c113
                                        replace H := Option.bind_eq_some_iff.mp H
                                        obtain ⟨t355, A1170, H⟩ := H
                                        replace H : (if t322 = true then (if (x8_5.length : Int) = t314 then (if (t355.length : Int) = t314 then ((spec_NewCells.f t307 t308 t309 t310 t311 t312).bind fun t358 => ((laws_sameInts.f k7 t355 t358).bind fun t361 => (some t361))) else (none)) else (none)) else (if (t355.length : Int) = t314 then ((spec_NewCells.f t307 t308 t309 t310 t311 t312).bind fun t362 => ((laws_sameInts.f k7 t355 t362).bind fun t365 => (some t365))) else (none))) = some r := H
                                        have A117 := Aside0.mk A1170
                                        clear A1170
                                        by_cases c118 : t322 = true
                                        · subst c118
                                          have H1 : (if (x8_5.length : Int) = t314 then (if (t355.length : Int) = t314 then ((spec_NewCells.f t307 t308 t309 t310 t311 t312).bind fun t358 => ((laws_sameInts.f k7 t355 t358).bind fun t361 => (some t361))) else (none)) else (none)) = some r := by rw [if_pos rfl] at H; exact H
                                          clear H
                                          have H := H1
                                          clear H1
                                          by_cases c119 : (x8_5.length : Int) = t314
                                          · rw [if_pos c119] at H
                                            have c119b0 : ((x8_5.length : Int) == t314) = true := beq_iff_eq.mpr c119
                                            have c119b1 : ((x8_5.length : Int) != t314) = false := bne_eq_false_iff_eq.mpr c119
                                            clear c119
                                            by_cases c120 : (t355.length : Int) = t314
                                            · rw [if_pos c120] at H
                                              have c120b0 : ((t355.length : Int) == t314) = true := beq_iff_eq.mpr c120
                                              have c120b1 : ((t355.length : Int) != t314) = false := bne_eq_false_iff_eq.mpr c120
                                              clear c120
                                              replace H := Option.bind_eq_some_iff.mp H
                                              obtain ⟨t358, A1210, H⟩ := H
                                              replace H : ((laws_sameInts.f k7 t355 t358).bind fun t361 => (some t361)) = some r := H
                                              have A121 := Aside0.mk A1210
                                              clear A1210
                                              replace H := Option.bind_eq_some_iff.mp H
                                              obtain ⟨t361, A1220, H⟩ := H
                                              replace H : (some t361) = some r := H
                                              have A122 := Aside0.mk A1220
                                              clear A1220
                                              obtain rfl := Option.some.inj H
                                              have hnb123 := NB313_323.out
                                              have hnc123 := NB323_313.out
                                              have hcz124_0 : wr.cell? ⟨gb313, 0, none⟩ = some (.int .i64 t307) := (blk_cell BK313.out 0).trans rfl
                                              have hcz124_1 : wr.cell? ⟨gb313, 1, none⟩ = some (.int .i64 t308) := (blk_cell BK313.out 1).trans rfl
                                              have hcz124_2 : wr.cell? ⟨gb313, 2, none⟩ = some (.int .i64 t309) := (blk_cell BK313.out 2).trans rfl
                                              have hcz124_3 : wr.cell? ⟨gb313, 3, none⟩ = some (.int .i64 t310) := (blk_cell BK313.out 3).trans rfl
                                              have hcz124_4 : wr.cell? ⟨gb313, 4, none⟩ = some (.int .i64 t311) := (blk_cell BK313.out 4).trans rfl
                                              have hcz124_5 : wr.cell? ⟨gb313, 5, none⟩ = some (.int .i64 t312) := (blk_cell BK313.out 5).trans rfl
                                              have hfz124_0 := blk_frozen BK313.out 0
                                              have hfz124_1 := blk_frozen BK313.out 1
                                              have hfz124_2 := blk_frozen BK313.out 2
                                              have hfz124_3 := blk_frozen BK313.out 3
                                              have hfz124_4 := blk_frozen BK313.out 4
                                              have hfz124_5 := blk_frozen BK313.out 5
                                              go_wp2_with (first | ((with_reducible refine gate_callee (f := 67) rfl ?_); refine goesL_ (some 121) rfl rfl Tryd.func67 (by kernel_rfl) rfl #[.agg #[.int .i64 t307, .int .i64 t308, .int .i64 t309, .int .i64 t310, .int .i64 t311, .int .i64 t312]] rfl (by (try simp only [List.map_toArray, List.map_cons, List.map_nil]); first | done | rfl | (simp only [List.length_drop, List.length_take]; rfl)) ?_; (with_reducible refine (impl_NewCells.calls t307 t308 t309 t310 t311 t312 t355 _ A117.out).mono ?_); rintro e w125 ⟨v356, rfl, ho0, hb⟩; refine ⟨_, rfl, ?_⟩; have n0_ := Aside0.mk (Kd.R_elder' (by (with_reducible repeat (first | apply Kd.R_alloc | apply Kd.R_drewN | apply Kd.R_drew)); exact HO_8.out) (Kd.R_base ho0) hb); have n1_ := Aside0.mk (Kd.R_lower (Kd.R_new' ho0 (Kd.R_lt (by (with_reducible repeat (first | apply Kd.R_alloc | apply Kd.R_drewN | apply Kd.R_drew)); exact HO_8.out))) (below_size (by repeat (first | (with_reducible first | exact HB.out | apply below_alloc | apply pw_below_drewN | apply below_drew1 | refine below_set ?_ GE313.out | refine below_set ?_ GE323.out) | exact HB.out)))); have n2_ := Aside0.mk (blk_below (g := gb313) (o := .cells #[.int .i64 t307, .int .i64 t308, .int .i64 t309, .int .i64 t310, .int .i64 t311, .int .i64 t312] 47 (0, 0)) (by (with_reducible repeat (first | refine blk_drewN ?_ _ | refine blk_drew ?_ | refine blk_alloc ?_ _)); exact BK313.out) hb); have n3_ := Aside0.mk (blk_below (g := gb323) (o := .cells #[.int .i64 t316, .int .i64 t317, .int .i64 t318, .int .i64 t319, .int .i64 t320, .int .i64 t321] 47 (0, 0)) (by (with_reducible repeat (first | refine blk_drewN ?_ _ | refine blk_drew ?_ | refine blk_alloc ?_ _)); exact BK323.out) hb); have n4_ := Aside0.mk (below_step (by repeat (first | (with_reducible first | exact HB.out | apply below_alloc | apply pw_below_drewN | apply below_drew1 | refine below_set ?_ GE313.out | refine below_set ?_ GE323.out) | exact HB.out)) hb); clear HO_8; clear BK313; clear BK323; clear HB; have HO_8 := n0_; have HO357 := n1_; have BK313 := n2_; have BK323 := n3_; have HB := n4_; clear n0_ n1_ n2_ n3_ n4_; (try clear hb); (try clear hb2); (try clear hk); (try clear hi); (try clear ho0); obtain ⟨Ao126, co126, eo126⟩ := Kd.R_slice HO_8.out; subst eo126; obtain ⟨Ao127, co127, eo127⟩ := Kd.R_slice HO357.out; subst eo127; have hcz128_0 : w125.cell? ⟨gb313, 0, none⟩ = some (.int .i64 t307) := (blk_cell BK313.out 0).trans rfl; have hcz128_1 : w125.cell? ⟨gb313, 1, none⟩ = some (.int .i64 t308) := (blk_cell BK313.out 1).trans rfl; have hcz128_2 : w125.cell? ⟨gb313, 2, none⟩ = some (.int .i64 t309) := (blk_cell BK313.out 2).trans rfl; have hcz128_3 : w125.cell? ⟨gb313, 3, none⟩ = some (.int .i64 t310) := (blk_cell BK313.out 3).trans rfl; have hcz128_4 : w125.cell? ⟨gb313, 4, none⟩ = some (.int .i64 t311) := (blk_cell BK313.out 4).trans rfl; have hcz128_5 : w125.cell? ⟨gb313, 5, none⟩ = some (.int .i64 t312) := (blk_cell BK313.out 5).trans rfl; have hfz128_0 := blk_frozen BK313.out 0; have hfz128_1 := blk_frozen BK313.out 1; have hfz128_2 := blk_frozen BK313.out 2; have hfz128_3 := blk_frozen BK313.out 3; have hfz128_4 := blk_frozen BK313.out 4; have hfz128_5 := blk_frozen BK313.out 5) | (go_at_call 69; (with_reducible refine (spec_NewCells.calls t307 t308 t309 t310 t311 t312 t358 _ A121.out).mono ?_); rintro e w129 ⟨v359, rfl, ho0, hb⟩; have n0_ := Aside0.mk (Kd.R_elder' (by (with_reducible repeat (first | apply Kd.R_alloc | apply Kd.R_drewN | apply Kd.R_drew)); exact HO_8.out) (Kd.R_base ho0) hb); have n1_ := Aside0.mk (Kd.R_elder' (by (with_reducible repeat (first | apply Kd.R_alloc | apply Kd.R_drewN | apply Kd.R_drew)); exact HO357.out) (Kd.R_base ho0) hb); have n2_ := Aside0.mk (Kd.R_lower (Kd.R_new' (Kd.R_new' ho0 (Kd.R_lt (by (with_reducible repeat (first | apply Kd.R_alloc | apply Kd.R_drewN | apply Kd.R_drew)); exact HO_8.out))) (Kd.R_lt (by (with_reducible repeat (first | apply Kd.R_alloc | apply Kd.R_drewN | apply Kd.R_drew)); exact HO357.out))) (below_size (by repeat (first | (with_reducible first | exact HB.out | apply below_alloc | apply pw_below_drewN | apply below_drew1 | refine below_set ?_ GE313.out | refine below_set ?_ GE323.out) | exact HB.out)))); have n3_ := Aside0.mk (blk_below (g := gb313) (o := .cells #[.int .i64 t307, .int .i64 t308, .int .i64 t309, .int .i64 t310, .int .i64 t311, .int .i64 t312] 47 (0, 0)) (by (with_reducible repeat (first | refine blk_drewN ?_ _ | refine blk_drew ?_ | refine blk_alloc ?_ _)); exact BK313.out) hb); have n4_ := Aside0.mk (blk_below (g := gb323) (o := .cells #[.int .i64 t316, .int .i64 t317, .int .i64 t318, .int .i64 t319, .int .i64 t320, .int .i64 t321] 47 (0, 0)) (by (with_reducible repeat (first | refine blk_drewN ?_ _ | refine blk_drew ?_ | refine blk_alloc ?_ _)); exact BK323.out) hb); have n5_ := Aside0.mk (below_step (by repeat (first | (with_reducible first | exact HB.out | apply below_alloc | apply pw_below_drewN | apply below_drew1 | refine below_set ?_ GE313.out | refine below_set ?_ GE323.out) | exact HB.out)) hb); clear HO_8; clear HO357; clear BK313; clear BK323; clear HB; have HO_8 := n0_; have HO357 := n1_; have HO360 := n2_; have BK313 := n3_; have BK323 := n4_; have HB := n5_; clear n0_ n1_ n2_ n3_ n4_ n5_; (try clear hb); (try clear hb2); (try clear hk); (try clear hi); (try clear ho0); obtain ⟨Ao130, co130, eo130⟩ := Kd.R_slice HO360.out; subst eo130) | (go_at_call 68; (with_reducible refine (laws_sameInts.calls k7 _ _ t355 _ _ t358 t361 _ ?side1 ?side2 ?side3 ?side4 A122.out).mono ?_); (case side1 => repeat (first | exact (Kd.R_reads' HO357.out).2.2 | (with_reducible refine Kd.C_alloc ?_ _) | (with_reducible refine Kd.C_drewN ?_ _) | (with_reducible refine Kd.C_drew ?_))); (case side2 => exact (Kd.R_reads' HO357.out).2.1); (case side3 => repeat (first | exact (Kd.R_reads' HO360.out).2.2 | (with_reducible refine Kd.C_alloc ?_ _) | (with_reducible refine Kd.C_drewN ?_ _) | (with_reducible refine Kd.C_drew ?_))); (case side4 => exact (Kd.R_reads' HO360.out).2.1); rintro e w' ⟨rfl, ⟨nd, rfl⟩⟩))
                                              go_ret
                                              exact ⟨by first | rfl | (refine congrArg Ending.returned (congrArg Value.bool ?_); generalize ByteArray.toList _ = l_; cases l_ <;> rfl) | (simp [errW_none, errW_some] <;> rfl) | (simp [*, errW_none, errW_some] <;> rfl), by repeat (first | (with_reducible first | exact HB.out | apply below_alloc | apply pw_below_drewN | apply below_drew1 | refine below_set ?_ GE313.out | refine below_set ?_ GE323.out) | exact HB.out)⟩
                                            · rw [if_neg c120] at H
                                              exact absurd H (by simp)
                                          · rw [if_neg c119] at H
                                            exact absurd H (by simp)
                                        · replace c118 := Bool.eq_false_iff.mpr c118
                                          subst c118
                                          have H1 : (if (t355.length : Int) = t314 then ((spec_NewCells.f t307 t308 t309 t310 t311 t312).bind fun t362 => ((laws_sameInts.f k7 t355 t362).bind fun t365 => (some t365))) else (none)) = some r := by rw [if_neg (show ¬ (false = true) by decide)] at H; exact H
                                          clear H
                                          have H := H1
                                          clear H1
                                          by_cases c131 : (t355.length : Int) = t314
                                          · rw [if_pos c131] at H
                                            have c131b0 : ((t355.length : Int) == t314) = true := beq_iff_eq.mpr c131
                                            have c131b1 : ((t355.length : Int) != t314) = false := bne_eq_false_iff_eq.mpr c131
                                            clear c131
                                            replace H := Option.bind_eq_some_iff.mp H
                                            obtain ⟨t362, A1320, H⟩ := H
                                            replace H : ((laws_sameInts.f k7 t355 t362).bind fun t365 => (some t365)) = some r := H
                                            have A132 := Aside0.mk A1320
                                            clear A1320
                                            replace H := Option.bind_eq_some_iff.mp H
                                            obtain ⟨t365, A1330, H⟩ := H
                                            replace H : (some t365) = some r := H
                                            have A133 := Aside0.mk A1330
                                            clear A1330
                                            obtain rfl := Option.some.inj H
                                            have hnb134 := NB313_323.out
                                            have hnc134 := NB323_313.out
                                            have hcz135_0 : wr.cell? ⟨gb313, 0, none⟩ = some (.int .i64 t307) := (blk_cell BK313.out 0).trans rfl
                                            have hcz135_1 : wr.cell? ⟨gb313, 1, none⟩ = some (.int .i64 t308) := (blk_cell BK313.out 1).trans rfl
                                            have hcz135_2 : wr.cell? ⟨gb313, 2, none⟩ = some (.int .i64 t309) := (blk_cell BK313.out 2).trans rfl
                                            have hcz135_3 : wr.cell? ⟨gb313, 3, none⟩ = some (.int .i64 t310) := (blk_cell BK313.out 3).trans rfl
                                            have hcz135_4 : wr.cell? ⟨gb313, 4, none⟩ = some (.int .i64 t311) := (blk_cell BK313.out 4).trans rfl
                                            have hcz135_5 : wr.cell? ⟨gb313, 5, none⟩ = some (.int .i64 t312) := (blk_cell BK313.out 5).trans rfl
                                            have hfz135_0 := blk_frozen BK313.out 0
                                            have hfz135_1 := blk_frozen BK313.out 1
                                            have hfz135_2 := blk_frozen BK313.out 2
                                            have hfz135_3 := blk_frozen BK313.out 3
                                            have hfz135_4 := blk_frozen BK313.out 4
                                            have hfz135_5 := blk_frozen BK313.out 5
                                            go_wp2_with (first | ((with_reducible refine gate_callee (f := 67) rfl ?_); refine goesL_ (some 121) rfl rfl Tryd.func67 (by kernel_rfl) rfl #[.agg #[.int .i64 t307, .int .i64 t308, .int .i64 t309, .int .i64 t310, .int .i64 t311, .int .i64 t312]] rfl (by (try simp only [List.map_toArray, List.map_cons, List.map_nil]); first | done | rfl | (simp only [List.length_drop, List.length_take]; rfl)) ?_; (with_reducible refine (impl_NewCells.calls t307 t308 t309 t310 t311 t312 t355 _ A117.out).mono ?_); rintro e w136 ⟨v356, rfl, ho0, hb⟩; refine ⟨_, rfl, ?_⟩; have n0_ := Aside0.mk (Kd.R_elder' (by (with_reducible repeat (first | apply Kd.R_alloc | apply Kd.R_drewN | apply Kd.R_drew)); exact HO_8.out) (Kd.R_base ho0) hb); have n1_ := Aside0.mk (Kd.R_lower (Kd.R_new' ho0 (Kd.R_lt (by (with_reducible repeat (first | apply Kd.R_alloc | apply Kd.R_drewN | apply Kd.R_drew)); exact HO_8.out))) (below_size (by repeat (first | (with_reducible first | exact HB.out | apply below_alloc | apply pw_below_drewN | apply below_drew1 | refine below_set ?_ GE313.out | refine below_set ?_ GE323.out) | exact HB.out)))); have n2_ := Aside0.mk (blk_below (g := gb313) (o := .cells #[.int .i64 t307, .int .i64 t308, .int .i64 t309, .int .i64 t310, .int .i64 t311, .int .i64 t312] 47 (0, 0)) (by (with_reducible repeat (first | refine blk_drewN ?_ _ | refine blk_drew ?_ | refine blk_alloc ?_ _)); exact BK313.out) hb); have n3_ := Aside0.mk (blk_below (g := gb323) (o := .cells #[.int .i64 t316, .int .i64 t317, .int .i64 t318, .int .i64 t319, .int .i64 t320, .int .i64 t321] 47 (0, 0)) (by (with_reducible repeat (first | refine blk_drewN ?_ _ | refine blk_drew ?_ | refine blk_alloc ?_ _)); exact BK323.out) hb); have n4_ := Aside0.mk (below_step (by repeat (first | (with_reducible first | exact HB.out | apply below_alloc | apply pw_below_drewN | apply below_drew1 | refine below_set ?_ GE313.out | refine below_set ?_ GE323.out) | exact HB.out)) hb); clear HO_8; clear BK313; clear BK323; clear HB; have HO_8 := n0_; have HO357 := n1_; have BK313 := n2_; have BK323 := n3_; have HB := n4_; clear n0_ n1_ n2_ n3_ n4_; (try clear hb); (try clear hb2); (try clear hk); (try clear hi); (try clear ho0); obtain ⟨Ao137, co137, eo137⟩ := Kd.R_slice HO357.out; subst eo137; have hcz138_0 : w136.cell? ⟨gb313, 0, none⟩ = some (.int .i64 t307) := (blk_cell BK313.out 0).trans rfl; have hcz138_1 : w136.cell? ⟨gb313, 1, none⟩ = some (.int .i64 t308) := (blk_cell BK313.out 1).trans rfl; have hcz138_2 : w136.cell? ⟨gb313, 2, none⟩ = some (.int .i64 t309) := (blk_cell BK313.out 2).trans rfl; have hcz138_3 : w136.cell? ⟨gb313, 3, none⟩ = some (.int .i64 t310) := (blk_cell BK313.out 3).trans rfl; have hcz138_4 : w136.cell? ⟨gb313, 4, none⟩ = some (.int .i64 t311) := (blk_cell BK313.out 4).trans rfl; have hcz138_5 : w136.cell? ⟨gb313, 5, none⟩ = some (.int .i64 t312) := (blk_cell BK313.out 5).trans rfl; have hfz138_0 := blk_frozen BK313.out 0; have hfz138_1 := blk_frozen BK313.out 1; have hfz138_2 := blk_frozen BK313.out 2; have hfz138_3 := blk_frozen BK313.out 3; have hfz138_4 := blk_frozen BK313.out 4; have hfz138_5 := blk_frozen BK313.out 5) | (go_at_call 69; (with_reducible refine (spec_NewCells.calls t307 t308 t309 t310 t311 t312 t362 _ A132.out).mono ?_); rintro e w139 ⟨v363, rfl, ho0, hb⟩; have n0_ := Aside0.mk (Kd.R_elder' (by (with_reducible repeat (first | apply Kd.R_alloc | apply Kd.R_drewN | apply Kd.R_drew)); exact HO_8.out) (Kd.R_base ho0) hb); have n1_ := Aside0.mk (Kd.R_elder' (by (with_reducible repeat (first | apply Kd.R_alloc | apply Kd.R_drewN | apply Kd.R_drew)); exact HO357.out) (Kd.R_base ho0) hb); have n2_ := Aside0.mk (Kd.R_lower (Kd.R_new' (Kd.R_new' ho0 (Kd.R_lt (by (with_reducible repeat (first | apply Kd.R_alloc | apply Kd.R_drewN | apply Kd.R_drew)); exact HO_8.out))) (Kd.R_lt (by (with_reducible repeat (first | apply Kd.R_alloc | apply Kd.R_drewN | apply Kd.R_drew)); exact HO357.out))) (below_size (by repeat (first | (with_reducible first | exact HB.out | apply below_alloc | apply pw_below_drewN | apply below_drew1 | refine below_set ?_ GE313.out | refine below_set ?_ GE323.out) | exact HB.out)))); have n3_ := Aside0.mk (blk_below (g := gb313) (o := .cells #[.int .i64 t307, .int .i64 t308, .int .i64 t309, .int .i64 t310, .int .i64 t311, .int .i64 t312] 47 (0, 0)) (by (with_reducible repeat (first | refine blk_drewN ?_ _ | refine blk_drew ?_ | refine blk_alloc ?_ _)); exact BK313.out) hb); have n4_ := Aside0.mk (blk_below (g := gb323) (o := .cells #[.int .i64 t316, .int .i64 t317, .int .i64 t318, .int .i64 t319, .int .i64 t320, .int .i64 t321] 47 (0, 0)) (by (with_reducible repeat (first | refine blk_drewN ?_ _ | refine blk_drew ?_ | refine blk_alloc ?_ _)); exact BK323.out) hb); have n5_ := Aside0.mk (below_step (by repeat (first | (with_reducible first | exact HB.out | apply below_alloc | apply pw_below_drewN | apply below_drew1 | refine below_set ?_ GE313.out | refine below_set ?_ GE323.out) | exact HB.out)) hb); clear HO_8; clear HO357; clear BK313; clear BK323; clear HB; have HO_8 := n0_; have HO357 := n1_; have HO364 := n2_; have BK313 := n3_; have BK323 := n4_; have HB := n5_; clear n0_ n1_ n2_ n3_ n4_ n5_; (try clear hb); (try clear hb2); (try clear hk); (try clear hi); (try clear ho0); obtain ⟨Ao140, co140, eo140⟩ := Kd.R_slice HO364.out; subst eo140) | (go_at_call 68; (with_reducible refine (laws_sameInts.calls k7 _ _ t355 _ _ t362 t365 _ ?side1 ?side2 ?side3 ?side4 A133.out).mono ?_); (case side1 => repeat (first | exact (Kd.R_reads' HO357.out).2.2 | (with_reducible refine Kd.C_alloc ?_ _) | (with_reducible refine Kd.C_drewN ?_ _) | (with_reducible refine Kd.C_drew ?_))); (case side2 => exact (Kd.R_reads' HO357.out).2.1); (case side3 => repeat (first | exact (Kd.R_reads' HO364.out).2.2 | (with_reducible refine Kd.C_alloc ?_ _) | (with_reducible refine Kd.C_drewN ?_ _) | (with_reducible refine Kd.C_drew ?_))); (case side4 => exact (Kd.R_reads' HO364.out).2.1); rintro e w' ⟨rfl, ⟨nd, rfl⟩⟩))
                                            go_ret
                                            exact ⟨by first | rfl | (refine congrArg Ending.returned (congrArg Value.bool ?_); generalize ByteArray.toList _ = l_; cases l_ <;> rfl) | (simp [errW_none, errW_some] <;> rfl) | (simp [*, errW_none, errW_some] <;> rfl), by repeat (first | (with_reducible first | exact HB.out | apply below_alloc | apply pw_below_drewN | apply below_drew1 | refine below_set ?_ GE313.out | refine below_set ?_ GE323.out) | exact HB.out)⟩
                                          · rw [if_neg c131] at H
                                            exact absurd H (by simp)

/-- THE ONE PURE STATEMENT of laws_FnLayout: yours. -/
def laws_FnLayout.Pure : Prop := ∀ (l0 : List Int), l0.length ≤ maxLen → l0.length * 1 ≤ 140737488351232 → (∀ x ∈ l0, (Lit.int .u8 x).wf = true) → ∃ k, laws_FnLayout.f k l0 = some true

end Go.Proofs.YtbenihcaleiacabDoor.GFnLayout
