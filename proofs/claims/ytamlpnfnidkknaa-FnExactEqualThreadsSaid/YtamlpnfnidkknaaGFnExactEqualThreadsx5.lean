/- Of each Go function that the law FnExactEqualThreads reaches: a Lean function, and the proof that the call comes to just its answer; written by a turned copy of the kit's printer, with contracts typed by hand for functions that it does not take. No condition. -/
import Derived.Test.YtamlpnfnidkknaaGFnExactEqualThreadsx0
import Derived.Test.YtamlpnfnidkknaaGFnExactEqualThreadsx1
import Derived.Test.YtamlpnfnidkknaaGFnExactEqualThreadsx2
import Derived.Test.YtamlpnfnidkknaaGFnExactEqualThreadsx4
namespace Go.Proofs.Ytamlpnfnidkknaa.GFnExactEqualThreads
open Go.RowKit Go.Proofs.YtamlpnfnidkknaaW.PrintWords Go.Proofs.YtamlpnfnidkknaaW.PrintLast Go.Proofs.YtamlpnfnidkknaaW.PrintMore
attribute [local go_sem] max2_int min2_int max_two min_two max_three min_three max_four min_four   -- for this text's walks alone
set_option linter.unusedVariables false
set_option linter.unusedSimpArgs false

attribute [local go_sem high] eqA32 eqA33
/-! ### spec_EqualThreads: function 7 -/
def spec_EqualThreads.j0 : Nat → Bool → Int → Int → Int → Int → Int → Int → Int → Int → Int → Int → Int → Int → Int → Int → List Int → List Int → List (S65) → List (S65) → List Int → Int → Int → Int → Int → Int → Int → Int → Int → Int → Int → Int → Int → Int → Int → List Int → List Int → List (S65) → List (S65) → List Int → Option (Bool)
  | 0, _, _, _, _, _, _, _, _, _, _, _, _, _, _, _, _, _, _, _, _, _, _, _, _, _, _, _, _, _, _, _, _, _, _, _, _, _, _, _ => none
  | k + 1, x79, x112000, x112001, x112002, x112003, x112004, x112005, x112006, x112007, x112008, x112009, x112010, x112011, x112012, x112013, x112014, x112015, x112016, x112017, x112018, x113000, x113001, x113002, x113003, x113004, x113005, x113006, x113007, x113008, x113009, x113010, x113011, x113012, x113013, x113014, x113015, x113016, x113017, x113018 => if x79 = true then (some false) else ((spec_l7Ints.f k x112014 x113014).bind fun t113 => (if t113 = true then ((spec_l7Ints.f k x112015 x113015).bind fun t114 => (if t114 = true then ((spec_l7Entries.f k x112016 x113016).bind fun t115 => (if t115 = true then ((spec_l7Entries.f k x112017 x113017).bind fun t116 => (if t116 = true then ((spec_l7Ints.f k x112018 x113018).bind fun t117 => (some t117)) else (some false))) else (some false))) else (some false))) else (some false)))
def spec_EqualThreads.f (k : Nat) (a0_0 : Int) (a0_1 : Int) (a0_2 : Int) (a0_3 : Int) (a0_4 : Int) (a0_5 : Int) (a0_6 : Int) (a0_7 : Int) (a0_8 : Int) (a0_9 : Int) (a0_10 : Int) (a0_11 : Int) (a0_12 : Int) (a0_13 : Int) (l0_14 : List Int) (l0_15 : List Int) (l0_16 : List (S65)) (l0_17 : List (S65)) (l0_18 : List Int) (a1_0 : Int) (a1_1 : Int) (a1_2 : Int) (a1_3 : Int) (a1_4 : Int) (a1_5 : Int) (a1_6 : Int) (a1_7 : Int) (a1_8 : Int) (a1_9 : Int) (a1_10 : Int) (a1_11 : Int) (a1_12 : Int) (a1_13 : Int) (l1_14 : List Int) (l1_15 : List Int) (l1_16 : List (S65)) (l1_17 : List (S65)) (l1_18 : List Int) : Option (Bool) := if a0_0 = a1_0 then (if (!(a0_1 == a1_1) || (!(a0_2 == a1_2) || (!(a0_3 == a1_3)))) = true then (spec_EqualThreads.j0 k true a0_0 a0_1 a0_2 a0_3 a0_4 a0_5 a0_6 a0_7 a0_8 a0_9 a0_10 a0_11 a0_12 a0_13 l0_14 l0_15 l0_16 l0_17 l0_18 a1_0 a1_1 a1_2 a1_3 a1_4 a1_5 a1_6 a1_7 a1_8 a1_9 a1_10 a1_11 a1_12 a1_13 l1_14 l1_15 l1_16 l1_17 l1_18) else (if (!(a0_4 == a1_4) || (!(a0_5 == a1_5))) = true then (spec_EqualThreads.j0 k true a0_0 a0_1 a0_2 a0_3 a0_4 a0_5 a0_6 a0_7 a0_8 a0_9 a0_10 a0_11 a0_12 a0_13 l0_14 l0_15 l0_16 l0_17 l0_18 a1_0 a1_1 a1_2 a1_3 a1_4 a1_5 a1_6 a1_7 a1_8 a1_9 a1_10 a1_11 a1_12 a1_13 l1_14 l1_15 l1_16 l1_17 l1_18) else (if a0_6 = a1_6 then (if a0_7 = a1_7 then (if a0_8 = a1_8 then (if a0_9 = a1_9 then (if a0_10 = a1_10 then (if a0_11 = a1_11 then (if a0_12 = a1_12 then (spec_EqualThreads.j0 k (a0_13 != a1_13) a0_0 a0_1 a0_2 a0_3 a0_4 a0_5 a0_6 a0_7 a0_8 a0_9 a0_10 a0_11 a0_12 a0_13 l0_14 l0_15 l0_16 l0_17 l0_18 a1_0 a1_1 a1_2 a1_3 a1_4 a1_5 a1_6 a1_7 a1_8 a1_9 a1_10 a1_11 a1_12 a1_13 l1_14 l1_15 l1_16 l1_17 l1_18) else (spec_EqualThreads.j0 k true a0_0 a0_1 a0_2 a0_3 a0_4 a0_5 a0_6 a0_7 a0_8 a0_9 a0_10 a0_11 a0_12 a0_13 l0_14 l0_15 l0_16 l0_17 l0_18 a1_0 a1_1 a1_2 a1_3 a1_4 a1_5 a1_6 a1_7 a1_8 a1_9 a1_10 a1_11 a1_12 a1_13 l1_14 l1_15 l1_16 l1_17 l1_18)) else (spec_EqualThreads.j0 k true a0_0 a0_1 a0_2 a0_3 a0_4 a0_5 a0_6 a0_7 a0_8 a0_9 a0_10 a0_11 a0_12 a0_13 l0_14 l0_15 l0_16 l0_17 l0_18 a1_0 a1_1 a1_2 a1_3 a1_4 a1_5 a1_6 a1_7 a1_8 a1_9 a1_10 a1_11 a1_12 a1_13 l1_14 l1_15 l1_16 l1_17 l1_18)) else (spec_EqualThreads.j0 k true a0_0 a0_1 a0_2 a0_3 a0_4 a0_5 a0_6 a0_7 a0_8 a0_9 a0_10 a0_11 a0_12 a0_13 l0_14 l0_15 l0_16 l0_17 l0_18 a1_0 a1_1 a1_2 a1_3 a1_4 a1_5 a1_6 a1_7 a1_8 a1_9 a1_10 a1_11 a1_12 a1_13 l1_14 l1_15 l1_16 l1_17 l1_18)) else (spec_EqualThreads.j0 k true a0_0 a0_1 a0_2 a0_3 a0_4 a0_5 a0_6 a0_7 a0_8 a0_9 a0_10 a0_11 a0_12 a0_13 l0_14 l0_15 l0_16 l0_17 l0_18 a1_0 a1_1 a1_2 a1_3 a1_4 a1_5 a1_6 a1_7 a1_8 a1_9 a1_10 a1_11 a1_12 a1_13 l1_14 l1_15 l1_16 l1_17 l1_18)) else (spec_EqualThreads.j0 k true a0_0 a0_1 a0_2 a0_3 a0_4 a0_5 a0_6 a0_7 a0_8 a0_9 a0_10 a0_11 a0_12 a0_13 l0_14 l0_15 l0_16 l0_17 l0_18 a1_0 a1_1 a1_2 a1_3 a1_4 a1_5 a1_6 a1_7 a1_8 a1_9 a1_10 a1_11 a1_12 a1_13 l1_14 l1_15 l1_16 l1_17 l1_18)) else (spec_EqualThreads.j0 k true a0_0 a0_1 a0_2 a0_3 a0_4 a0_5 a0_6 a0_7 a0_8 a0_9 a0_10 a0_11 a0_12 a0_13 l0_14 l0_15 l0_16 l0_17 l0_18 a1_0 a1_1 a1_2 a1_3 a1_4 a1_5 a1_6 a1_7 a1_8 a1_9 a1_10 a1_11 a1_12 a1_13 l1_14 l1_15 l1_16 l1_17 l1_18)) else (spec_EqualThreads.j0 k true a0_0 a0_1 a0_2 a0_3 a0_4 a0_5 a0_6 a0_7 a0_8 a0_9 a0_10 a0_11 a0_12 a0_13 l0_14 l0_15 l0_16 l0_17 l0_18 a1_0 a1_1 a1_2 a1_3 a1_4 a1_5 a1_6 a1_7 a1_8 a1_9 a1_10 a1_11 a1_12 a1_13 l1_14 l1_15 l1_16 l1_17 l1_18)))) else (spec_EqualThreads.j0 k true a0_0 a0_1 a0_2 a0_3 a0_4 a0_5 a0_6 a0_7 a0_8 a0_9 a0_10 a0_11 a0_12 a0_13 l0_14 l0_15 l0_16 l0_17 l0_18 a1_0 a1_1 a1_2 a1_3 a1_4 a1_5 a1_6 a1_7 a1_8 a1_9 a1_10 a1_11 a1_12 a1_13 l1_14 l1_15 l1_16 l1_17 l1_18)
theorem spec_EqualThreads.mono_l : ∀ k, (∀ y0 y1 y2 y3 y4 y5 y6 y7 y8 y9 y10 y11 y12 y13 y14 y15 y16 y17 y18 y19 y20 y21 y22 y23 y24 y25 y26 y27 y28 y29 y30 y31 y32 y33 y34 y35 y36 y37 y38, LeO (spec_EqualThreads.j0 k y0 y1 y2 y3 y4 y5 y6 y7 y8 y9 y10 y11 y12 y13 y14 y15 y16 y17 y18 y19 y20 y21 y22 y23 y24 y25 y26 y27 y28 y29 y30 y31 y32 y33 y34 y35 y36 y37 y38) (spec_EqualThreads.j0 (k + 1) y0 y1 y2 y3 y4 y5 y6 y7 y8 y9 y10 y11 y12 y13 y14 y15 y16 y17 y18 y19 y20 y21 y22 y23 y24 y25 y26 y27 y28 y29 y30 y31 y32 y33 y34 y35 y36 y37 y38))
  | 0 => fun _ _ _ _ _ _ _ _ _ _ _ _ _ _ _ _ _ _ _ _ _ _ _ _ _ _ _ _ _ _ _ _ _ _ _ _ _ _ _ r h => by simp [spec_EqualThreads.j0] at h
  | k + 1 => by
    have ih0 := spec_EqualThreads.mono_l k
    · intro y0 y1 y2 y3 y4 y5 y6 y7 y8 y9 y10 y11 y12 y13 y14 y15 y16 y17 y18 y19 y20 y21 y22 y23 y24 y25 y26 y27 y28 y29 y30 y31 y32 y33 y34 y35 y36 y37 y38
      unfold spec_EqualThreads.j0
      repeat' first
      | (with_reducible exact ih0 _ _ _ _ _ _ _ _ _ _ _ _ _ _ _ _ _ _ _ _ _ _ _ _ _ _ _ _ _ _ _ _ _ _ _ _ _ _ _)
      | (with_reducible exact spec_l7Entries.mono _ _ _)
      | (with_reducible exact spec_l7Ints.mono _ _ _)
      | (with_reducible exact LeO.refl _)
      | (with_reducible exact LeO.none _)
      | (with_reducible refine LeO.ite ?_ ?_)
      | (with_reducible refine LeO.bind ?_ (fun _ => ?_))
      | exact ih0 _ _ _ _ _ _ _ _ _ _ _ _ _ _ _ _ _ _ _ _ _ _ _ _ _ _ _ _ _ _ _ _ _ _ _ _ _ _ _
      | exact spec_l7Entries.mono _ _ _
      | exact spec_l7Ints.mono _ _ _
      | exact LeO.none _
      | refine LeO.ite ?_ ?_
      | refine LeO.bind ?_ (fun _ => ?_)
theorem spec_EqualThreads.mono : ∀ a0 a1 a2 a3 a4 a5 a6 a7 a8 a9 a10 a11 a12 a13 a14 a15 a16 a17 a18 a19 a20 a21 a22 a23 a24 a25 a26 a27 a28 a29 a30 a31 a32 a33 a34 a35 a36 a37 k, LeO (spec_EqualThreads.f k a0 a1 a2 a3 a4 a5 a6 a7 a8 a9 a10 a11 a12 a13 a14 a15 a16 a17 a18 a19 a20 a21 a22 a23 a24 a25 a26 a27 a28 a29 a30 a31 a32 a33 a34 a35 a36 a37) (spec_EqualThreads.f (k + 1) a0 a1 a2 a3 a4 a5 a6 a7 a8 a9 a10 a11 a12 a13 a14 a15 a16 a17 a18 a19 a20 a21 a22 a23 a24 a25 a26 a27 a28 a29 a30 a31 a32 a33 a34 a35 a36 a37) := by
  intro a0 a1 a2 a3 a4 a5 a6 a7 a8 a9 a10 a11 a12 a13 a14 a15 a16 a17 a18 a19 a20 a21 a22 a23 a24 a25 a26 a27 a28 a29 a30 a31 a32 a33 a34 a35 a36 a37 k
  have ih0 := spec_EqualThreads.mono_l k
  unfold spec_EqualThreads.f
  repeat' first
      | (with_reducible exact ih0 _ _ _ _ _ _ _ _ _ _ _ _ _ _ _ _ _ _ _ _ _ _ _ _ _ _ _ _ _ _ _ _ _ _ _ _ _ _ _)
      | (with_reducible exact spec_l7Entries.mono _ _ _)
      | (with_reducible exact spec_l7Ints.mono _ _ _)
      | (with_reducible exact LeO.refl _)
      | (with_reducible exact LeO.none _)
      | (with_reducible refine LeO.ite ?_ ?_)
      | (with_reducible refine LeO.bind ?_ (fun _ => ?_))
      | exact ih0 _ _ _ _ _ _ _ _ _ _ _ _ _ _ _ _ _ _ _ _ _ _ _ _ _ _ _ _ _ _ _ _ _ _ _ _ _ _ _
      | exact spec_l7Entries.mono _ _ _
      | exact spec_l7Ints.mono _ _ _
      | exact LeO.none _
      | refine LeO.ite ?_ ?_
      | refine LeO.bind ?_ (fun _ => ?_)
set_option maxHeartbeats 8000000 in
set_option maxRecDepth 100000 in
theorem spec_EqualThreads.calls (k : Nat) (a0_0 : Int) (a0_1 : Int) (a0_2 : Int) (a0_3 : Int) (a0_4 : Int) (a0_5 : Int) (a0_6 : Int) (a0_7 : Int) (a0_8 : Int) (a0_9 : Int) (a0_10 : Int) (a0_11 : Int) (a0_12 : Int) (a0_13 : Int) (A0_14 : Option Addr) (c0_14 : Nat) (l0_14 : List Int) (A0_15 : Option Addr) (c0_15 : Nat) (l0_15 : List Int) (A0_16 : Option Addr) (c0_16 : Nat) (l0_16 : List (S65)) (A0_17 : Option Addr) (c0_17 : Nat) (l0_17 : List (S65)) (A0_18 : Option Addr) (c0_18 : Nat) (l0_18 : List Int) (a1_0 : Int) (a1_1 : Int) (a1_2 : Int) (a1_3 : Int) (a1_4 : Int) (a1_5 : Int) (a1_6 : Int) (a1_7 : Int) (a1_8 : Int) (a1_9 : Int) (a1_10 : Int) (a1_11 : Int) (a1_12 : Int) (a1_13 : Int) (A1_14 : Option Addr) (c1_14 : Nat) (l1_14 : List Int) (A1_15 : Option Addr) (c1_15 : Nat) (l1_15 : List Int) (A1_16 : Option Addr) (c1_16 : Nat) (l1_16 : List (S65)) (A1_17 : Option Addr) (c1_17 : Nat) (l1_17 : List (S65)) (A1_18 : Option Addr) (c1_18 : Nat) (l1_18 : List Int) (r : Bool) (w : World) (hr0_14 : Kd.C (Kd.int .i64) w A0_14 l0_14.length l0_14) (hc0_14 : l0_14.length ≤ c0_14) (hr0_15 : Kd.C (Kd.int .i64) w A0_15 l0_15.length l0_15) (hc0_15 : l0_15.length ≤ c0_15) (hr0_16 : Kd.C k65 w A0_16 l0_16.length l0_16) (hc0_16 : l0_16.length ≤ c0_16) (hr0_17 : Kd.C k65 w A0_17 l0_17.length l0_17) (hc0_17 : l0_17.length ≤ c0_17) (hr0_18 : Kd.C (Kd.int .i64) w A0_18 l0_18.length l0_18) (hc0_18 : l0_18.length ≤ c0_18) (hr1_14 : Kd.C (Kd.int .i64) w A1_14 l1_14.length l1_14) (hc1_14 : l1_14.length ≤ c1_14) (hr1_15 : Kd.C (Kd.int .i64) w A1_15 l1_15.length l1_15) (hc1_15 : l1_15.length ≤ c1_15) (hr1_16 : Kd.C k65 w A1_16 l1_16.length l1_16) (hc1_16 : l1_16.length ≤ c1_16) (hr1_17 : Kd.C k65 w A1_17 l1_17.length l1_17) (hc1_17 : l1_17.length ≤ c1_17) (hr1_18 : Kd.C (Kd.int .i64) w A1_18 l1_18.length l1_18) (hc1_18 : l1_18.length ≤ c1_18) (h : spec_EqualThreads.f k a0_0 a0_1 a0_2 a0_3 a0_4 a0_5 a0_6 a0_7 a0_8 a0_9 a0_10 a0_11 a0_12 a0_13 l0_14 l0_15 l0_16 l0_17 l0_18 a1_0 a1_1 a1_2 a1_3 a1_4 a1_5 a1_6 a1_7 a1_8 a1_9 a1_10 a1_11 a1_12 a1_13 l1_14 l1_15 l1_16 l1_17 l1_18 = some r) :
    Calls Try.prog 7 #[.agg #[.int .i64 a0_0, .int .i64 a0_1, .int .i64 a0_2, .int .i64 a0_3, .int .i64 a0_4, .int .i64 a0_5, .int .i64 a0_6, .int .i64 a0_7, .int .i64 a0_8, .int .i64 a0_9, .int .i64 a0_10, .int .i64 a0_11, .int .i64 a0_12, .int .i64 a0_13, .slice A0_14 l0_14.length c0_14, .slice A0_15 l0_15.length c0_15, .slice A0_16 l0_16.length c0_16, .slice A0_17 l0_17.length c0_17, .slice A0_18 l0_18.length c0_18], .agg #[.int .i64 a1_0, .int .i64 a1_1, .int .i64 a1_2, .int .i64 a1_3, .int .i64 a1_4, .int .i64 a1_5, .int .i64 a1_6, .int .i64 a1_7, .int .i64 a1_8, .int .i64 a1_9, .int .i64 a1_10, .int .i64 a1_11, .int .i64 a1_12, .int .i64 a1_13, .slice A1_14 l1_14.length c1_14, .slice A1_15 l1_15.length c1_15, .slice A1_16 l1_16.length c1_16, .slice A1_17 l1_17.length c1_17, .slice A1_18 l1_18.length c1_18]] w fun e w' => e = .returned (.bool r) ∧ Below w.heap.size w w' := by
  have hu36 := Try.underlying36
  have hu32 := Try.underlying32
  have hu33 := Try.underlying33
  have HR0_14 := Aside0.mk hr0_14
  have HC0_14 := Aside0.mk hc0_14
  clear hr0_14 hc0_14
  have HR0_15 := Aside0.mk hr0_15
  have HC0_15 := Aside0.mk hc0_15
  clear hr0_15 hc0_15
  have HR0_16 := Aside0.mk hr0_16
  have HC0_16 := Aside0.mk hc0_16
  clear hr0_16 hc0_16
  have HR0_17 := Aside0.mk hr0_17
  have HC0_17 := Aside0.mk hc0_17
  clear hr0_17 hc0_17
  have HR0_18 := Aside0.mk hr0_18
  have HC0_18 := Aside0.mk hc0_18
  clear hr0_18 hc0_18
  have HR1_14 := Aside0.mk hr1_14
  have HC1_14 := Aside0.mk hc1_14
  clear hr1_14 hc1_14
  have HR1_15 := Aside0.mk hr1_15
  have HC1_15 := Aside0.mk hc1_15
  clear hr1_15 hc1_15
  have HR1_16 := Aside0.mk hr1_16
  have HC1_16 := Aside0.mk hc1_16
  clear hr1_16 hc1_16
  have HR1_17 := Aside0.mk hr1_17
  have HC1_17 := Aside0.mk hc1_17
  clear hr1_17 hc1_17
  have HR1_18 := Aside0.mk hr1_18
  have HC1_18 := Aside0.mk hc1_18
  clear hr1_18 hc1_18
  have HB := Aside0.mk (Below.refl w.heap.size w)
  have H : (if a0_0 = a1_0 then (if (!(a0_1 == a1_1) || (!(a0_2 == a1_2) || (!(a0_3 == a1_3)))) = true then (spec_EqualThreads.j0 k true a0_0 a0_1 a0_2 a0_3 a0_4 a0_5 a0_6 a0_7 a0_8 a0_9 a0_10 a0_11 a0_12 a0_13 l0_14 l0_15 l0_16 l0_17 l0_18 a1_0 a1_1 a1_2 a1_3 a1_4 a1_5 a1_6 a1_7 a1_8 a1_9 a1_10 a1_11 a1_12 a1_13 l1_14 l1_15 l1_16 l1_17 l1_18) else (if (!(a0_4 == a1_4) || (!(a0_5 == a1_5))) = true then (spec_EqualThreads.j0 k true a0_0 a0_1 a0_2 a0_3 a0_4 a0_5 a0_6 a0_7 a0_8 a0_9 a0_10 a0_11 a0_12 a0_13 l0_14 l0_15 l0_16 l0_17 l0_18 a1_0 a1_1 a1_2 a1_3 a1_4 a1_5 a1_6 a1_7 a1_8 a1_9 a1_10 a1_11 a1_12 a1_13 l1_14 l1_15 l1_16 l1_17 l1_18) else (if a0_6 = a1_6 then (if a0_7 = a1_7 then (if a0_8 = a1_8 then (if a0_9 = a1_9 then (if a0_10 = a1_10 then (if a0_11 = a1_11 then (if a0_12 = a1_12 then (spec_EqualThreads.j0 k (a0_13 != a1_13) a0_0 a0_1 a0_2 a0_3 a0_4 a0_5 a0_6 a0_7 a0_8 a0_9 a0_10 a0_11 a0_12 a0_13 l0_14 l0_15 l0_16 l0_17 l0_18 a1_0 a1_1 a1_2 a1_3 a1_4 a1_5 a1_6 a1_7 a1_8 a1_9 a1_10 a1_11 a1_12 a1_13 l1_14 l1_15 l1_16 l1_17 l1_18) else (spec_EqualThreads.j0 k true a0_0 a0_1 a0_2 a0_3 a0_4 a0_5 a0_6 a0_7 a0_8 a0_9 a0_10 a0_11 a0_12 a0_13 l0_14 l0_15 l0_16 l0_17 l0_18 a1_0 a1_1 a1_2 a1_3 a1_4 a1_5 a1_6 a1_7 a1_8 a1_9 a1_10 a1_11 a1_12 a1_13 l1_14 l1_15 l1_16 l1_17 l1_18)) else (spec_EqualThreads.j0 k true a0_0 a0_1 a0_2 a0_3 a0_4 a0_5 a0_6 a0_7 a0_8 a0_9 a0_10 a0_11 a0_12 a0_13 l0_14 l0_15 l0_16 l0_17 l0_18 a1_0 a1_1 a1_2 a1_3 a1_4 a1_5 a1_6 a1_7 a1_8 a1_9 a1_10 a1_11 a1_12 a1_13 l1_14 l1_15 l1_16 l1_17 l1_18)) else (spec_EqualThreads.j0 k true a0_0 a0_1 a0_2 a0_3 a0_4 a0_5 a0_6 a0_7 a0_8 a0_9 a0_10 a0_11 a0_12 a0_13 l0_14 l0_15 l0_16 l0_17 l0_18 a1_0 a1_1 a1_2 a1_3 a1_4 a1_5 a1_6 a1_7 a1_8 a1_9 a1_10 a1_11 a1_12 a1_13 l1_14 l1_15 l1_16 l1_17 l1_18)) else (spec_EqualThreads.j0 k true a0_0 a0_1 a0_2 a0_3 a0_4 a0_5 a0_6 a0_7 a0_8 a0_9 a0_10 a0_11 a0_12 a0_13 l0_14 l0_15 l0_16 l0_17 l0_18 a1_0 a1_1 a1_2 a1_3 a1_4 a1_5 a1_6 a1_7 a1_8 a1_9 a1_10 a1_11 a1_12 a1_13 l1_14 l1_15 l1_16 l1_17 l1_18)) else (spec_EqualThreads.j0 k true a0_0 a0_1 a0_2 a0_3 a0_4 a0_5 a0_6 a0_7 a0_8 a0_9 a0_10 a0_11 a0_12 a0_13 l0_14 l0_15 l0_16 l0_17 l0_18 a1_0 a1_1 a1_2 a1_3 a1_4 a1_5 a1_6 a1_7 a1_8 a1_9 a1_10 a1_11 a1_12 a1_13 l1_14 l1_15 l1_16 l1_17 l1_18)) else (spec_EqualThreads.j0 k true a0_0 a0_1 a0_2 a0_3 a0_4 a0_5 a0_6 a0_7 a0_8 a0_9 a0_10 a0_11 a0_12 a0_13 l0_14 l0_15 l0_16 l0_17 l0_18 a1_0 a1_1 a1_2 a1_3 a1_4 a1_5 a1_6 a1_7 a1_8 a1_9 a1_10 a1_11 a1_12 a1_13 l1_14 l1_15 l1_16 l1_17 l1_18)) else (spec_EqualThreads.j0 k true a0_0 a0_1 a0_2 a0_3 a0_4 a0_5 a0_6 a0_7 a0_8 a0_9 a0_10 a0_11 a0_12 a0_13 l0_14 l0_15 l0_16 l0_17 l0_18 a1_0 a1_1 a1_2 a1_3 a1_4 a1_5 a1_6 a1_7 a1_8 a1_9 a1_10 a1_11 a1_12 a1_13 l1_14 l1_15 l1_16 l1_17 l1_18)))) else (spec_EqualThreads.j0 k true a0_0 a0_1 a0_2 a0_3 a0_4 a0_5 a0_6 a0_7 a0_8 a0_9 a0_10 a0_11 a0_12 a0_13 l0_14 l0_15 l0_16 l0_17 l0_18 a1_0 a1_1 a1_2 a1_3 a1_4 a1_5 a1_6 a1_7 a1_8 a1_9 a1_10 a1_11 a1_12 a1_13 l1_14 l1_15 l1_16 l1_17 l1_18)) = some r := h
  clear h
  have HC3 := Aside0.mk H
  clear H
  go_enter Try.func7, Try.ntmps7
  go_upto_region 1 with (first | ((with_reducible refine gate_dst (N := 2) rfl ?_); refine box_event ?hg (N := 2) ?hd (cs := #[.int .i64 a0_0, .int .i64 a0_1, .int .i64 a0_2, .int .i64 a0_3, .int .i64 a0_4, .int .i64 a0_5, .int .i64 a0_6, .int .i64 a0_7, .int .i64 a0_8, .int .i64 a0_9, .int .i64 a0_10, .int .i64 a0_11, .int .i64 a0_12, .int .i64 a0_13, .slice A0_14 l0_14.length c0_14, .slice A0_15 l0_15.length c0_15, .slice A0_16 l0_16.length c0_16, .slice A0_17 l0_17.length c0_17, .slice A0_18 l0_18.length c0_18]) (t := 36) ?hr ?_; (case hd => rfl); (case hg => rfl); (case hr => first | (go_simp; done) | (go_simp; rfl)); intro gb111 hg w4 hbox hb; have n0_ := Aside0.mk (below_step (by repeat (first | (with_reducible first | exact HB.out | apply below_alloc | apply pw_below_drewN | apply below_drew1) | exact HB.out)) hb); have n1_ := Aside0.mk (hbox); have n2_ := Aside0.mk ((by rw [hg]; exact (below_size (by repeat (first | (with_reducible first | exact HB.out | apply below_alloc | apply pw_below_drewN | apply below_drew1) | exact HB.out))) : w.heap.size ≤ gb111)); have n3_ := Aside0.mk ((by rw [hg]; exact (below_size (by repeat (first | (with_reducible first | exact HB.out | apply below_alloc | apply pw_below_drewN | apply below_drew1) | exact HB.out))) : w.heap.size ≤ gb111)); clear HB; have HB := n0_; have BK111 := n1_; have GW111 := n2_; have GE111 := n3_; clear n0_ n1_ n2_ n3_; clear hb hbox hg) | ((with_reducible refine gate_dst (N := 3) rfl ?_); refine box_event ?hg (N := 3) ?hd (cs := #[.int .i64 a1_0, .int .i64 a1_1, .int .i64 a1_2, .int .i64 a1_3, .int .i64 a1_4, .int .i64 a1_5, .int .i64 a1_6, .int .i64 a1_7, .int .i64 a1_8, .int .i64 a1_9, .int .i64 a1_10, .int .i64 a1_11, .int .i64 a1_12, .int .i64 a1_13, .slice A1_14 l1_14.length c1_14, .slice A1_15 l1_15.length c1_15, .slice A1_16 l1_16.length c1_16, .slice A1_17 l1_17.length c1_17, .slice A1_18 l1_18.length c1_18]) (t := 36) ?hr ?_; (case hd => rfl); (case hg => rfl); (case hr => first | (go_simp; done) | (go_simp; rfl)); intro gb112 hg w5 hbox hb; have n0_ := Aside0.mk (blk_below (g := gb111) (o := .cells #[.int .i64 a0_0, .int .i64 a0_1, .int .i64 a0_2, .int .i64 a0_3, .int .i64 a0_4, .int .i64 a0_5, .int .i64 a0_6, .int .i64 a0_7, .int .i64 a0_8, .int .i64 a0_9, .int .i64 a0_10, .int .i64 a0_11, .int .i64 a0_12, .int .i64 a0_13, .slice A0_14 l0_14.length c0_14, .slice A0_15 l0_15.length c0_15, .slice A0_16 l0_16.length c0_16, .slice A0_17 l0_17.length c0_17, .slice A0_18 l0_18.length c0_18] 36 (0, 0)) (by (with_reducible repeat (first | refine blk_drewN ?_ _ | refine blk_drew ?_ | refine blk_alloc ?_ _)); exact BK111.out) hb); have n1_ := Aside0.mk (below_step (by repeat (first | (with_reducible first | exact HB.out | apply below_alloc | apply pw_below_drewN | apply below_drew1 | refine below_set ?_ GE111.out) | exact HB.out)) hb); have n2_ := Aside0.mk (hbox); have n3_ := Aside0.mk ((by rw [hg]; exact (below_size (by repeat (first | (with_reducible first | exact HB.out | apply below_alloc | apply pw_below_drewN | apply below_drew1 | refine below_set ?_ GE111.out) | exact HB.out))) : w.heap.size ≤ gb112)); have n4_ := Aside0.mk ((by rw [hg]; exact (below_size (by repeat (first | (with_reducible first | exact HB.out | apply below_alloc | apply pw_below_drewN | apply below_drew1 | refine below_set ?_ GE111.out) | exact HB.out))) : w.heap.size ≤ gb112)); have n5_ := Aside0.mk ((by rw [hg]; exact Nat.ne_of_lt (blk_lt (g := gb111) (o := .cells #[.int .i64 a0_0, .int .i64 a0_1, .int .i64 a0_2, .int .i64 a0_3, .int .i64 a0_4, .int .i64 a0_5, .int .i64 a0_6, .int .i64 a0_7, .int .i64 a0_8, .int .i64 a0_9, .int .i64 a0_10, .int .i64 a0_11, .int .i64 a0_12, .int .i64 a0_13, .slice A0_14 l0_14.length c0_14, .slice A0_15 l0_15.length c0_15, .slice A0_16 l0_16.length c0_16, .slice A0_17 l0_17.length c0_17, .slice A0_18 l0_18.length c0_18] 36 (0, 0)) (by (with_reducible repeat (first | refine blk_drewN ?_ _ | refine blk_drew ?_ | refine blk_alloc ?_ _)); exact BK111.out)) : gb111 ≠ gb112)); have n6_ := Aside0.mk ((by rw [hg]; exact Nat.ne_of_gt (blk_lt (g := gb111) (o := .cells #[.int .i64 a0_0, .int .i64 a0_1, .int .i64 a0_2, .int .i64 a0_3, .int .i64 a0_4, .int .i64 a0_5, .int .i64 a0_6, .int .i64 a0_7, .int .i64 a0_8, .int .i64 a0_9, .int .i64 a0_10, .int .i64 a0_11, .int .i64 a0_12, .int .i64 a0_13, .slice A0_14 l0_14.length c0_14, .slice A0_15 l0_15.length c0_15, .slice A0_16 l0_16.length c0_16, .slice A0_17 l0_17.length c0_17, .slice A0_18 l0_18.length c0_18] 36 (0, 0)) (by (with_reducible repeat (first | refine blk_drewN ?_ _ | refine blk_drew ?_ | refine blk_alloc ?_ _)); exact BK111.out)) : gb112 ≠ gb111)); clear BK111; clear HB; have BK111 := n0_; have HB := n1_; have BK112 := n2_; have GW112 := n3_; have GE112 := n4_; have NB111_112 := n5_; have NB112_111 := n6_; clear n0_ n1_ n2_ n3_ n4_ n5_ n6_; clear hb hbox hg))
  (try simp only [Act.put, List.setIfInBounds_toArray, List.set_cons_zero, List.set_cons_succ])
  go_cut [79] (fun v79 wc => ∃ (kq : Nat) (x79_2 : Bool), v79 = .bool x79_2 ∧ Aside0 (spec_EqualThreads.j0 kq x79_2 a0_0 a0_1 a0_2 a0_3 a0_4 a0_5 a0_6 a0_7 a0_8 a0_9 a0_10 a0_11 a0_12 a0_13 l0_14 l0_15 l0_16 l0_17 l0_18 a1_0 a1_1 a1_2 a1_3 a1_4 a1_5 a1_6 a1_7 a1_8 a1_9 a1_10 a1_11 a1_12 a1_13 l1_14 l1_15 l1_16 l1_17 l1_18 = some r) ∧ Aside0 (kq ≤ k) ∧ Aside0 (wc.heap[gb111]? = some (.cells #[.int .i64 a0_0, .int .i64 a0_1, .int .i64 a0_2, .int .i64 a0_3, .int .i64 a0_4, .int .i64 a0_5, .int .i64 a0_6, .int .i64 a0_7, .int .i64 a0_8, .int .i64 a0_9, .int .i64 a0_10, .int .i64 a0_11, .int .i64 a0_12, .int .i64 a0_13, (.slice A0_14 l0_14.length c0_14), (.slice A0_15 l0_15.length c0_15), (.slice A0_16 l0_16.length c0_16), (.slice A0_17 l0_17.length c0_17), (.slice A0_18 l0_18.length c0_18)] 36 (0, 0))) ∧ Aside0 (wc.heap[gb112]? = some (.cells #[.int .i64 a1_0, .int .i64 a1_1, .int .i64 a1_2, .int .i64 a1_3, .int .i64 a1_4, .int .i64 a1_5, .int .i64 a1_6, .int .i64 a1_7, .int .i64 a1_8, .int .i64 a1_9, .int .i64 a1_10, .int .i64 a1_11, .int .i64 a1_12, .int .i64 a1_13, (.slice A1_14 l1_14.length c1_14), (.slice A1_15 l1_15.length c1_15), (.slice A1_16 l1_16.length c1_16), (.slice A1_17 l1_17.length c1_17), (.slice A1_18 l1_18.length c1_18)] 36 (0, 0))) ∧ Aside0 (Below w.heap.size w wc))
  case first =>
    have H := HC3.out
    clear HC3
    by_cases c6 : a0_0 = a1_0
    · rw [if_pos c6] at H
      have c6b0 : (a0_0 == a1_0) = true := beq_iff_eq.mpr c6
      have c6b1 : (a0_0 != a1_0) = false := bne_eq_false_iff_eq.mpr c6
      clear c6
      (first | rw [c6b0] | (simp only [i64_w, i32_w]; rw [c6b0]) | skip)
      by_cases c7 : (!(a0_1 == a1_1) || (!(a0_2 == a1_2) || (!(a0_3 == a1_3)))) = true
      · rw [if_pos c7] at H
        have c7b0 : (!(a0_1 == a1_1) || (!(a0_2 == a1_2) || (!(a0_3 == a1_3)))) = true := c7
        clear c7
        have H' := Aside0.mk H
        clear H
        have hnb8 := NB111_112.out
        have hnc8 := NB112_111.out
        have hcz9_0 : w5.cell? ⟨gb111, 0, none⟩ = some (.int .i64 a0_0) := (blk_cell BK111.out 0).trans rfl
        have hcz9_1 : w5.cell? ⟨gb111, 1, none⟩ = some (.int .i64 a0_1) := (blk_cell BK111.out 1).trans rfl
        have hcz9_2 : w5.cell? ⟨gb111, 2, none⟩ = some (.int .i64 a0_2) := (blk_cell BK111.out 2).trans rfl
        have hcz9_3 : w5.cell? ⟨gb111, 3, none⟩ = some (.int .i64 a0_3) := (blk_cell BK111.out 3).trans rfl
        have hcz9_4 : w5.cell? ⟨gb111, 4, none⟩ = some (.int .i64 a0_4) := (blk_cell BK111.out 4).trans rfl
        have hcz9_5 : w5.cell? ⟨gb111, 5, none⟩ = some (.int .i64 a0_5) := (blk_cell BK111.out 5).trans rfl
        have hcz9_6 : w5.cell? ⟨gb111, 6, none⟩ = some (.int .i64 a0_6) := (blk_cell BK111.out 6).trans rfl
        have hcz9_7 : w5.cell? ⟨gb111, 7, none⟩ = some (.int .i64 a0_7) := (blk_cell BK111.out 7).trans rfl
        have hcz9_8 : w5.cell? ⟨gb111, 8, none⟩ = some (.int .i64 a0_8) := (blk_cell BK111.out 8).trans rfl
        have hcz9_9 : w5.cell? ⟨gb111, 9, none⟩ = some (.int .i64 a0_9) := (blk_cell BK111.out 9).trans rfl
        have hcz9_10 : w5.cell? ⟨gb111, 10, none⟩ = some (.int .i64 a0_10) := (blk_cell BK111.out 10).trans rfl
        have hcz9_11 : w5.cell? ⟨gb111, 11, none⟩ = some (.int .i64 a0_11) := (blk_cell BK111.out 11).trans rfl
        have hcz9_12 : w5.cell? ⟨gb111, 12, none⟩ = some (.int .i64 a0_12) := (blk_cell BK111.out 12).trans rfl
        have hcz9_13 : w5.cell? ⟨gb111, 13, none⟩ = some (.int .i64 a0_13) := (blk_cell BK111.out 13).trans rfl
        have hcz9_14 : w5.cell? ⟨gb111, 14, none⟩ = some (.slice A0_14 l0_14.length c0_14) := (blk_cell BK111.out 14).trans rfl
        have hcz9_15 : w5.cell? ⟨gb111, 15, none⟩ = some (.slice A0_15 l0_15.length c0_15) := (blk_cell BK111.out 15).trans rfl
        have hcz9_16 : w5.cell? ⟨gb111, 16, none⟩ = some (.slice A0_16 l0_16.length c0_16) := (blk_cell BK111.out 16).trans rfl
        have hcz9_17 : w5.cell? ⟨gb111, 17, none⟩ = some (.slice A0_17 l0_17.length c0_17) := (blk_cell BK111.out 17).trans rfl
        have hcz9_18 : w5.cell? ⟨gb111, 18, none⟩ = some (.slice A0_18 l0_18.length c0_18) := (blk_cell BK111.out 18).trans rfl
        have hfz9_0 := blk_frozen BK111.out 0
        have hfz9_1 := blk_frozen BK111.out 1
        have hfz9_2 := blk_frozen BK111.out 2
        have hfz9_3 := blk_frozen BK111.out 3
        have hfz9_4 := blk_frozen BK111.out 4
        have hfz9_5 := blk_frozen BK111.out 5
        have hfz9_6 := blk_frozen BK111.out 6
        have hfz9_7 := blk_frozen BK111.out 7
        have hfz9_8 := blk_frozen BK111.out 8
        have hfz9_9 := blk_frozen BK111.out 9
        have hfz9_10 := blk_frozen BK111.out 10
        have hfz9_11 := blk_frozen BK111.out 11
        have hfz9_12 := blk_frozen BK111.out 12
        have hfz9_13 := blk_frozen BK111.out 13
        have hfz9_14 := blk_frozen BK111.out 14
        have hfz9_15 := blk_frozen BK111.out 15
        have hfz9_16 := blk_frozen BK111.out 16
        have hfz9_17 := blk_frozen BK111.out 17
        have hfz9_18 := blk_frozen BK111.out 18
        have hcz10_0 : w5.cell? ⟨gb112, 0, none⟩ = some (.int .i64 a1_0) := (blk_cell BK112.out 0).trans rfl
        have hcz10_1 : w5.cell? ⟨gb112, 1, none⟩ = some (.int .i64 a1_1) := (blk_cell BK112.out 1).trans rfl
        have hcz10_2 : w5.cell? ⟨gb112, 2, none⟩ = some (.int .i64 a1_2) := (blk_cell BK112.out 2).trans rfl
        have hcz10_3 : w5.cell? ⟨gb112, 3, none⟩ = some (.int .i64 a1_3) := (blk_cell BK112.out 3).trans rfl
        have hcz10_4 : w5.cell? ⟨gb112, 4, none⟩ = some (.int .i64 a1_4) := (blk_cell BK112.out 4).trans rfl
        have hcz10_5 : w5.cell? ⟨gb112, 5, none⟩ = some (.int .i64 a1_5) := (blk_cell BK112.out 5).trans rfl
        have hcz10_6 : w5.cell? ⟨gb112, 6, none⟩ = some (.int .i64 a1_6) := (blk_cell BK112.out 6).trans rfl
        have hcz10_7 : w5.cell? ⟨gb112, 7, none⟩ = some (.int .i64 a1_7) := (blk_cell BK112.out 7).trans rfl
        have hcz10_8 : w5.cell? ⟨gb112, 8, none⟩ = some (.int .i64 a1_8) := (blk_cell BK112.out 8).trans rfl
        have hcz10_9 : w5.cell? ⟨gb112, 9, none⟩ = some (.int .i64 a1_9) := (blk_cell BK112.out 9).trans rfl
        have hcz10_10 : w5.cell? ⟨gb112, 10, none⟩ = some (.int .i64 a1_10) := (blk_cell BK112.out 10).trans rfl
        have hcz10_11 : w5.cell? ⟨gb112, 11, none⟩ = some (.int .i64 a1_11) := (blk_cell BK112.out 11).trans rfl
        have hcz10_12 : w5.cell? ⟨gb112, 12, none⟩ = some (.int .i64 a1_12) := (blk_cell BK112.out 12).trans rfl
        have hcz10_13 : w5.cell? ⟨gb112, 13, none⟩ = some (.int .i64 a1_13) := (blk_cell BK112.out 13).trans rfl
        have hcz10_14 : w5.cell? ⟨gb112, 14, none⟩ = some (.slice A1_14 l1_14.length c1_14) := (blk_cell BK112.out 14).trans rfl
        have hcz10_15 : w5.cell? ⟨gb112, 15, none⟩ = some (.slice A1_15 l1_15.length c1_15) := (blk_cell BK112.out 15).trans rfl
        have hcz10_16 : w5.cell? ⟨gb112, 16, none⟩ = some (.slice A1_16 l1_16.length c1_16) := (blk_cell BK112.out 16).trans rfl
        have hcz10_17 : w5.cell? ⟨gb112, 17, none⟩ = some (.slice A1_17 l1_17.length c1_17) := (blk_cell BK112.out 17).trans rfl
        have hcz10_18 : w5.cell? ⟨gb112, 18, none⟩ = some (.slice A1_18 l1_18.length c1_18) := (blk_cell BK112.out 18).trans rfl
        have hfz10_0 := blk_frozen BK112.out 0
        have hfz10_1 := blk_frozen BK112.out 1
        have hfz10_2 := blk_frozen BK112.out 2
        have hfz10_3 := blk_frozen BK112.out 3
        have hfz10_4 := blk_frozen BK112.out 4
        have hfz10_5 := blk_frozen BK112.out 5
        have hfz10_6 := blk_frozen BK112.out 6
        have hfz10_7 := blk_frozen BK112.out 7
        have hfz10_8 := blk_frozen BK112.out 8
        have hfz10_9 := blk_frozen BK112.out 9
        have hfz10_10 := blk_frozen BK112.out 10
        have hfz10_11 := blk_frozen BK112.out 11
        have hfz10_12 := blk_frozen BK112.out 12
        have hfz10_13 := blk_frozen BK112.out 13
        have hfz10_14 := blk_frozen BK112.out 14
        have hfz10_15 := blk_frozen BK112.out 15
        have hfz10_16 := blk_frozen BK112.out 16
        have hfz10_17 := blk_frozen BK112.out 17
        have hfz10_18 := blk_frozen BK112.out 18
        go_wp2
        go_meet
        case rel => exact ⟨_, (true), (by first | rfl | (simp; done) | (simp [*]; done) | (simp [*]; generalize ByteArray.toList _ = l_; cases l_ <;> rfl)), H', ⟨by first | omega | exact Nat.le_refl _⟩, ⟨by (with_reducible repeat (first | refine blk_drewN ?_ _ | refine blk_drew ?_ | refine blk_alloc ?_ _)); exact BK111.out⟩, ⟨by (with_reducible repeat (first | refine blk_drewN ?_ _ | refine blk_drew ?_ | refine blk_alloc ?_ _)); exact BK112.out⟩, ⟨by repeat (first | (with_reducible first | exact HB.out | apply below_alloc | apply pw_below_drewN | apply below_drew1 | refine below_set ?_ GE111.out | refine below_set ?_ GE112.out) | exact HB.out)⟩⟩
      · rw [if_neg c7] at H
        have c7b0 : (!(a0_1 == a1_1) || (!(a0_2 == a1_2) || (!(a0_3 == a1_3)))) = false := by simpa using c7
        clear c7
        by_cases c11 : (!(a0_4 == a1_4) || (!(a0_5 == a1_5))) = true
        · rw [if_pos c11] at H
          have c11b0 : (!(a0_4 == a1_4) || (!(a0_5 == a1_5))) = true := c11
          clear c11
          have H' := Aside0.mk H
          clear H
          have hnb12 := NB111_112.out
          have hnc12 := NB112_111.out
          have hcz13_0 : w5.cell? ⟨gb111, 0, none⟩ = some (.int .i64 a0_0) := (blk_cell BK111.out 0).trans rfl
          have hcz13_1 : w5.cell? ⟨gb111, 1, none⟩ = some (.int .i64 a0_1) := (blk_cell BK111.out 1).trans rfl
          have hcz13_2 : w5.cell? ⟨gb111, 2, none⟩ = some (.int .i64 a0_2) := (blk_cell BK111.out 2).trans rfl
          have hcz13_3 : w5.cell? ⟨gb111, 3, none⟩ = some (.int .i64 a0_3) := (blk_cell BK111.out 3).trans rfl
          have hcz13_4 : w5.cell? ⟨gb111, 4, none⟩ = some (.int .i64 a0_4) := (blk_cell BK111.out 4).trans rfl
          have hcz13_5 : w5.cell? ⟨gb111, 5, none⟩ = some (.int .i64 a0_5) := (blk_cell BK111.out 5).trans rfl
          have hcz13_6 : w5.cell? ⟨gb111, 6, none⟩ = some (.int .i64 a0_6) := (blk_cell BK111.out 6).trans rfl
          have hcz13_7 : w5.cell? ⟨gb111, 7, none⟩ = some (.int .i64 a0_7) := (blk_cell BK111.out 7).trans rfl
          have hcz13_8 : w5.cell? ⟨gb111, 8, none⟩ = some (.int .i64 a0_8) := (blk_cell BK111.out 8).trans rfl
          have hcz13_9 : w5.cell? ⟨gb111, 9, none⟩ = some (.int .i64 a0_9) := (blk_cell BK111.out 9).trans rfl
          have hcz13_10 : w5.cell? ⟨gb111, 10, none⟩ = some (.int .i64 a0_10) := (blk_cell BK111.out 10).trans rfl
          have hcz13_11 : w5.cell? ⟨gb111, 11, none⟩ = some (.int .i64 a0_11) := (blk_cell BK111.out 11).trans rfl
          have hcz13_12 : w5.cell? ⟨gb111, 12, none⟩ = some (.int .i64 a0_12) := (blk_cell BK111.out 12).trans rfl
          have hcz13_13 : w5.cell? ⟨gb111, 13, none⟩ = some (.int .i64 a0_13) := (blk_cell BK111.out 13).trans rfl
          have hcz13_14 : w5.cell? ⟨gb111, 14, none⟩ = some (.slice A0_14 l0_14.length c0_14) := (blk_cell BK111.out 14).trans rfl
          have hcz13_15 : w5.cell? ⟨gb111, 15, none⟩ = some (.slice A0_15 l0_15.length c0_15) := (blk_cell BK111.out 15).trans rfl
          have hcz13_16 : w5.cell? ⟨gb111, 16, none⟩ = some (.slice A0_16 l0_16.length c0_16) := (blk_cell BK111.out 16).trans rfl
          have hcz13_17 : w5.cell? ⟨gb111, 17, none⟩ = some (.slice A0_17 l0_17.length c0_17) := (blk_cell BK111.out 17).trans rfl
          have hcz13_18 : w5.cell? ⟨gb111, 18, none⟩ = some (.slice A0_18 l0_18.length c0_18) := (blk_cell BK111.out 18).trans rfl
          have hfz13_0 := blk_frozen BK111.out 0
          have hfz13_1 := blk_frozen BK111.out 1
          have hfz13_2 := blk_frozen BK111.out 2
          have hfz13_3 := blk_frozen BK111.out 3
          have hfz13_4 := blk_frozen BK111.out 4
          have hfz13_5 := blk_frozen BK111.out 5
          have hfz13_6 := blk_frozen BK111.out 6
          have hfz13_7 := blk_frozen BK111.out 7
          have hfz13_8 := blk_frozen BK111.out 8
          have hfz13_9 := blk_frozen BK111.out 9
          have hfz13_10 := blk_frozen BK111.out 10
          have hfz13_11 := blk_frozen BK111.out 11
          have hfz13_12 := blk_frozen BK111.out 12
          have hfz13_13 := blk_frozen BK111.out 13
          have hfz13_14 := blk_frozen BK111.out 14
          have hfz13_15 := blk_frozen BK111.out 15
          have hfz13_16 := blk_frozen BK111.out 16
          have hfz13_17 := blk_frozen BK111.out 17
          have hfz13_18 := blk_frozen BK111.out 18
          have hcz14_0 : w5.cell? ⟨gb112, 0, none⟩ = some (.int .i64 a1_0) := (blk_cell BK112.out 0).trans rfl
          have hcz14_1 : w5.cell? ⟨gb112, 1, none⟩ = some (.int .i64 a1_1) := (blk_cell BK112.out 1).trans rfl
          have hcz14_2 : w5.cell? ⟨gb112, 2, none⟩ = some (.int .i64 a1_2) := (blk_cell BK112.out 2).trans rfl
          have hcz14_3 : w5.cell? ⟨gb112, 3, none⟩ = some (.int .i64 a1_3) := (blk_cell BK112.out 3).trans rfl
          have hcz14_4 : w5.cell? ⟨gb112, 4, none⟩ = some (.int .i64 a1_4) := (blk_cell BK112.out 4).trans rfl
          have hcz14_5 : w5.cell? ⟨gb112, 5, none⟩ = some (.int .i64 a1_5) := (blk_cell BK112.out 5).trans rfl
          have hcz14_6 : w5.cell? ⟨gb112, 6, none⟩ = some (.int .i64 a1_6) := (blk_cell BK112.out 6).trans rfl
          have hcz14_7 : w5.cell? ⟨gb112, 7, none⟩ = some (.int .i64 a1_7) := (blk_cell BK112.out 7).trans rfl
          have hcz14_8 : w5.cell? ⟨gb112, 8, none⟩ = some (.int .i64 a1_8) := (blk_cell BK112.out 8).trans rfl
          have hcz14_9 : w5.cell? ⟨gb112, 9, none⟩ = some (.int .i64 a1_9) := (blk_cell BK112.out 9).trans rfl
          have hcz14_10 : w5.cell? ⟨gb112, 10, none⟩ = some (.int .i64 a1_10) := (blk_cell BK112.out 10).trans rfl
          have hcz14_11 : w5.cell? ⟨gb112, 11, none⟩ = some (.int .i64 a1_11) := (blk_cell BK112.out 11).trans rfl
          have hcz14_12 : w5.cell? ⟨gb112, 12, none⟩ = some (.int .i64 a1_12) := (blk_cell BK112.out 12).trans rfl
          have hcz14_13 : w5.cell? ⟨gb112, 13, none⟩ = some (.int .i64 a1_13) := (blk_cell BK112.out 13).trans rfl
          have hcz14_14 : w5.cell? ⟨gb112, 14, none⟩ = some (.slice A1_14 l1_14.length c1_14) := (blk_cell BK112.out 14).trans rfl
          have hcz14_15 : w5.cell? ⟨gb112, 15, none⟩ = some (.slice A1_15 l1_15.length c1_15) := (blk_cell BK112.out 15).trans rfl
          have hcz14_16 : w5.cell? ⟨gb112, 16, none⟩ = some (.slice A1_16 l1_16.length c1_16) := (blk_cell BK112.out 16).trans rfl
          have hcz14_17 : w5.cell? ⟨gb112, 17, none⟩ = some (.slice A1_17 l1_17.length c1_17) := (blk_cell BK112.out 17).trans rfl
          have hcz14_18 : w5.cell? ⟨gb112, 18, none⟩ = some (.slice A1_18 l1_18.length c1_18) := (blk_cell BK112.out 18).trans rfl
          have hfz14_0 := blk_frozen BK112.out 0
          have hfz14_1 := blk_frozen BK112.out 1
          have hfz14_2 := blk_frozen BK112.out 2
          have hfz14_3 := blk_frozen BK112.out 3
          have hfz14_4 := blk_frozen BK112.out 4
          have hfz14_5 := blk_frozen BK112.out 5
          have hfz14_6 := blk_frozen BK112.out 6
          have hfz14_7 := blk_frozen BK112.out 7
          have hfz14_8 := blk_frozen BK112.out 8
          have hfz14_9 := blk_frozen BK112.out 9
          have hfz14_10 := blk_frozen BK112.out 10
          have hfz14_11 := blk_frozen BK112.out 11
          have hfz14_12 := blk_frozen BK112.out 12
          have hfz14_13 := blk_frozen BK112.out 13
          have hfz14_14 := blk_frozen BK112.out 14
          have hfz14_15 := blk_frozen BK112.out 15
          have hfz14_16 := blk_frozen BK112.out 16
          have hfz14_17 := blk_frozen BK112.out 17
          have hfz14_18 := blk_frozen BK112.out 18
          go_wp2
          go_meet
          case rel => exact ⟨_, (true), (by first | rfl | (simp; done) | (simp [*]; done) | (simp [*]; generalize ByteArray.toList _ = l_; cases l_ <;> rfl)), H', ⟨by first | omega | exact Nat.le_refl _⟩, ⟨by (with_reducible repeat (first | refine blk_drewN ?_ _ | refine blk_drew ?_ | refine blk_alloc ?_ _)); exact BK111.out⟩, ⟨by (with_reducible repeat (first | refine blk_drewN ?_ _ | refine blk_drew ?_ | refine blk_alloc ?_ _)); exact BK112.out⟩, ⟨by repeat (first | (with_reducible first | exact HB.out | apply below_alloc | apply pw_below_drewN | apply below_drew1 | refine below_set ?_ GE111.out | refine below_set ?_ GE112.out) | exact HB.out)⟩⟩
        · rw [if_neg c11] at H
          have c11b0 : (!(a0_4 == a1_4) || (!(a0_5 == a1_5))) = false := by simpa using c11
          clear c11
          by_cases c15 : a0_6 = a1_6
          · rw [if_pos c15] at H
            have c15b0 : (a0_6 == a1_6) = true := beq_iff_eq.mpr c15
            have c15b1 : (a0_6 != a1_6) = false := bne_eq_false_iff_eq.mpr c15
            clear c15
            by_cases c16 : a0_7 = a1_7
            · rw [if_pos c16] at H
              have c16b0 : (a0_7 == a1_7) = true := beq_iff_eq.mpr c16
              have c16b1 : (a0_7 != a1_7) = false := bne_eq_false_iff_eq.mpr c16
              clear c16
              by_cases c17 : a0_8 = a1_8
              · rw [if_pos c17] at H
                have c17b0 : (a0_8 == a1_8) = true := beq_iff_eq.mpr c17
                have c17b1 : (a0_8 != a1_8) = false := bne_eq_false_iff_eq.mpr c17
                clear c17
                by_cases c18 : a0_9 = a1_9
                · rw [if_pos c18] at H
                  have c18b0 : (a0_9 == a1_9) = true := beq_iff_eq.mpr c18
                  have c18b1 : (a0_9 != a1_9) = false := bne_eq_false_iff_eq.mpr c18
                  clear c18
                  by_cases c19 : a0_10 = a1_10
                  · rw [if_pos c19] at H
                    have c19b0 : (a0_10 == a1_10) = true := beq_iff_eq.mpr c19
                    have c19b1 : (a0_10 != a1_10) = false := bne_eq_false_iff_eq.mpr c19
                    clear c19
                    by_cases c20 : a0_11 = a1_11
                    · rw [if_pos c20] at H
                      have c20b0 : (a0_11 == a1_11) = true := beq_iff_eq.mpr c20
                      have c20b1 : (a0_11 != a1_11) = false := bne_eq_false_iff_eq.mpr c20
                      clear c20
                      by_cases c21 : a0_12 = a1_12
                      · rw [if_pos c21] at H
                        have c21b0 : (a0_12 == a1_12) = true := beq_iff_eq.mpr c21
                        have c21b1 : (a0_12 != a1_12) = false := bne_eq_false_iff_eq.mpr c21
                        clear c21
                        have H' := Aside0.mk H
                        clear H
                        have hnb22 := NB111_112.out
                        have hnc22 := NB112_111.out
                        have hcz23_0 : w5.cell? ⟨gb111, 0, none⟩ = some (.int .i64 a0_0) := (blk_cell BK111.out 0).trans rfl
                        have hcz23_1 : w5.cell? ⟨gb111, 1, none⟩ = some (.int .i64 a0_1) := (blk_cell BK111.out 1).trans rfl
                        have hcz23_2 : w5.cell? ⟨gb111, 2, none⟩ = some (.int .i64 a0_2) := (blk_cell BK111.out 2).trans rfl
                        have hcz23_3 : w5.cell? ⟨gb111, 3, none⟩ = some (.int .i64 a0_3) := (blk_cell BK111.out 3).trans rfl
                        have hcz23_4 : w5.cell? ⟨gb111, 4, none⟩ = some (.int .i64 a0_4) := (blk_cell BK111.out 4).trans rfl
                        have hcz23_5 : w5.cell? ⟨gb111, 5, none⟩ = some (.int .i64 a0_5) := (blk_cell BK111.out 5).trans rfl
                        have hcz23_6 : w5.cell? ⟨gb111, 6, none⟩ = some (.int .i64 a0_6) := (blk_cell BK111.out 6).trans rfl
                        have hcz23_7 : w5.cell? ⟨gb111, 7, none⟩ = some (.int .i64 a0_7) := (blk_cell BK111.out 7).trans rfl
                        have hcz23_8 : w5.cell? ⟨gb111, 8, none⟩ = some (.int .i64 a0_8) := (blk_cell BK111.out 8).trans rfl
                        have hcz23_9 : w5.cell? ⟨gb111, 9, none⟩ = some (.int .i64 a0_9) := (blk_cell BK111.out 9).trans rfl
                        have hcz23_10 : w5.cell? ⟨gb111, 10, none⟩ = some (.int .i64 a0_10) := (blk_cell BK111.out 10).trans rfl
                        have hcz23_11 : w5.cell? ⟨gb111, 11, none⟩ = some (.int .i64 a0_11) := (blk_cell BK111.out 11).trans rfl
                        have hcz23_12 : w5.cell? ⟨gb111, 12, none⟩ = some (.int .i64 a0_12) := (blk_cell BK111.out 12).trans rfl
                        have hcz23_13 : w5.cell? ⟨gb111, 13, none⟩ = some (.int .i64 a0_13) := (blk_cell BK111.out 13).trans rfl
                        have hcz23_14 : w5.cell? ⟨gb111, 14, none⟩ = some (.slice A0_14 l0_14.length c0_14) := (blk_cell BK111.out 14).trans rfl
                        have hcz23_15 : w5.cell? ⟨gb111, 15, none⟩ = some (.slice A0_15 l0_15.length c0_15) := (blk_cell BK111.out 15).trans rfl
                        have hcz23_16 : w5.cell? ⟨gb111, 16, none⟩ = some (.slice A0_16 l0_16.length c0_16) := (blk_cell BK111.out 16).trans rfl
                        have hcz23_17 : w5.cell? ⟨gb111, 17, none⟩ = some (.slice A0_17 l0_17.length c0_17) := (blk_cell BK111.out 17).trans rfl
                        have hcz23_18 : w5.cell? ⟨gb111, 18, none⟩ = some (.slice A0_18 l0_18.length c0_18) := (blk_cell BK111.out 18).trans rfl
                        have hfz23_0 := blk_frozen BK111.out 0
                        have hfz23_1 := blk_frozen BK111.out 1
                        have hfz23_2 := blk_frozen BK111.out 2
                        have hfz23_3 := blk_frozen BK111.out 3
                        have hfz23_4 := blk_frozen BK111.out 4
                        have hfz23_5 := blk_frozen BK111.out 5
                        have hfz23_6 := blk_frozen BK111.out 6
                        have hfz23_7 := blk_frozen BK111.out 7
                        have hfz23_8 := blk_frozen BK111.out 8
                        have hfz23_9 := blk_frozen BK111.out 9
                        have hfz23_10 := blk_frozen BK111.out 10
                        have hfz23_11 := blk_frozen BK111.out 11
                        have hfz23_12 := blk_frozen BK111.out 12
                        have hfz23_13 := blk_frozen BK111.out 13
                        have hfz23_14 := blk_frozen BK111.out 14
                        have hfz23_15 := blk_frozen BK111.out 15
                        have hfz23_16 := blk_frozen BK111.out 16
                        have hfz23_17 := blk_frozen BK111.out 17
                        have hfz23_18 := blk_frozen BK111.out 18
                        have hcz24_0 : w5.cell? ⟨gb112, 0, none⟩ = some (.int .i64 a1_0) := (blk_cell BK112.out 0).trans rfl
                        have hcz24_1 : w5.cell? ⟨gb112, 1, none⟩ = some (.int .i64 a1_1) := (blk_cell BK112.out 1).trans rfl
                        have hcz24_2 : w5.cell? ⟨gb112, 2, none⟩ = some (.int .i64 a1_2) := (blk_cell BK112.out 2).trans rfl
                        have hcz24_3 : w5.cell? ⟨gb112, 3, none⟩ = some (.int .i64 a1_3) := (blk_cell BK112.out 3).trans rfl
                        have hcz24_4 : w5.cell? ⟨gb112, 4, none⟩ = some (.int .i64 a1_4) := (blk_cell BK112.out 4).trans rfl
                        have hcz24_5 : w5.cell? ⟨gb112, 5, none⟩ = some (.int .i64 a1_5) := (blk_cell BK112.out 5).trans rfl
                        have hcz24_6 : w5.cell? ⟨gb112, 6, none⟩ = some (.int .i64 a1_6) := (blk_cell BK112.out 6).trans rfl
                        have hcz24_7 : w5.cell? ⟨gb112, 7, none⟩ = some (.int .i64 a1_7) := (blk_cell BK112.out 7).trans rfl
                        have hcz24_8 : w5.cell? ⟨gb112, 8, none⟩ = some (.int .i64 a1_8) := (blk_cell BK112.out 8).trans rfl
                        have hcz24_9 : w5.cell? ⟨gb112, 9, none⟩ = some (.int .i64 a1_9) := (blk_cell BK112.out 9).trans rfl
                        have hcz24_10 : w5.cell? ⟨gb112, 10, none⟩ = some (.int .i64 a1_10) := (blk_cell BK112.out 10).trans rfl
                        have hcz24_11 : w5.cell? ⟨gb112, 11, none⟩ = some (.int .i64 a1_11) := (blk_cell BK112.out 11).trans rfl
                        have hcz24_12 : w5.cell? ⟨gb112, 12, none⟩ = some (.int .i64 a1_12) := (blk_cell BK112.out 12).trans rfl
                        have hcz24_13 : w5.cell? ⟨gb112, 13, none⟩ = some (.int .i64 a1_13) := (blk_cell BK112.out 13).trans rfl
                        have hcz24_14 : w5.cell? ⟨gb112, 14, none⟩ = some (.slice A1_14 l1_14.length c1_14) := (blk_cell BK112.out 14).trans rfl
                        have hcz24_15 : w5.cell? ⟨gb112, 15, none⟩ = some (.slice A1_15 l1_15.length c1_15) := (blk_cell BK112.out 15).trans rfl
                        have hcz24_16 : w5.cell? ⟨gb112, 16, none⟩ = some (.slice A1_16 l1_16.length c1_16) := (blk_cell BK112.out 16).trans rfl
                        have hcz24_17 : w5.cell? ⟨gb112, 17, none⟩ = some (.slice A1_17 l1_17.length c1_17) := (blk_cell BK112.out 17).trans rfl
                        have hcz24_18 : w5.cell? ⟨gb112, 18, none⟩ = some (.slice A1_18 l1_18.length c1_18) := (blk_cell BK112.out 18).trans rfl
                        have hfz24_0 := blk_frozen BK112.out 0
                        have hfz24_1 := blk_frozen BK112.out 1
                        have hfz24_2 := blk_frozen BK112.out 2
                        have hfz24_3 := blk_frozen BK112.out 3
                        have hfz24_4 := blk_frozen BK112.out 4
                        have hfz24_5 := blk_frozen BK112.out 5
                        have hfz24_6 := blk_frozen BK112.out 6
                        have hfz24_7 := blk_frozen BK112.out 7
                        have hfz24_8 := blk_frozen BK112.out 8
                        have hfz24_9 := blk_frozen BK112.out 9
                        have hfz24_10 := blk_frozen BK112.out 10
                        have hfz24_11 := blk_frozen BK112.out 11
                        have hfz24_12 := blk_frozen BK112.out 12
                        have hfz24_13 := blk_frozen BK112.out 13
                        have hfz24_14 := blk_frozen BK112.out 14
                        have hfz24_15 := blk_frozen BK112.out 15
                        have hfz24_16 := blk_frozen BK112.out 16
                        have hfz24_17 := blk_frozen BK112.out 17
                        have hfz24_18 := blk_frozen BK112.out 18
                        go_wp2
                        go_meet
                        case rel => exact ⟨_, ((a0_13 != a1_13)), (by first | rfl | (simp; done) | (simp [*]; done) | (simp [*]; generalize ByteArray.toList _ = l_; cases l_ <;> rfl)), H', ⟨by first | omega | exact Nat.le_refl _⟩, ⟨by (with_reducible repeat (first | refine blk_drewN ?_ _ | refine blk_drew ?_ | refine blk_alloc ?_ _)); exact BK111.out⟩, ⟨by (with_reducible repeat (first | refine blk_drewN ?_ _ | refine blk_drew ?_ | refine blk_alloc ?_ _)); exact BK112.out⟩, ⟨by repeat (first | (with_reducible first | exact HB.out | apply below_alloc | apply pw_below_drewN | apply below_drew1 | refine below_set ?_ GE111.out | refine below_set ?_ GE112.out) | exact HB.out)⟩⟩
                      · rw [if_neg c21] at H
                        have c21b0 : (a0_12 == a1_12) = false := beq_eq_false_iff_ne.mpr c21
                        have c21b1 : (a0_12 != a1_12) = true := bne_iff_ne.mpr c21
                        have H' := Aside0.mk H
                        clear H
                        have hnb25 := NB111_112.out
                        have hnc25 := NB112_111.out
                        have hcz26_0 : w5.cell? ⟨gb111, 0, none⟩ = some (.int .i64 a0_0) := (blk_cell BK111.out 0).trans rfl
                        have hcz26_1 : w5.cell? ⟨gb111, 1, none⟩ = some (.int .i64 a0_1) := (blk_cell BK111.out 1).trans rfl
                        have hcz26_2 : w5.cell? ⟨gb111, 2, none⟩ = some (.int .i64 a0_2) := (blk_cell BK111.out 2).trans rfl
                        have hcz26_3 : w5.cell? ⟨gb111, 3, none⟩ = some (.int .i64 a0_3) := (blk_cell BK111.out 3).trans rfl
                        have hcz26_4 : w5.cell? ⟨gb111, 4, none⟩ = some (.int .i64 a0_4) := (blk_cell BK111.out 4).trans rfl
                        have hcz26_5 : w5.cell? ⟨gb111, 5, none⟩ = some (.int .i64 a0_5) := (blk_cell BK111.out 5).trans rfl
                        have hcz26_6 : w5.cell? ⟨gb111, 6, none⟩ = some (.int .i64 a0_6) := (blk_cell BK111.out 6).trans rfl
                        have hcz26_7 : w5.cell? ⟨gb111, 7, none⟩ = some (.int .i64 a0_7) := (blk_cell BK111.out 7).trans rfl
                        have hcz26_8 : w5.cell? ⟨gb111, 8, none⟩ = some (.int .i64 a0_8) := (blk_cell BK111.out 8).trans rfl
                        have hcz26_9 : w5.cell? ⟨gb111, 9, none⟩ = some (.int .i64 a0_9) := (blk_cell BK111.out 9).trans rfl
                        have hcz26_10 : w5.cell? ⟨gb111, 10, none⟩ = some (.int .i64 a0_10) := (blk_cell BK111.out 10).trans rfl
                        have hcz26_11 : w5.cell? ⟨gb111, 11, none⟩ = some (.int .i64 a0_11) := (blk_cell BK111.out 11).trans rfl
                        have hcz26_12 : w5.cell? ⟨gb111, 12, none⟩ = some (.int .i64 a0_12) := (blk_cell BK111.out 12).trans rfl
                        have hcz26_13 : w5.cell? ⟨gb111, 13, none⟩ = some (.int .i64 a0_13) := (blk_cell BK111.out 13).trans rfl
                        have hcz26_14 : w5.cell? ⟨gb111, 14, none⟩ = some (.slice A0_14 l0_14.length c0_14) := (blk_cell BK111.out 14).trans rfl
                        have hcz26_15 : w5.cell? ⟨gb111, 15, none⟩ = some (.slice A0_15 l0_15.length c0_15) := (blk_cell BK111.out 15).trans rfl
                        have hcz26_16 : w5.cell? ⟨gb111, 16, none⟩ = some (.slice A0_16 l0_16.length c0_16) := (blk_cell BK111.out 16).trans rfl
                        have hcz26_17 : w5.cell? ⟨gb111, 17, none⟩ = some (.slice A0_17 l0_17.length c0_17) := (blk_cell BK111.out 17).trans rfl
                        have hcz26_18 : w5.cell? ⟨gb111, 18, none⟩ = some (.slice A0_18 l0_18.length c0_18) := (blk_cell BK111.out 18).trans rfl
                        have hfz26_0 := blk_frozen BK111.out 0
                        have hfz26_1 := blk_frozen BK111.out 1
                        have hfz26_2 := blk_frozen BK111.out 2
                        have hfz26_3 := blk_frozen BK111.out 3
                        have hfz26_4 := blk_frozen BK111.out 4
                        have hfz26_5 := blk_frozen BK111.out 5
                        have hfz26_6 := blk_frozen BK111.out 6
                        have hfz26_7 := blk_frozen BK111.out 7
                        have hfz26_8 := blk_frozen BK111.out 8
                        have hfz26_9 := blk_frozen BK111.out 9
                        have hfz26_10 := blk_frozen BK111.out 10
                        have hfz26_11 := blk_frozen BK111.out 11
                        have hfz26_12 := blk_frozen BK111.out 12
                        have hfz26_13 := blk_frozen BK111.out 13
                        have hfz26_14 := blk_frozen BK111.out 14
                        have hfz26_15 := blk_frozen BK111.out 15
                        have hfz26_16 := blk_frozen BK111.out 16
                        have hfz26_17 := blk_frozen BK111.out 17
                        have hfz26_18 := blk_frozen BK111.out 18
                        have hcz27_0 : w5.cell? ⟨gb112, 0, none⟩ = some (.int .i64 a1_0) := (blk_cell BK112.out 0).trans rfl
                        have hcz27_1 : w5.cell? ⟨gb112, 1, none⟩ = some (.int .i64 a1_1) := (blk_cell BK112.out 1).trans rfl
                        have hcz27_2 : w5.cell? ⟨gb112, 2, none⟩ = some (.int .i64 a1_2) := (blk_cell BK112.out 2).trans rfl
                        have hcz27_3 : w5.cell? ⟨gb112, 3, none⟩ = some (.int .i64 a1_3) := (blk_cell BK112.out 3).trans rfl
                        have hcz27_4 : w5.cell? ⟨gb112, 4, none⟩ = some (.int .i64 a1_4) := (blk_cell BK112.out 4).trans rfl
                        have hcz27_5 : w5.cell? ⟨gb112, 5, none⟩ = some (.int .i64 a1_5) := (blk_cell BK112.out 5).trans rfl
                        have hcz27_6 : w5.cell? ⟨gb112, 6, none⟩ = some (.int .i64 a1_6) := (blk_cell BK112.out 6).trans rfl
                        have hcz27_7 : w5.cell? ⟨gb112, 7, none⟩ = some (.int .i64 a1_7) := (blk_cell BK112.out 7).trans rfl
                        have hcz27_8 : w5.cell? ⟨gb112, 8, none⟩ = some (.int .i64 a1_8) := (blk_cell BK112.out 8).trans rfl
                        have hcz27_9 : w5.cell? ⟨gb112, 9, none⟩ = some (.int .i64 a1_9) := (blk_cell BK112.out 9).trans rfl
                        have hcz27_10 : w5.cell? ⟨gb112, 10, none⟩ = some (.int .i64 a1_10) := (blk_cell BK112.out 10).trans rfl
                        have hcz27_11 : w5.cell? ⟨gb112, 11, none⟩ = some (.int .i64 a1_11) := (blk_cell BK112.out 11).trans rfl
                        have hcz27_12 : w5.cell? ⟨gb112, 12, none⟩ = some (.int .i64 a1_12) := (blk_cell BK112.out 12).trans rfl
                        have hcz27_13 : w5.cell? ⟨gb112, 13, none⟩ = some (.int .i64 a1_13) := (blk_cell BK112.out 13).trans rfl
                        have hcz27_14 : w5.cell? ⟨gb112, 14, none⟩ = some (.slice A1_14 l1_14.length c1_14) := (blk_cell BK112.out 14).trans rfl
                        have hcz27_15 : w5.cell? ⟨gb112, 15, none⟩ = some (.slice A1_15 l1_15.length c1_15) := (blk_cell BK112.out 15).trans rfl
                        have hcz27_16 : w5.cell? ⟨gb112, 16, none⟩ = some (.slice A1_16 l1_16.length c1_16) := (blk_cell BK112.out 16).trans rfl
                        have hcz27_17 : w5.cell? ⟨gb112, 17, none⟩ = some (.slice A1_17 l1_17.length c1_17) := (blk_cell BK112.out 17).trans rfl
                        have hcz27_18 : w5.cell? ⟨gb112, 18, none⟩ = some (.slice A1_18 l1_18.length c1_18) := (blk_cell BK112.out 18).trans rfl
                        have hfz27_0 := blk_frozen BK112.out 0
                        have hfz27_1 := blk_frozen BK112.out 1
                        have hfz27_2 := blk_frozen BK112.out 2
                        have hfz27_3 := blk_frozen BK112.out 3
                        have hfz27_4 := blk_frozen BK112.out 4
                        have hfz27_5 := blk_frozen BK112.out 5
                        have hfz27_6 := blk_frozen BK112.out 6
                        have hfz27_7 := blk_frozen BK112.out 7
                        have hfz27_8 := blk_frozen BK112.out 8
                        have hfz27_9 := blk_frozen BK112.out 9
                        have hfz27_10 := blk_frozen BK112.out 10
                        have hfz27_11 := blk_frozen BK112.out 11
                        have hfz27_12 := blk_frozen BK112.out 12
                        have hfz27_13 := blk_frozen BK112.out 13
                        have hfz27_14 := blk_frozen BK112.out 14
                        have hfz27_15 := blk_frozen BK112.out 15
                        have hfz27_16 := blk_frozen BK112.out 16
                        have hfz27_17 := blk_frozen BK112.out 17
                        have hfz27_18 := blk_frozen BK112.out 18
                        go_wp2
                        go_meet
                        case rel => exact ⟨_, (true), (by first | rfl | (simp; done) | (simp [*]; done) | (simp [*]; generalize ByteArray.toList _ = l_; cases l_ <;> rfl)), H', ⟨by first | omega | exact Nat.le_refl _⟩, ⟨by (with_reducible repeat (first | refine blk_drewN ?_ _ | refine blk_drew ?_ | refine blk_alloc ?_ _)); exact BK111.out⟩, ⟨by (with_reducible repeat (first | refine blk_drewN ?_ _ | refine blk_drew ?_ | refine blk_alloc ?_ _)); exact BK112.out⟩, ⟨by repeat (first | (with_reducible first | exact HB.out | apply below_alloc | apply pw_below_drewN | apply below_drew1 | refine below_set ?_ GE111.out | refine below_set ?_ GE112.out) | exact HB.out)⟩⟩
                    · rw [if_neg c20] at H
                      have c20b0 : (a0_11 == a1_11) = false := beq_eq_false_iff_ne.mpr c20
                      have c20b1 : (a0_11 != a1_11) = true := bne_iff_ne.mpr c20
                      have H' := Aside0.mk H
                      clear H
                      have hnb28 := NB111_112.out
                      have hnc28 := NB112_111.out
                      have hcz29_0 : w5.cell? ⟨gb111, 0, none⟩ = some (.int .i64 a0_0) := (blk_cell BK111.out 0).trans rfl
                      have hcz29_1 : w5.cell? ⟨gb111, 1, none⟩ = some (.int .i64 a0_1) := (blk_cell BK111.out 1).trans rfl
                      have hcz29_2 : w5.cell? ⟨gb111, 2, none⟩ = some (.int .i64 a0_2) := (blk_cell BK111.out 2).trans rfl
                      have hcz29_3 : w5.cell? ⟨gb111, 3, none⟩ = some (.int .i64 a0_3) := (blk_cell BK111.out 3).trans rfl
                      have hcz29_4 : w5.cell? ⟨gb111, 4, none⟩ = some (.int .i64 a0_4) := (blk_cell BK111.out 4).trans rfl
                      have hcz29_5 : w5.cell? ⟨gb111, 5, none⟩ = some (.int .i64 a0_5) := (blk_cell BK111.out 5).trans rfl
                      have hcz29_6 : w5.cell? ⟨gb111, 6, none⟩ = some (.int .i64 a0_6) := (blk_cell BK111.out 6).trans rfl
                      have hcz29_7 : w5.cell? ⟨gb111, 7, none⟩ = some (.int .i64 a0_7) := (blk_cell BK111.out 7).trans rfl
                      have hcz29_8 : w5.cell? ⟨gb111, 8, none⟩ = some (.int .i64 a0_8) := (blk_cell BK111.out 8).trans rfl
                      have hcz29_9 : w5.cell? ⟨gb111, 9, none⟩ = some (.int .i64 a0_9) := (blk_cell BK111.out 9).trans rfl
                      have hcz29_10 : w5.cell? ⟨gb111, 10, none⟩ = some (.int .i64 a0_10) := (blk_cell BK111.out 10).trans rfl
                      have hcz29_11 : w5.cell? ⟨gb111, 11, none⟩ = some (.int .i64 a0_11) := (blk_cell BK111.out 11).trans rfl
                      have hcz29_12 : w5.cell? ⟨gb111, 12, none⟩ = some (.int .i64 a0_12) := (blk_cell BK111.out 12).trans rfl
                      have hcz29_13 : w5.cell? ⟨gb111, 13, none⟩ = some (.int .i64 a0_13) := (blk_cell BK111.out 13).trans rfl
                      have hcz29_14 : w5.cell? ⟨gb111, 14, none⟩ = some (.slice A0_14 l0_14.length c0_14) := (blk_cell BK111.out 14).trans rfl
                      have hcz29_15 : w5.cell? ⟨gb111, 15, none⟩ = some (.slice A0_15 l0_15.length c0_15) := (blk_cell BK111.out 15).trans rfl
                      have hcz29_16 : w5.cell? ⟨gb111, 16, none⟩ = some (.slice A0_16 l0_16.length c0_16) := (blk_cell BK111.out 16).trans rfl
                      have hcz29_17 : w5.cell? ⟨gb111, 17, none⟩ = some (.slice A0_17 l0_17.length c0_17) := (blk_cell BK111.out 17).trans rfl
                      have hcz29_18 : w5.cell? ⟨gb111, 18, none⟩ = some (.slice A0_18 l0_18.length c0_18) := (blk_cell BK111.out 18).trans rfl
                      have hfz29_0 := blk_frozen BK111.out 0
                      have hfz29_1 := blk_frozen BK111.out 1
                      have hfz29_2 := blk_frozen BK111.out 2
                      have hfz29_3 := blk_frozen BK111.out 3
                      have hfz29_4 := blk_frozen BK111.out 4
                      have hfz29_5 := blk_frozen BK111.out 5
                      have hfz29_6 := blk_frozen BK111.out 6
                      have hfz29_7 := blk_frozen BK111.out 7
                      have hfz29_8 := blk_frozen BK111.out 8
                      have hfz29_9 := blk_frozen BK111.out 9
                      have hfz29_10 := blk_frozen BK111.out 10
                      have hfz29_11 := blk_frozen BK111.out 11
                      have hfz29_12 := blk_frozen BK111.out 12
                      have hfz29_13 := blk_frozen BK111.out 13
                      have hfz29_14 := blk_frozen BK111.out 14
                      have hfz29_15 := blk_frozen BK111.out 15
                      have hfz29_16 := blk_frozen BK111.out 16
                      have hfz29_17 := blk_frozen BK111.out 17
                      have hfz29_18 := blk_frozen BK111.out 18
                      have hcz30_0 : w5.cell? ⟨gb112, 0, none⟩ = some (.int .i64 a1_0) := (blk_cell BK112.out 0).trans rfl
                      have hcz30_1 : w5.cell? ⟨gb112, 1, none⟩ = some (.int .i64 a1_1) := (blk_cell BK112.out 1).trans rfl
                      have hcz30_2 : w5.cell? ⟨gb112, 2, none⟩ = some (.int .i64 a1_2) := (blk_cell BK112.out 2).trans rfl
                      have hcz30_3 : w5.cell? ⟨gb112, 3, none⟩ = some (.int .i64 a1_3) := (blk_cell BK112.out 3).trans rfl
                      have hcz30_4 : w5.cell? ⟨gb112, 4, none⟩ = some (.int .i64 a1_4) := (blk_cell BK112.out 4).trans rfl
                      have hcz30_5 : w5.cell? ⟨gb112, 5, none⟩ = some (.int .i64 a1_5) := (blk_cell BK112.out 5).trans rfl
                      have hcz30_6 : w5.cell? ⟨gb112, 6, none⟩ = some (.int .i64 a1_6) := (blk_cell BK112.out 6).trans rfl
                      have hcz30_7 : w5.cell? ⟨gb112, 7, none⟩ = some (.int .i64 a1_7) := (blk_cell BK112.out 7).trans rfl
                      have hcz30_8 : w5.cell? ⟨gb112, 8, none⟩ = some (.int .i64 a1_8) := (blk_cell BK112.out 8).trans rfl
                      have hcz30_9 : w5.cell? ⟨gb112, 9, none⟩ = some (.int .i64 a1_9) := (blk_cell BK112.out 9).trans rfl
                      have hcz30_10 : w5.cell? ⟨gb112, 10, none⟩ = some (.int .i64 a1_10) := (blk_cell BK112.out 10).trans rfl
                      have hcz30_11 : w5.cell? ⟨gb112, 11, none⟩ = some (.int .i64 a1_11) := (blk_cell BK112.out 11).trans rfl
                      have hcz30_12 : w5.cell? ⟨gb112, 12, none⟩ = some (.int .i64 a1_12) := (blk_cell BK112.out 12).trans rfl
                      have hcz30_13 : w5.cell? ⟨gb112, 13, none⟩ = some (.int .i64 a1_13) := (blk_cell BK112.out 13).trans rfl
                      have hcz30_14 : w5.cell? ⟨gb112, 14, none⟩ = some (.slice A1_14 l1_14.length c1_14) := (blk_cell BK112.out 14).trans rfl
                      have hcz30_15 : w5.cell? ⟨gb112, 15, none⟩ = some (.slice A1_15 l1_15.length c1_15) := (blk_cell BK112.out 15).trans rfl
                      have hcz30_16 : w5.cell? ⟨gb112, 16, none⟩ = some (.slice A1_16 l1_16.length c1_16) := (blk_cell BK112.out 16).trans rfl
                      have hcz30_17 : w5.cell? ⟨gb112, 17, none⟩ = some (.slice A1_17 l1_17.length c1_17) := (blk_cell BK112.out 17).trans rfl
                      have hcz30_18 : w5.cell? ⟨gb112, 18, none⟩ = some (.slice A1_18 l1_18.length c1_18) := (blk_cell BK112.out 18).trans rfl
                      have hfz30_0 := blk_frozen BK112.out 0
                      have hfz30_1 := blk_frozen BK112.out 1
                      have hfz30_2 := blk_frozen BK112.out 2
                      have hfz30_3 := blk_frozen BK112.out 3
                      have hfz30_4 := blk_frozen BK112.out 4
                      have hfz30_5 := blk_frozen BK112.out 5
                      have hfz30_6 := blk_frozen BK112.out 6
                      have hfz30_7 := blk_frozen BK112.out 7
                      have hfz30_8 := blk_frozen BK112.out 8
                      have hfz30_9 := blk_frozen BK112.out 9
                      have hfz30_10 := blk_frozen BK112.out 10
                      have hfz30_11 := blk_frozen BK112.out 11
                      have hfz30_12 := blk_frozen BK112.out 12
                      have hfz30_13 := blk_frozen BK112.out 13
                      have hfz30_14 := blk_frozen BK112.out 14
                      have hfz30_15 := blk_frozen BK112.out 15
                      have hfz30_16 := blk_frozen BK112.out 16
                      have hfz30_17 := blk_frozen BK112.out 17
                      have hfz30_18 := blk_frozen BK112.out 18
                      go_wp2
                      go_meet
                      case rel => exact ⟨_, (true), (by first | rfl | (simp; done) | (simp [*]; done) | (simp [*]; generalize ByteArray.toList _ = l_; cases l_ <;> rfl)), H', ⟨by first | omega | exact Nat.le_refl _⟩, ⟨by (with_reducible repeat (first | refine blk_drewN ?_ _ | refine blk_drew ?_ | refine blk_alloc ?_ _)); exact BK111.out⟩, ⟨by (with_reducible repeat (first | refine blk_drewN ?_ _ | refine blk_drew ?_ | refine blk_alloc ?_ _)); exact BK112.out⟩, ⟨by repeat (first | (with_reducible first | exact HB.out | apply below_alloc | apply pw_below_drewN | apply below_drew1 | refine below_set ?_ GE111.out | refine below_set ?_ GE112.out) | exact HB.out)⟩⟩
                  · rw [if_neg c19] at H
                    have c19b0 : (a0_10 == a1_10) = false := beq_eq_false_iff_ne.mpr c19
                    have c19b1 : (a0_10 != a1_10) = true := bne_iff_ne.mpr c19
                    have H' := Aside0.mk H
                    clear H
                    have hnb31 := NB111_112.out
                    have hnc31 := NB112_111.out
                    have hcz32_0 : w5.cell? ⟨gb111, 0, none⟩ = some (.int .i64 a0_0) := (blk_cell BK111.out 0).trans rfl
                    have hcz32_1 : w5.cell? ⟨gb111, 1, none⟩ = some (.int .i64 a0_1) := (blk_cell BK111.out 1).trans rfl
                    have hcz32_2 : w5.cell? ⟨gb111, 2, none⟩ = some (.int .i64 a0_2) := (blk_cell BK111.out 2).trans rfl
                    have hcz32_3 : w5.cell? ⟨gb111, 3, none⟩ = some (.int .i64 a0_3) := (blk_cell BK111.out 3).trans rfl
                    have hcz32_4 : w5.cell? ⟨gb111, 4, none⟩ = some (.int .i64 a0_4) := (blk_cell BK111.out 4).trans rfl
                    have hcz32_5 : w5.cell? ⟨gb111, 5, none⟩ = some (.int .i64 a0_5) := (blk_cell BK111.out 5).trans rfl
                    have hcz32_6 : w5.cell? ⟨gb111, 6, none⟩ = some (.int .i64 a0_6) := (blk_cell BK111.out 6).trans rfl
                    have hcz32_7 : w5.cell? ⟨gb111, 7, none⟩ = some (.int .i64 a0_7) := (blk_cell BK111.out 7).trans rfl
                    have hcz32_8 : w5.cell? ⟨gb111, 8, none⟩ = some (.int .i64 a0_8) := (blk_cell BK111.out 8).trans rfl
                    have hcz32_9 : w5.cell? ⟨gb111, 9, none⟩ = some (.int .i64 a0_9) := (blk_cell BK111.out 9).trans rfl
                    have hcz32_10 : w5.cell? ⟨gb111, 10, none⟩ = some (.int .i64 a0_10) := (blk_cell BK111.out 10).trans rfl
                    have hcz32_11 : w5.cell? ⟨gb111, 11, none⟩ = some (.int .i64 a0_11) := (blk_cell BK111.out 11).trans rfl
                    have hcz32_12 : w5.cell? ⟨gb111, 12, none⟩ = some (.int .i64 a0_12) := (blk_cell BK111.out 12).trans rfl
                    have hcz32_13 : w5.cell? ⟨gb111, 13, none⟩ = some (.int .i64 a0_13) := (blk_cell BK111.out 13).trans rfl
                    have hcz32_14 : w5.cell? ⟨gb111, 14, none⟩ = some (.slice A0_14 l0_14.length c0_14) := (blk_cell BK111.out 14).trans rfl
                    have hcz32_15 : w5.cell? ⟨gb111, 15, none⟩ = some (.slice A0_15 l0_15.length c0_15) := (blk_cell BK111.out 15).trans rfl
                    have hcz32_16 : w5.cell? ⟨gb111, 16, none⟩ = some (.slice A0_16 l0_16.length c0_16) := (blk_cell BK111.out 16).trans rfl
                    have hcz32_17 : w5.cell? ⟨gb111, 17, none⟩ = some (.slice A0_17 l0_17.length c0_17) := (blk_cell BK111.out 17).trans rfl
                    have hcz32_18 : w5.cell? ⟨gb111, 18, none⟩ = some (.slice A0_18 l0_18.length c0_18) := (blk_cell BK111.out 18).trans rfl
                    have hfz32_0 := blk_frozen BK111.out 0
                    have hfz32_1 := blk_frozen BK111.out 1
                    have hfz32_2 := blk_frozen BK111.out 2
                    have hfz32_3 := blk_frozen BK111.out 3
                    have hfz32_4 := blk_frozen BK111.out 4
                    have hfz32_5 := blk_frozen BK111.out 5
                    have hfz32_6 := blk_frozen BK111.out 6
                    have hfz32_7 := blk_frozen BK111.out 7
                    have hfz32_8 := blk_frozen BK111.out 8
                    have hfz32_9 := blk_frozen BK111.out 9
                    have hfz32_10 := blk_frozen BK111.out 10
                    have hfz32_11 := blk_frozen BK111.out 11
                    have hfz32_12 := blk_frozen BK111.out 12
                    have hfz32_13 := blk_frozen BK111.out 13
                    have hfz32_14 := blk_frozen BK111.out 14
                    have hfz32_15 := blk_frozen BK111.out 15
                    have hfz32_16 := blk_frozen BK111.out 16
                    have hfz32_17 := blk_frozen BK111.out 17
                    have hfz32_18 := blk_frozen BK111.out 18
                    have hcz33_0 : w5.cell? ⟨gb112, 0, none⟩ = some (.int .i64 a1_0) := (blk_cell BK112.out 0).trans rfl
                    have hcz33_1 : w5.cell? ⟨gb112, 1, none⟩ = some (.int .i64 a1_1) := (blk_cell BK112.out 1).trans rfl
                    have hcz33_2 : w5.cell? ⟨gb112, 2, none⟩ = some (.int .i64 a1_2) := (blk_cell BK112.out 2).trans rfl
                    have hcz33_3 : w5.cell? ⟨gb112, 3, none⟩ = some (.int .i64 a1_3) := (blk_cell BK112.out 3).trans rfl
                    have hcz33_4 : w5.cell? ⟨gb112, 4, none⟩ = some (.int .i64 a1_4) := (blk_cell BK112.out 4).trans rfl
                    have hcz33_5 : w5.cell? ⟨gb112, 5, none⟩ = some (.int .i64 a1_5) := (blk_cell BK112.out 5).trans rfl
                    have hcz33_6 : w5.cell? ⟨gb112, 6, none⟩ = some (.int .i64 a1_6) := (blk_cell BK112.out 6).trans rfl
                    have hcz33_7 : w5.cell? ⟨gb112, 7, none⟩ = some (.int .i64 a1_7) := (blk_cell BK112.out 7).trans rfl
                    have hcz33_8 : w5.cell? ⟨gb112, 8, none⟩ = some (.int .i64 a1_8) := (blk_cell BK112.out 8).trans rfl
                    have hcz33_9 : w5.cell? ⟨gb112, 9, none⟩ = some (.int .i64 a1_9) := (blk_cell BK112.out 9).trans rfl
                    have hcz33_10 : w5.cell? ⟨gb112, 10, none⟩ = some (.int .i64 a1_10) := (blk_cell BK112.out 10).trans rfl
                    have hcz33_11 : w5.cell? ⟨gb112, 11, none⟩ = some (.int .i64 a1_11) := (blk_cell BK112.out 11).trans rfl
                    have hcz33_12 : w5.cell? ⟨gb112, 12, none⟩ = some (.int .i64 a1_12) := (blk_cell BK112.out 12).trans rfl
                    have hcz33_13 : w5.cell? ⟨gb112, 13, none⟩ = some (.int .i64 a1_13) := (blk_cell BK112.out 13).trans rfl
                    have hcz33_14 : w5.cell? ⟨gb112, 14, none⟩ = some (.slice A1_14 l1_14.length c1_14) := (blk_cell BK112.out 14).trans rfl
                    have hcz33_15 : w5.cell? ⟨gb112, 15, none⟩ = some (.slice A1_15 l1_15.length c1_15) := (blk_cell BK112.out 15).trans rfl
                    have hcz33_16 : w5.cell? ⟨gb112, 16, none⟩ = some (.slice A1_16 l1_16.length c1_16) := (blk_cell BK112.out 16).trans rfl
                    have hcz33_17 : w5.cell? ⟨gb112, 17, none⟩ = some (.slice A1_17 l1_17.length c1_17) := (blk_cell BK112.out 17).trans rfl
                    have hcz33_18 : w5.cell? ⟨gb112, 18, none⟩ = some (.slice A1_18 l1_18.length c1_18) := (blk_cell BK112.out 18).trans rfl
                    have hfz33_0 := blk_frozen BK112.out 0
                    have hfz33_1 := blk_frozen BK112.out 1
                    have hfz33_2 := blk_frozen BK112.out 2
                    have hfz33_3 := blk_frozen BK112.out 3
                    have hfz33_4 := blk_frozen BK112.out 4
                    have hfz33_5 := blk_frozen BK112.out 5
                    have hfz33_6 := blk_frozen BK112.out 6
                    have hfz33_7 := blk_frozen BK112.out 7
                    have hfz33_8 := blk_frozen BK112.out 8
                    have hfz33_9 := blk_frozen BK112.out 9
                    have hfz33_10 := blk_frozen BK112.out 10
                    have hfz33_11 := blk_frozen BK112.out 11
                    have hfz33_12 := blk_frozen BK112.out 12
                    have hfz33_13 := blk_frozen BK112.out 13
                    have hfz33_14 := blk_frozen BK112.out 14
                    have hfz33_15 := blk_frozen BK112.out 15
                    have hfz33_16 := blk_frozen BK112.out 16
                    have hfz33_17 := blk_frozen BK112.out 17
                    have hfz33_18 := blk_frozen BK112.out 18
                    go_wp2
                    go_meet
                    case rel => exact ⟨_, (true), (by first | rfl | (simp; done) | (simp [*]; done) | (simp [*]; generalize ByteArray.toList _ = l_; cases l_ <;> rfl)), H', ⟨by first | omega | exact Nat.le_refl _⟩, ⟨by (with_reducible repeat (first | refine blk_drewN ?_ _ | refine blk_drew ?_ | refine blk_alloc ?_ _)); exact BK111.out⟩, ⟨by (with_reducible repeat (first | refine blk_drewN ?_ _ | refine blk_drew ?_ | refine blk_alloc ?_ _)); exact BK112.out⟩, ⟨by repeat (first | (with_reducible first | exact HB.out | apply below_alloc | apply pw_below_drewN | apply below_drew1 | refine below_set ?_ GE111.out | refine below_set ?_ GE112.out) | exact HB.out)⟩⟩
                · rw [if_neg c18] at H
                  have c18b0 : (a0_9 == a1_9) = false := beq_eq_false_iff_ne.mpr c18
                  have c18b1 : (a0_9 != a1_9) = true := bne_iff_ne.mpr c18
                  have H' := Aside0.mk H
                  clear H
                  have hnb34 := NB111_112.out
                  have hnc34 := NB112_111.out
                  have hcz35_0 : w5.cell? ⟨gb111, 0, none⟩ = some (.int .i64 a0_0) := (blk_cell BK111.out 0).trans rfl
                  have hcz35_1 : w5.cell? ⟨gb111, 1, none⟩ = some (.int .i64 a0_1) := (blk_cell BK111.out 1).trans rfl
                  have hcz35_2 : w5.cell? ⟨gb111, 2, none⟩ = some (.int .i64 a0_2) := (blk_cell BK111.out 2).trans rfl
                  have hcz35_3 : w5.cell? ⟨gb111, 3, none⟩ = some (.int .i64 a0_3) := (blk_cell BK111.out 3).trans rfl
                  have hcz35_4 : w5.cell? ⟨gb111, 4, none⟩ = some (.int .i64 a0_4) := (blk_cell BK111.out 4).trans rfl
                  have hcz35_5 : w5.cell? ⟨gb111, 5, none⟩ = some (.int .i64 a0_5) := (blk_cell BK111.out 5).trans rfl
                  have hcz35_6 : w5.cell? ⟨gb111, 6, none⟩ = some (.int .i64 a0_6) := (blk_cell BK111.out 6).trans rfl
                  have hcz35_7 : w5.cell? ⟨gb111, 7, none⟩ = some (.int .i64 a0_7) := (blk_cell BK111.out 7).trans rfl
                  have hcz35_8 : w5.cell? ⟨gb111, 8, none⟩ = some (.int .i64 a0_8) := (blk_cell BK111.out 8).trans rfl
                  have hcz35_9 : w5.cell? ⟨gb111, 9, none⟩ = some (.int .i64 a0_9) := (blk_cell BK111.out 9).trans rfl
                  have hcz35_10 : w5.cell? ⟨gb111, 10, none⟩ = some (.int .i64 a0_10) := (blk_cell BK111.out 10).trans rfl
                  have hcz35_11 : w5.cell? ⟨gb111, 11, none⟩ = some (.int .i64 a0_11) := (blk_cell BK111.out 11).trans rfl
                  have hcz35_12 : w5.cell? ⟨gb111, 12, none⟩ = some (.int .i64 a0_12) := (blk_cell BK111.out 12).trans rfl
                  have hcz35_13 : w5.cell? ⟨gb111, 13, none⟩ = some (.int .i64 a0_13) := (blk_cell BK111.out 13).trans rfl
                  have hcz35_14 : w5.cell? ⟨gb111, 14, none⟩ = some (.slice A0_14 l0_14.length c0_14) := (blk_cell BK111.out 14).trans rfl
                  have hcz35_15 : w5.cell? ⟨gb111, 15, none⟩ = some (.slice A0_15 l0_15.length c0_15) := (blk_cell BK111.out 15).trans rfl
                  have hcz35_16 : w5.cell? ⟨gb111, 16, none⟩ = some (.slice A0_16 l0_16.length c0_16) := (blk_cell BK111.out 16).trans rfl
                  have hcz35_17 : w5.cell? ⟨gb111, 17, none⟩ = some (.slice A0_17 l0_17.length c0_17) := (blk_cell BK111.out 17).trans rfl
                  have hcz35_18 : w5.cell? ⟨gb111, 18, none⟩ = some (.slice A0_18 l0_18.length c0_18) := (blk_cell BK111.out 18).trans rfl
                  have hfz35_0 := blk_frozen BK111.out 0
                  have hfz35_1 := blk_frozen BK111.out 1
                  have hfz35_2 := blk_frozen BK111.out 2
                  have hfz35_3 := blk_frozen BK111.out 3
                  have hfz35_4 := blk_frozen BK111.out 4
                  have hfz35_5 := blk_frozen BK111.out 5
                  have hfz35_6 := blk_frozen BK111.out 6
                  have hfz35_7 := blk_frozen BK111.out 7
                  have hfz35_8 := blk_frozen BK111.out 8
                  have hfz35_9 := blk_frozen BK111.out 9
                  have hfz35_10 := blk_frozen BK111.out 10
                  have hfz35_11 := blk_frozen BK111.out 11
                  have hfz35_12 := blk_frozen BK111.out 12
                  have hfz35_13 := blk_frozen BK111.out 13
                  have hfz35_14 := blk_frozen BK111.out 14
                  have hfz35_15 := blk_frozen BK111.out 15
                  have hfz35_16 := blk_frozen BK111.out 16
                  have hfz35_17 := blk_frozen BK111.out 17
                  have hfz35_18 := blk_frozen BK111.out 18
                  have hcz36_0 : w5.cell? ⟨gb112, 0, none⟩ = some (.int .i64 a1_0) := (blk_cell BK112.out 0).trans rfl
                  have hcz36_1 : w5.cell? ⟨gb112, 1, none⟩ = some (.int .i64 a1_1) := (blk_cell BK112.out 1).trans rfl
                  have hcz36_2 : w5.cell? ⟨gb112, 2, none⟩ = some (.int .i64 a1_2) := (blk_cell BK112.out 2).trans rfl
                  have hcz36_3 : w5.cell? ⟨gb112, 3, none⟩ = some (.int .i64 a1_3) := (blk_cell BK112.out 3).trans rfl
                  have hcz36_4 : w5.cell? ⟨gb112, 4, none⟩ = some (.int .i64 a1_4) := (blk_cell BK112.out 4).trans rfl
                  have hcz36_5 : w5.cell? ⟨gb112, 5, none⟩ = some (.int .i64 a1_5) := (blk_cell BK112.out 5).trans rfl
                  have hcz36_6 : w5.cell? ⟨gb112, 6, none⟩ = some (.int .i64 a1_6) := (blk_cell BK112.out 6).trans rfl
                  have hcz36_7 : w5.cell? ⟨gb112, 7, none⟩ = some (.int .i64 a1_7) := (blk_cell BK112.out 7).trans rfl
                  have hcz36_8 : w5.cell? ⟨gb112, 8, none⟩ = some (.int .i64 a1_8) := (blk_cell BK112.out 8).trans rfl
                  have hcz36_9 : w5.cell? ⟨gb112, 9, none⟩ = some (.int .i64 a1_9) := (blk_cell BK112.out 9).trans rfl
                  have hcz36_10 : w5.cell? ⟨gb112, 10, none⟩ = some (.int .i64 a1_10) := (blk_cell BK112.out 10).trans rfl
                  have hcz36_11 : w5.cell? ⟨gb112, 11, none⟩ = some (.int .i64 a1_11) := (blk_cell BK112.out 11).trans rfl
                  have hcz36_12 : w5.cell? ⟨gb112, 12, none⟩ = some (.int .i64 a1_12) := (blk_cell BK112.out 12).trans rfl
                  have hcz36_13 : w5.cell? ⟨gb112, 13, none⟩ = some (.int .i64 a1_13) := (blk_cell BK112.out 13).trans rfl
                  have hcz36_14 : w5.cell? ⟨gb112, 14, none⟩ = some (.slice A1_14 l1_14.length c1_14) := (blk_cell BK112.out 14).trans rfl
                  have hcz36_15 : w5.cell? ⟨gb112, 15, none⟩ = some (.slice A1_15 l1_15.length c1_15) := (blk_cell BK112.out 15).trans rfl
                  have hcz36_16 : w5.cell? ⟨gb112, 16, none⟩ = some (.slice A1_16 l1_16.length c1_16) := (blk_cell BK112.out 16).trans rfl
                  have hcz36_17 : w5.cell? ⟨gb112, 17, none⟩ = some (.slice A1_17 l1_17.length c1_17) := (blk_cell BK112.out 17).trans rfl
                  have hcz36_18 : w5.cell? ⟨gb112, 18, none⟩ = some (.slice A1_18 l1_18.length c1_18) := (blk_cell BK112.out 18).trans rfl
                  have hfz36_0 := blk_frozen BK112.out 0
                  have hfz36_1 := blk_frozen BK112.out 1
                  have hfz36_2 := blk_frozen BK112.out 2
                  have hfz36_3 := blk_frozen BK112.out 3
                  have hfz36_4 := blk_frozen BK112.out 4
                  have hfz36_5 := blk_frozen BK112.out 5
                  have hfz36_6 := blk_frozen BK112.out 6
                  have hfz36_7 := blk_frozen BK112.out 7
                  have hfz36_8 := blk_frozen BK112.out 8
                  have hfz36_9 := blk_frozen BK112.out 9
                  have hfz36_10 := blk_frozen BK112.out 10
                  have hfz36_11 := blk_frozen BK112.out 11
                  have hfz36_12 := blk_frozen BK112.out 12
                  have hfz36_13 := blk_frozen BK112.out 13
                  have hfz36_14 := blk_frozen BK112.out 14
                  have hfz36_15 := blk_frozen BK112.out 15
                  have hfz36_16 := blk_frozen BK112.out 16
                  have hfz36_17 := blk_frozen BK112.out 17
                  have hfz36_18 := blk_frozen BK112.out 18
                  go_wp2
                  go_meet
                  case rel => exact ⟨_, (true), (by first | rfl | (simp; done) | (simp [*]; done) | (simp [*]; generalize ByteArray.toList _ = l_; cases l_ <;> rfl)), H', ⟨by first | omega | exact Nat.le_refl _⟩, ⟨by (with_reducible repeat (first | refine blk_drewN ?_ _ | refine blk_drew ?_ | refine blk_alloc ?_ _)); exact BK111.out⟩, ⟨by (with_reducible repeat (first | refine blk_drewN ?_ _ | refine blk_drew ?_ | refine blk_alloc ?_ _)); exact BK112.out⟩, ⟨by repeat (first | (with_reducible first | exact HB.out | apply below_alloc | apply pw_below_drewN | apply below_drew1 | refine below_set ?_ GE111.out | refine below_set ?_ GE112.out) | exact HB.out)⟩⟩
              · rw [if_neg c17] at H
                have c17b0 : (a0_8 == a1_8) = false := beq_eq_false_iff_ne.mpr c17
                have c17b1 : (a0_8 != a1_8) = true := bne_iff_ne.mpr c17
                have H' := Aside0.mk H
                clear H
                have hnb37 := NB111_112.out
                have hnc37 := NB112_111.out
                have hcz38_0 : w5.cell? ⟨gb111, 0, none⟩ = some (.int .i64 a0_0) := (blk_cell BK111.out 0).trans rfl
                have hcz38_1 : w5.cell? ⟨gb111, 1, none⟩ = some (.int .i64 a0_1) := (blk_cell BK111.out 1).trans rfl
                have hcz38_2 : w5.cell? ⟨gb111, 2, none⟩ = some (.int .i64 a0_2) := (blk_cell BK111.out 2).trans rfl
                have hcz38_3 : w5.cell? ⟨gb111, 3, none⟩ = some (.int .i64 a0_3) := (blk_cell BK111.out 3).trans rfl
                have hcz38_4 : w5.cell? ⟨gb111, 4, none⟩ = some (.int .i64 a0_4) := (blk_cell BK111.out 4).trans rfl
                have hcz38_5 : w5.cell? ⟨gb111, 5, none⟩ = some (.int .i64 a0_5) := (blk_cell BK111.out 5).trans rfl
                have hcz38_6 : w5.cell? ⟨gb111, 6, none⟩ = some (.int .i64 a0_6) := (blk_cell BK111.out 6).trans rfl
                have hcz38_7 : w5.cell? ⟨gb111, 7, none⟩ = some (.int .i64 a0_7) := (blk_cell BK111.out 7).trans rfl
                have hcz38_8 : w5.cell? ⟨gb111, 8, none⟩ = some (.int .i64 a0_8) := (blk_cell BK111.out 8).trans rfl
                have hcz38_9 : w5.cell? ⟨gb111, 9, none⟩ = some (.int .i64 a0_9) := (blk_cell BK111.out 9).trans rfl
                have hcz38_10 : w5.cell? ⟨gb111, 10, none⟩ = some (.int .i64 a0_10) := (blk_cell BK111.out 10).trans rfl
                have hcz38_11 : w5.cell? ⟨gb111, 11, none⟩ = some (.int .i64 a0_11) := (blk_cell BK111.out 11).trans rfl
                have hcz38_12 : w5.cell? ⟨gb111, 12, none⟩ = some (.int .i64 a0_12) := (blk_cell BK111.out 12).trans rfl
                have hcz38_13 : w5.cell? ⟨gb111, 13, none⟩ = some (.int .i64 a0_13) := (blk_cell BK111.out 13).trans rfl
                have hcz38_14 : w5.cell? ⟨gb111, 14, none⟩ = some (.slice A0_14 l0_14.length c0_14) := (blk_cell BK111.out 14).trans rfl
                have hcz38_15 : w5.cell? ⟨gb111, 15, none⟩ = some (.slice A0_15 l0_15.length c0_15) := (blk_cell BK111.out 15).trans rfl
                have hcz38_16 : w5.cell? ⟨gb111, 16, none⟩ = some (.slice A0_16 l0_16.length c0_16) := (blk_cell BK111.out 16).trans rfl
                have hcz38_17 : w5.cell? ⟨gb111, 17, none⟩ = some (.slice A0_17 l0_17.length c0_17) := (blk_cell BK111.out 17).trans rfl
                have hcz38_18 : w5.cell? ⟨gb111, 18, none⟩ = some (.slice A0_18 l0_18.length c0_18) := (blk_cell BK111.out 18).trans rfl
                have hfz38_0 := blk_frozen BK111.out 0
                have hfz38_1 := blk_frozen BK111.out 1
                have hfz38_2 := blk_frozen BK111.out 2
                have hfz38_3 := blk_frozen BK111.out 3
                have hfz38_4 := blk_frozen BK111.out 4
                have hfz38_5 := blk_frozen BK111.out 5
                have hfz38_6 := blk_frozen BK111.out 6
                have hfz38_7 := blk_frozen BK111.out 7
                have hfz38_8 := blk_frozen BK111.out 8
                have hfz38_9 := blk_frozen BK111.out 9
                have hfz38_10 := blk_frozen BK111.out 10
                have hfz38_11 := blk_frozen BK111.out 11
                have hfz38_12 := blk_frozen BK111.out 12
                have hfz38_13 := blk_frozen BK111.out 13
                have hfz38_14 := blk_frozen BK111.out 14
                have hfz38_15 := blk_frozen BK111.out 15
                have hfz38_16 := blk_frozen BK111.out 16
                have hfz38_17 := blk_frozen BK111.out 17
                have hfz38_18 := blk_frozen BK111.out 18
                have hcz39_0 : w5.cell? ⟨gb112, 0, none⟩ = some (.int .i64 a1_0) := (blk_cell BK112.out 0).trans rfl
                have hcz39_1 : w5.cell? ⟨gb112, 1, none⟩ = some (.int .i64 a1_1) := (blk_cell BK112.out 1).trans rfl
                have hcz39_2 : w5.cell? ⟨gb112, 2, none⟩ = some (.int .i64 a1_2) := (blk_cell BK112.out 2).trans rfl
                have hcz39_3 : w5.cell? ⟨gb112, 3, none⟩ = some (.int .i64 a1_3) := (blk_cell BK112.out 3).trans rfl
                have hcz39_4 : w5.cell? ⟨gb112, 4, none⟩ = some (.int .i64 a1_4) := (blk_cell BK112.out 4).trans rfl
                have hcz39_5 : w5.cell? ⟨gb112, 5, none⟩ = some (.int .i64 a1_5) := (blk_cell BK112.out 5).trans rfl
                have hcz39_6 : w5.cell? ⟨gb112, 6, none⟩ = some (.int .i64 a1_6) := (blk_cell BK112.out 6).trans rfl
                have hcz39_7 : w5.cell? ⟨gb112, 7, none⟩ = some (.int .i64 a1_7) := (blk_cell BK112.out 7).trans rfl
                have hcz39_8 : w5.cell? ⟨gb112, 8, none⟩ = some (.int .i64 a1_8) := (blk_cell BK112.out 8).trans rfl
                have hcz39_9 : w5.cell? ⟨gb112, 9, none⟩ = some (.int .i64 a1_9) := (blk_cell BK112.out 9).trans rfl
                have hcz39_10 : w5.cell? ⟨gb112, 10, none⟩ = some (.int .i64 a1_10) := (blk_cell BK112.out 10).trans rfl
                have hcz39_11 : w5.cell? ⟨gb112, 11, none⟩ = some (.int .i64 a1_11) := (blk_cell BK112.out 11).trans rfl
                have hcz39_12 : w5.cell? ⟨gb112, 12, none⟩ = some (.int .i64 a1_12) := (blk_cell BK112.out 12).trans rfl
                have hcz39_13 : w5.cell? ⟨gb112, 13, none⟩ = some (.int .i64 a1_13) := (blk_cell BK112.out 13).trans rfl
                have hcz39_14 : w5.cell? ⟨gb112, 14, none⟩ = some (.slice A1_14 l1_14.length c1_14) := (blk_cell BK112.out 14).trans rfl
                have hcz39_15 : w5.cell? ⟨gb112, 15, none⟩ = some (.slice A1_15 l1_15.length c1_15) := (blk_cell BK112.out 15).trans rfl
                have hcz39_16 : w5.cell? ⟨gb112, 16, none⟩ = some (.slice A1_16 l1_16.length c1_16) := (blk_cell BK112.out 16).trans rfl
                have hcz39_17 : w5.cell? ⟨gb112, 17, none⟩ = some (.slice A1_17 l1_17.length c1_17) := (blk_cell BK112.out 17).trans rfl
                have hcz39_18 : w5.cell? ⟨gb112, 18, none⟩ = some (.slice A1_18 l1_18.length c1_18) := (blk_cell BK112.out 18).trans rfl
                have hfz39_0 := blk_frozen BK112.out 0
                have hfz39_1 := blk_frozen BK112.out 1
                have hfz39_2 := blk_frozen BK112.out 2
                have hfz39_3 := blk_frozen BK112.out 3
                have hfz39_4 := blk_frozen BK112.out 4
                have hfz39_5 := blk_frozen BK112.out 5
                have hfz39_6 := blk_frozen BK112.out 6
                have hfz39_7 := blk_frozen BK112.out 7
                have hfz39_8 := blk_frozen BK112.out 8
                have hfz39_9 := blk_frozen BK112.out 9
                have hfz39_10 := blk_frozen BK112.out 10
                have hfz39_11 := blk_frozen BK112.out 11
                have hfz39_12 := blk_frozen BK112.out 12
                have hfz39_13 := blk_frozen BK112.out 13
                have hfz39_14 := blk_frozen BK112.out 14
                have hfz39_15 := blk_frozen BK112.out 15
                have hfz39_16 := blk_frozen BK112.out 16
                have hfz39_17 := blk_frozen BK112.out 17
                have hfz39_18 := blk_frozen BK112.out 18
                go_wp2
                go_meet
                case rel => exact ⟨_, (true), (by first | rfl | (simp; done) | (simp [*]; done) | (simp [*]; generalize ByteArray.toList _ = l_; cases l_ <;> rfl)), H', ⟨by first | omega | exact Nat.le_refl _⟩, ⟨by (with_reducible repeat (first | refine blk_drewN ?_ _ | refine blk_drew ?_ | refine blk_alloc ?_ _)); exact BK111.out⟩, ⟨by (with_reducible repeat (first | refine blk_drewN ?_ _ | refine blk_drew ?_ | refine blk_alloc ?_ _)); exact BK112.out⟩, ⟨by repeat (first | (with_reducible first | exact HB.out | apply below_alloc | apply pw_below_drewN | apply below_drew1 | refine below_set ?_ GE111.out | refine below_set ?_ GE112.out) | exact HB.out)⟩⟩
            · rw [if_neg c16] at H
              have c16b0 : (a0_7 == a1_7) = false := beq_eq_false_iff_ne.mpr c16
              have c16b1 : (a0_7 != a1_7) = true := bne_iff_ne.mpr c16
              have H' := Aside0.mk H
              clear H
              have hnb40 := NB111_112.out
              have hnc40 := NB112_111.out
              have hcz41_0 : w5.cell? ⟨gb111, 0, none⟩ = some (.int .i64 a0_0) := (blk_cell BK111.out 0).trans rfl
              have hcz41_1 : w5.cell? ⟨gb111, 1, none⟩ = some (.int .i64 a0_1) := (blk_cell BK111.out 1).trans rfl
              have hcz41_2 : w5.cell? ⟨gb111, 2, none⟩ = some (.int .i64 a0_2) := (blk_cell BK111.out 2).trans rfl
              have hcz41_3 : w5.cell? ⟨gb111, 3, none⟩ = some (.int .i64 a0_3) := (blk_cell BK111.out 3).trans rfl
              have hcz41_4 : w5.cell? ⟨gb111, 4, none⟩ = some (.int .i64 a0_4) := (blk_cell BK111.out 4).trans rfl
              have hcz41_5 : w5.cell? ⟨gb111, 5, none⟩ = some (.int .i64 a0_5) := (blk_cell BK111.out 5).trans rfl
              have hcz41_6 : w5.cell? ⟨gb111, 6, none⟩ = some (.int .i64 a0_6) := (blk_cell BK111.out 6).trans rfl
              have hcz41_7 : w5.cell? ⟨gb111, 7, none⟩ = some (.int .i64 a0_7) := (blk_cell BK111.out 7).trans rfl
              have hcz41_8 : w5.cell? ⟨gb111, 8, none⟩ = some (.int .i64 a0_8) := (blk_cell BK111.out 8).trans rfl
              have hcz41_9 : w5.cell? ⟨gb111, 9, none⟩ = some (.int .i64 a0_9) := (blk_cell BK111.out 9).trans rfl
              have hcz41_10 : w5.cell? ⟨gb111, 10, none⟩ = some (.int .i64 a0_10) := (blk_cell BK111.out 10).trans rfl
              have hcz41_11 : w5.cell? ⟨gb111, 11, none⟩ = some (.int .i64 a0_11) := (blk_cell BK111.out 11).trans rfl
              have hcz41_12 : w5.cell? ⟨gb111, 12, none⟩ = some (.int .i64 a0_12) := (blk_cell BK111.out 12).trans rfl
              have hcz41_13 : w5.cell? ⟨gb111, 13, none⟩ = some (.int .i64 a0_13) := (blk_cell BK111.out 13).trans rfl
              have hcz41_14 : w5.cell? ⟨gb111, 14, none⟩ = some (.slice A0_14 l0_14.length c0_14) := (blk_cell BK111.out 14).trans rfl
              have hcz41_15 : w5.cell? ⟨gb111, 15, none⟩ = some (.slice A0_15 l0_15.length c0_15) := (blk_cell BK111.out 15).trans rfl
              have hcz41_16 : w5.cell? ⟨gb111, 16, none⟩ = some (.slice A0_16 l0_16.length c0_16) := (blk_cell BK111.out 16).trans rfl
              have hcz41_17 : w5.cell? ⟨gb111, 17, none⟩ = some (.slice A0_17 l0_17.length c0_17) := (blk_cell BK111.out 17).trans rfl
              have hcz41_18 : w5.cell? ⟨gb111, 18, none⟩ = some (.slice A0_18 l0_18.length c0_18) := (blk_cell BK111.out 18).trans rfl
              have hfz41_0 := blk_frozen BK111.out 0
              have hfz41_1 := blk_frozen BK111.out 1
              have hfz41_2 := blk_frozen BK111.out 2
              have hfz41_3 := blk_frozen BK111.out 3
              have hfz41_4 := blk_frozen BK111.out 4
              have hfz41_5 := blk_frozen BK111.out 5
              have hfz41_6 := blk_frozen BK111.out 6
              have hfz41_7 := blk_frozen BK111.out 7
              have hfz41_8 := blk_frozen BK111.out 8
              have hfz41_9 := blk_frozen BK111.out 9
              have hfz41_10 := blk_frozen BK111.out 10
              have hfz41_11 := blk_frozen BK111.out 11
              have hfz41_12 := blk_frozen BK111.out 12
              have hfz41_13 := blk_frozen BK111.out 13
              have hfz41_14 := blk_frozen BK111.out 14
              have hfz41_15 := blk_frozen BK111.out 15
              have hfz41_16 := blk_frozen BK111.out 16
              have hfz41_17 := blk_frozen BK111.out 17
              have hfz41_18 := blk_frozen BK111.out 18
              have hcz42_0 : w5.cell? ⟨gb112, 0, none⟩ = some (.int .i64 a1_0) := (blk_cell BK112.out 0).trans rfl
              have hcz42_1 : w5.cell? ⟨gb112, 1, none⟩ = some (.int .i64 a1_1) := (blk_cell BK112.out 1).trans rfl
              have hcz42_2 : w5.cell? ⟨gb112, 2, none⟩ = some (.int .i64 a1_2) := (blk_cell BK112.out 2).trans rfl
              have hcz42_3 : w5.cell? ⟨gb112, 3, none⟩ = some (.int .i64 a1_3) := (blk_cell BK112.out 3).trans rfl
              have hcz42_4 : w5.cell? ⟨gb112, 4, none⟩ = some (.int .i64 a1_4) := (blk_cell BK112.out 4).trans rfl
              have hcz42_5 : w5.cell? ⟨gb112, 5, none⟩ = some (.int .i64 a1_5) := (blk_cell BK112.out 5).trans rfl
              have hcz42_6 : w5.cell? ⟨gb112, 6, none⟩ = some (.int .i64 a1_6) := (blk_cell BK112.out 6).trans rfl
              have hcz42_7 : w5.cell? ⟨gb112, 7, none⟩ = some (.int .i64 a1_7) := (blk_cell BK112.out 7).trans rfl
              have hcz42_8 : w5.cell? ⟨gb112, 8, none⟩ = some (.int .i64 a1_8) := (blk_cell BK112.out 8).trans rfl
              have hcz42_9 : w5.cell? ⟨gb112, 9, none⟩ = some (.int .i64 a1_9) := (blk_cell BK112.out 9).trans rfl
              have hcz42_10 : w5.cell? ⟨gb112, 10, none⟩ = some (.int .i64 a1_10) := (blk_cell BK112.out 10).trans rfl
              have hcz42_11 : w5.cell? ⟨gb112, 11, none⟩ = some (.int .i64 a1_11) := (blk_cell BK112.out 11).trans rfl
              have hcz42_12 : w5.cell? ⟨gb112, 12, none⟩ = some (.int .i64 a1_12) := (blk_cell BK112.out 12).trans rfl
              have hcz42_13 : w5.cell? ⟨gb112, 13, none⟩ = some (.int .i64 a1_13) := (blk_cell BK112.out 13).trans rfl
              have hcz42_14 : w5.cell? ⟨gb112, 14, none⟩ = some (.slice A1_14 l1_14.length c1_14) := (blk_cell BK112.out 14).trans rfl
              have hcz42_15 : w5.cell? ⟨gb112, 15, none⟩ = some (.slice A1_15 l1_15.length c1_15) := (blk_cell BK112.out 15).trans rfl
              have hcz42_16 : w5.cell? ⟨gb112, 16, none⟩ = some (.slice A1_16 l1_16.length c1_16) := (blk_cell BK112.out 16).trans rfl
              have hcz42_17 : w5.cell? ⟨gb112, 17, none⟩ = some (.slice A1_17 l1_17.length c1_17) := (blk_cell BK112.out 17).trans rfl
              have hcz42_18 : w5.cell? ⟨gb112, 18, none⟩ = some (.slice A1_18 l1_18.length c1_18) := (blk_cell BK112.out 18).trans rfl
              have hfz42_0 := blk_frozen BK112.out 0
              have hfz42_1 := blk_frozen BK112.out 1
              have hfz42_2 := blk_frozen BK112.out 2
              have hfz42_3 := blk_frozen BK112.out 3
              have hfz42_4 := blk_frozen BK112.out 4
              have hfz42_5 := blk_frozen BK112.out 5
              have hfz42_6 := blk_frozen BK112.out 6
              have hfz42_7 := blk_frozen BK112.out 7
              have hfz42_8 := blk_frozen BK112.out 8
              have hfz42_9 := blk_frozen BK112.out 9
              have hfz42_10 := blk_frozen BK112.out 10
              have hfz42_11 := blk_frozen BK112.out 11
              have hfz42_12 := blk_frozen BK112.out 12
              have hfz42_13 := blk_frozen BK112.out 13
              have hfz42_14 := blk_frozen BK112.out 14
              have hfz42_15 := blk_frozen BK112.out 15
              have hfz42_16 := blk_frozen BK112.out 16
              have hfz42_17 := blk_frozen BK112.out 17
              have hfz42_18 := blk_frozen BK112.out 18
              go_wp2
              go_meet
              case rel => exact ⟨_, (true), (by first | rfl | (simp; done) | (simp [*]; done) | (simp [*]; generalize ByteArray.toList _ = l_; cases l_ <;> rfl)), H', ⟨by first | omega | exact Nat.le_refl _⟩, ⟨by (with_reducible repeat (first | refine blk_drewN ?_ _ | refine blk_drew ?_ | refine blk_alloc ?_ _)); exact BK111.out⟩, ⟨by (with_reducible repeat (first | refine blk_drewN ?_ _ | refine blk_drew ?_ | refine blk_alloc ?_ _)); exact BK112.out⟩, ⟨by repeat (first | (with_reducible first | exact HB.out | apply below_alloc | apply pw_below_drewN | apply below_drew1 | refine below_set ?_ GE111.out | refine below_set ?_ GE112.out) | exact HB.out)⟩⟩
          · rw [if_neg c15] at H
            have c15b0 : (a0_6 == a1_6) = false := beq_eq_false_iff_ne.mpr c15
            have c15b1 : (a0_6 != a1_6) = true := bne_iff_ne.mpr c15
            have H' := Aside0.mk H
            clear H
            have hnb43 := NB111_112.out
            have hnc43 := NB112_111.out
            have hcz44_0 : w5.cell? ⟨gb111, 0, none⟩ = some (.int .i64 a0_0) := (blk_cell BK111.out 0).trans rfl
            have hcz44_1 : w5.cell? ⟨gb111, 1, none⟩ = some (.int .i64 a0_1) := (blk_cell BK111.out 1).trans rfl
            have hcz44_2 : w5.cell? ⟨gb111, 2, none⟩ = some (.int .i64 a0_2) := (blk_cell BK111.out 2).trans rfl
            have hcz44_3 : w5.cell? ⟨gb111, 3, none⟩ = some (.int .i64 a0_3) := (blk_cell BK111.out 3).trans rfl
            have hcz44_4 : w5.cell? ⟨gb111, 4, none⟩ = some (.int .i64 a0_4) := (blk_cell BK111.out 4).trans rfl
            have hcz44_5 : w5.cell? ⟨gb111, 5, none⟩ = some (.int .i64 a0_5) := (blk_cell BK111.out 5).trans rfl
            have hcz44_6 : w5.cell? ⟨gb111, 6, none⟩ = some (.int .i64 a0_6) := (blk_cell BK111.out 6).trans rfl
            have hcz44_7 : w5.cell? ⟨gb111, 7, none⟩ = some (.int .i64 a0_7) := (blk_cell BK111.out 7).trans rfl
            have hcz44_8 : w5.cell? ⟨gb111, 8, none⟩ = some (.int .i64 a0_8) := (blk_cell BK111.out 8).trans rfl
            have hcz44_9 : w5.cell? ⟨gb111, 9, none⟩ = some (.int .i64 a0_9) := (blk_cell BK111.out 9).trans rfl
            have hcz44_10 : w5.cell? ⟨gb111, 10, none⟩ = some (.int .i64 a0_10) := (blk_cell BK111.out 10).trans rfl
            have hcz44_11 : w5.cell? ⟨gb111, 11, none⟩ = some (.int .i64 a0_11) := (blk_cell BK111.out 11).trans rfl
            have hcz44_12 : w5.cell? ⟨gb111, 12, none⟩ = some (.int .i64 a0_12) := (blk_cell BK111.out 12).trans rfl
            have hcz44_13 : w5.cell? ⟨gb111, 13, none⟩ = some (.int .i64 a0_13) := (blk_cell BK111.out 13).trans rfl
            have hcz44_14 : w5.cell? ⟨gb111, 14, none⟩ = some (.slice A0_14 l0_14.length c0_14) := (blk_cell BK111.out 14).trans rfl
            have hcz44_15 : w5.cell? ⟨gb111, 15, none⟩ = some (.slice A0_15 l0_15.length c0_15) := (blk_cell BK111.out 15).trans rfl
            have hcz44_16 : w5.cell? ⟨gb111, 16, none⟩ = some (.slice A0_16 l0_16.length c0_16) := (blk_cell BK111.out 16).trans rfl
            have hcz44_17 : w5.cell? ⟨gb111, 17, none⟩ = some (.slice A0_17 l0_17.length c0_17) := (blk_cell BK111.out 17).trans rfl
            have hcz44_18 : w5.cell? ⟨gb111, 18, none⟩ = some (.slice A0_18 l0_18.length c0_18) := (blk_cell BK111.out 18).trans rfl
            have hfz44_0 := blk_frozen BK111.out 0
            have hfz44_1 := blk_frozen BK111.out 1
            have hfz44_2 := blk_frozen BK111.out 2
            have hfz44_3 := blk_frozen BK111.out 3
            have hfz44_4 := blk_frozen BK111.out 4
            have hfz44_5 := blk_frozen BK111.out 5
            have hfz44_6 := blk_frozen BK111.out 6
            have hfz44_7 := blk_frozen BK111.out 7
            have hfz44_8 := blk_frozen BK111.out 8
            have hfz44_9 := blk_frozen BK111.out 9
            have hfz44_10 := blk_frozen BK111.out 10
            have hfz44_11 := blk_frozen BK111.out 11
            have hfz44_12 := blk_frozen BK111.out 12
            have hfz44_13 := blk_frozen BK111.out 13
            have hfz44_14 := blk_frozen BK111.out 14
            have hfz44_15 := blk_frozen BK111.out 15
            have hfz44_16 := blk_frozen BK111.out 16
            have hfz44_17 := blk_frozen BK111.out 17
            have hfz44_18 := blk_frozen BK111.out 18
            have hcz45_0 : w5.cell? ⟨gb112, 0, none⟩ = some (.int .i64 a1_0) := (blk_cell BK112.out 0).trans rfl
            have hcz45_1 : w5.cell? ⟨gb112, 1, none⟩ = some (.int .i64 a1_1) := (blk_cell BK112.out 1).trans rfl
            have hcz45_2 : w5.cell? ⟨gb112, 2, none⟩ = some (.int .i64 a1_2) := (blk_cell BK112.out 2).trans rfl
            have hcz45_3 : w5.cell? ⟨gb112, 3, none⟩ = some (.int .i64 a1_3) := (blk_cell BK112.out 3).trans rfl
            have hcz45_4 : w5.cell? ⟨gb112, 4, none⟩ = some (.int .i64 a1_4) := (blk_cell BK112.out 4).trans rfl
            have hcz45_5 : w5.cell? ⟨gb112, 5, none⟩ = some (.int .i64 a1_5) := (blk_cell BK112.out 5).trans rfl
            have hcz45_6 : w5.cell? ⟨gb112, 6, none⟩ = some (.int .i64 a1_6) := (blk_cell BK112.out 6).trans rfl
            have hcz45_7 : w5.cell? ⟨gb112, 7, none⟩ = some (.int .i64 a1_7) := (blk_cell BK112.out 7).trans rfl
            have hcz45_8 : w5.cell? ⟨gb112, 8, none⟩ = some (.int .i64 a1_8) := (blk_cell BK112.out 8).trans rfl
            have hcz45_9 : w5.cell? ⟨gb112, 9, none⟩ = some (.int .i64 a1_9) := (blk_cell BK112.out 9).trans rfl
            have hcz45_10 : w5.cell? ⟨gb112, 10, none⟩ = some (.int .i64 a1_10) := (blk_cell BK112.out 10).trans rfl
            have hcz45_11 : w5.cell? ⟨gb112, 11, none⟩ = some (.int .i64 a1_11) := (blk_cell BK112.out 11).trans rfl
            have hcz45_12 : w5.cell? ⟨gb112, 12, none⟩ = some (.int .i64 a1_12) := (blk_cell BK112.out 12).trans rfl
            have hcz45_13 : w5.cell? ⟨gb112, 13, none⟩ = some (.int .i64 a1_13) := (blk_cell BK112.out 13).trans rfl
            have hcz45_14 : w5.cell? ⟨gb112, 14, none⟩ = some (.slice A1_14 l1_14.length c1_14) := (blk_cell BK112.out 14).trans rfl
            have hcz45_15 : w5.cell? ⟨gb112, 15, none⟩ = some (.slice A1_15 l1_15.length c1_15) := (blk_cell BK112.out 15).trans rfl
            have hcz45_16 : w5.cell? ⟨gb112, 16, none⟩ = some (.slice A1_16 l1_16.length c1_16) := (blk_cell BK112.out 16).trans rfl
            have hcz45_17 : w5.cell? ⟨gb112, 17, none⟩ = some (.slice A1_17 l1_17.length c1_17) := (blk_cell BK112.out 17).trans rfl
            have hcz45_18 : w5.cell? ⟨gb112, 18, none⟩ = some (.slice A1_18 l1_18.length c1_18) := (blk_cell BK112.out 18).trans rfl
            have hfz45_0 := blk_frozen BK112.out 0
            have hfz45_1 := blk_frozen BK112.out 1
            have hfz45_2 := blk_frozen BK112.out 2
            have hfz45_3 := blk_frozen BK112.out 3
            have hfz45_4 := blk_frozen BK112.out 4
            have hfz45_5 := blk_frozen BK112.out 5
            have hfz45_6 := blk_frozen BK112.out 6
            have hfz45_7 := blk_frozen BK112.out 7
            have hfz45_8 := blk_frozen BK112.out 8
            have hfz45_9 := blk_frozen BK112.out 9
            have hfz45_10 := blk_frozen BK112.out 10
            have hfz45_11 := blk_frozen BK112.out 11
            have hfz45_12 := blk_frozen BK112.out 12
            have hfz45_13 := blk_frozen BK112.out 13
            have hfz45_14 := blk_frozen BK112.out 14
            have hfz45_15 := blk_frozen BK112.out 15
            have hfz45_16 := blk_frozen BK112.out 16
            have hfz45_17 := blk_frozen BK112.out 17
            have hfz45_18 := blk_frozen BK112.out 18
            go_wp2
            go_meet
            case rel => exact ⟨_, (true), (by first | rfl | (simp; done) | (simp [*]; done) | (simp [*]; generalize ByteArray.toList _ = l_; cases l_ <;> rfl)), H', ⟨by first | omega | exact Nat.le_refl _⟩, ⟨by (with_reducible repeat (first | refine blk_drewN ?_ _ | refine blk_drew ?_ | refine blk_alloc ?_ _)); exact BK111.out⟩, ⟨by (with_reducible repeat (first | refine blk_drewN ?_ _ | refine blk_drew ?_ | refine blk_alloc ?_ _)); exact BK112.out⟩, ⟨by repeat (first | (with_reducible first | exact HB.out | apply below_alloc | apply pw_below_drewN | apply below_drew1 | refine below_set ?_ GE111.out | refine below_set ?_ GE112.out) | exact HB.out)⟩⟩
    · rw [if_neg c6] at H
      have c6b0 : (a0_0 == a1_0) = false := beq_eq_false_iff_ne.mpr c6
      have c6b1 : (a0_0 != a1_0) = true := bne_iff_ne.mpr c6
      (first | rw [c6b0] | (simp only [i64_w, i32_w]; rw [c6b0]) | skip)
      have H' := Aside0.mk H
      clear H
      have hnb46 := NB111_112.out
      have hnc46 := NB112_111.out
      have hcz47_0 : w5.cell? ⟨gb111, 0, none⟩ = some (.int .i64 a0_0) := (blk_cell BK111.out 0).trans rfl
      have hcz47_1 : w5.cell? ⟨gb111, 1, none⟩ = some (.int .i64 a0_1) := (blk_cell BK111.out 1).trans rfl
      have hcz47_2 : w5.cell? ⟨gb111, 2, none⟩ = some (.int .i64 a0_2) := (blk_cell BK111.out 2).trans rfl
      have hcz47_3 : w5.cell? ⟨gb111, 3, none⟩ = some (.int .i64 a0_3) := (blk_cell BK111.out 3).trans rfl
      have hcz47_4 : w5.cell? ⟨gb111, 4, none⟩ = some (.int .i64 a0_4) := (blk_cell BK111.out 4).trans rfl
      have hcz47_5 : w5.cell? ⟨gb111, 5, none⟩ = some (.int .i64 a0_5) := (blk_cell BK111.out 5).trans rfl
      have hcz47_6 : w5.cell? ⟨gb111, 6, none⟩ = some (.int .i64 a0_6) := (blk_cell BK111.out 6).trans rfl
      have hcz47_7 : w5.cell? ⟨gb111, 7, none⟩ = some (.int .i64 a0_7) := (blk_cell BK111.out 7).trans rfl
      have hcz47_8 : w5.cell? ⟨gb111, 8, none⟩ = some (.int .i64 a0_8) := (blk_cell BK111.out 8).trans rfl
      have hcz47_9 : w5.cell? ⟨gb111, 9, none⟩ = some (.int .i64 a0_9) := (blk_cell BK111.out 9).trans rfl
      have hcz47_10 : w5.cell? ⟨gb111, 10, none⟩ = some (.int .i64 a0_10) := (blk_cell BK111.out 10).trans rfl
      have hcz47_11 : w5.cell? ⟨gb111, 11, none⟩ = some (.int .i64 a0_11) := (blk_cell BK111.out 11).trans rfl
      have hcz47_12 : w5.cell? ⟨gb111, 12, none⟩ = some (.int .i64 a0_12) := (blk_cell BK111.out 12).trans rfl
      have hcz47_13 : w5.cell? ⟨gb111, 13, none⟩ = some (.int .i64 a0_13) := (blk_cell BK111.out 13).trans rfl
      have hcz47_14 : w5.cell? ⟨gb111, 14, none⟩ = some (.slice A0_14 l0_14.length c0_14) := (blk_cell BK111.out 14).trans rfl
      have hcz47_15 : w5.cell? ⟨gb111, 15, none⟩ = some (.slice A0_15 l0_15.length c0_15) := (blk_cell BK111.out 15).trans rfl
      have hcz47_16 : w5.cell? ⟨gb111, 16, none⟩ = some (.slice A0_16 l0_16.length c0_16) := (blk_cell BK111.out 16).trans rfl
      have hcz47_17 : w5.cell? ⟨gb111, 17, none⟩ = some (.slice A0_17 l0_17.length c0_17) := (blk_cell BK111.out 17).trans rfl
      have hcz47_18 : w5.cell? ⟨gb111, 18, none⟩ = some (.slice A0_18 l0_18.length c0_18) := (blk_cell BK111.out 18).trans rfl
      have hfz47_0 := blk_frozen BK111.out 0
      have hfz47_1 := blk_frozen BK111.out 1
      have hfz47_2 := blk_frozen BK111.out 2
      have hfz47_3 := blk_frozen BK111.out 3
      have hfz47_4 := blk_frozen BK111.out 4
      have hfz47_5 := blk_frozen BK111.out 5
      have hfz47_6 := blk_frozen BK111.out 6
      have hfz47_7 := blk_frozen BK111.out 7
      have hfz47_8 := blk_frozen BK111.out 8
      have hfz47_9 := blk_frozen BK111.out 9
      have hfz47_10 := blk_frozen BK111.out 10
      have hfz47_11 := blk_frozen BK111.out 11
      have hfz47_12 := blk_frozen BK111.out 12
      have hfz47_13 := blk_frozen BK111.out 13
      have hfz47_14 := blk_frozen BK111.out 14
      have hfz47_15 := blk_frozen BK111.out 15
      have hfz47_16 := blk_frozen BK111.out 16
      have hfz47_17 := blk_frozen BK111.out 17
      have hfz47_18 := blk_frozen BK111.out 18
      have hcz48_0 : w5.cell? ⟨gb112, 0, none⟩ = some (.int .i64 a1_0) := (blk_cell BK112.out 0).trans rfl
      have hcz48_1 : w5.cell? ⟨gb112, 1, none⟩ = some (.int .i64 a1_1) := (blk_cell BK112.out 1).trans rfl
      have hcz48_2 : w5.cell? ⟨gb112, 2, none⟩ = some (.int .i64 a1_2) := (blk_cell BK112.out 2).trans rfl
      have hcz48_3 : w5.cell? ⟨gb112, 3, none⟩ = some (.int .i64 a1_3) := (blk_cell BK112.out 3).trans rfl
      have hcz48_4 : w5.cell? ⟨gb112, 4, none⟩ = some (.int .i64 a1_4) := (blk_cell BK112.out 4).trans rfl
      have hcz48_5 : w5.cell? ⟨gb112, 5, none⟩ = some (.int .i64 a1_5) := (blk_cell BK112.out 5).trans rfl
      have hcz48_6 : w5.cell? ⟨gb112, 6, none⟩ = some (.int .i64 a1_6) := (blk_cell BK112.out 6).trans rfl
      have hcz48_7 : w5.cell? ⟨gb112, 7, none⟩ = some (.int .i64 a1_7) := (blk_cell BK112.out 7).trans rfl
      have hcz48_8 : w5.cell? ⟨gb112, 8, none⟩ = some (.int .i64 a1_8) := (blk_cell BK112.out 8).trans rfl
      have hcz48_9 : w5.cell? ⟨gb112, 9, none⟩ = some (.int .i64 a1_9) := (blk_cell BK112.out 9).trans rfl
      have hcz48_10 : w5.cell? ⟨gb112, 10, none⟩ = some (.int .i64 a1_10) := (blk_cell BK112.out 10).trans rfl
      have hcz48_11 : w5.cell? ⟨gb112, 11, none⟩ = some (.int .i64 a1_11) := (blk_cell BK112.out 11).trans rfl
      have hcz48_12 : w5.cell? ⟨gb112, 12, none⟩ = some (.int .i64 a1_12) := (blk_cell BK112.out 12).trans rfl
      have hcz48_13 : w5.cell? ⟨gb112, 13, none⟩ = some (.int .i64 a1_13) := (blk_cell BK112.out 13).trans rfl
      have hcz48_14 : w5.cell? ⟨gb112, 14, none⟩ = some (.slice A1_14 l1_14.length c1_14) := (blk_cell BK112.out 14).trans rfl
      have hcz48_15 : w5.cell? ⟨gb112, 15, none⟩ = some (.slice A1_15 l1_15.length c1_15) := (blk_cell BK112.out 15).trans rfl
      have hcz48_16 : w5.cell? ⟨gb112, 16, none⟩ = some (.slice A1_16 l1_16.length c1_16) := (blk_cell BK112.out 16).trans rfl
      have hcz48_17 : w5.cell? ⟨gb112, 17, none⟩ = some (.slice A1_17 l1_17.length c1_17) := (blk_cell BK112.out 17).trans rfl
      have hcz48_18 : w5.cell? ⟨gb112, 18, none⟩ = some (.slice A1_18 l1_18.length c1_18) := (blk_cell BK112.out 18).trans rfl
      have hfz48_0 := blk_frozen BK112.out 0
      have hfz48_1 := blk_frozen BK112.out 1
      have hfz48_2 := blk_frozen BK112.out 2
      have hfz48_3 := blk_frozen BK112.out 3
      have hfz48_4 := blk_frozen BK112.out 4
      have hfz48_5 := blk_frozen BK112.out 5
      have hfz48_6 := blk_frozen BK112.out 6
      have hfz48_7 := blk_frozen BK112.out 7
      have hfz48_8 := blk_frozen BK112.out 8
      have hfz48_9 := blk_frozen BK112.out 9
      have hfz48_10 := blk_frozen BK112.out 10
      have hfz48_11 := blk_frozen BK112.out 11
      have hfz48_12 := blk_frozen BK112.out 12
      have hfz48_13 := blk_frozen BK112.out 13
      have hfz48_14 := blk_frozen BK112.out 14
      have hfz48_15 := blk_frozen BK112.out 15
      have hfz48_16 := blk_frozen BK112.out 16
      have hfz48_17 := blk_frozen BK112.out 17
      have hfz48_18 := blk_frozen BK112.out 18
      go_wp2
      go_meet
      case rel => exact ⟨_, (true), (by first | rfl | (simp; done) | (simp [*]; done) | (simp [*]; generalize ByteArray.toList _ = l_; cases l_ <;> rfl)), H', ⟨by first | omega | exact Nat.le_refl _⟩, ⟨by (with_reducible repeat (first | refine blk_drewN ?_ _ | refine blk_drew ?_ | refine blk_alloc ?_ _)); exact BK111.out⟩, ⟨by (with_reducible repeat (first | refine blk_drewN ?_ _ | refine blk_drew ?_ | refine blk_alloc ?_ _)); exact BK112.out⟩, ⟨by repeat (first | (with_reducible first | exact HB.out | apply below_alloc | apply pw_below_drewN | apply below_drew1 | refine below_set ?_ GE111.out | refine below_set ?_ GE112.out) | exact HB.out)⟩⟩
  case rest =>
    clear HC3
    try clear c1
    try clear c2
    try clear p2
    try clear c3
    try clear c4
    try clear c6
    try clear c6b0
    try clear c6b1
    try clear c15
    try clear c15b0
    try clear c15b1
    try clear c16
    try clear c16b0
    try clear c16b1
    try clear c17
    try clear c17b0
    try clear c17b1
    try clear c18
    try clear c18b0
    try clear c18b1
    try clear c19
    try clear c19b0
    try clear c19b1
    try clear c28
    try clear c31
    try clear c34
    try clear c37
    try clear c40
    try clear c43
    try clear c46
    try clear hcz29_0
    try clear hcz29_1
    try clear hcz29_10
    try clear hcz29_11
    try clear hcz29_12
    try clear hcz29_13
    try clear hcz29_14
    try clear hcz29_15
    try clear hcz29_16
    try clear hcz29_17
    try clear hcz29_18
    try clear hcz29_2
    try clear hcz29_3
    try clear hcz29_4
    try clear hcz29_5
    try clear hcz29_6
    try clear hcz29_7
    try clear hcz29_8
    try clear hcz29_9
    try clear hcz30_0
    try clear hcz30_1
    try clear hcz30_10
    try clear hcz30_11
    try clear hcz30_12
    try clear hcz30_13
    try clear hcz30_14
    try clear hcz30_15
    try clear hcz30_16
    try clear hcz30_17
    try clear hcz30_18
    try clear hcz30_2
    try clear hcz30_3
    try clear hcz30_4
    try clear hcz30_5
    try clear hcz30_6
    try clear hcz30_7
    try clear hcz30_8
    try clear hcz30_9
    try clear hcz32_0
    try clear hcz32_1
    try clear hcz32_10
    try clear hcz32_11
    try clear hcz32_12
    try clear hcz32_13
    try clear hcz32_14
    try clear hcz32_15
    try clear hcz32_16
    try clear hcz32_17
    try clear hcz32_18
    try clear hcz32_2
    try clear hcz32_3
    try clear hcz32_4
    try clear hcz32_5
    try clear hcz32_6
    try clear hcz32_7
    try clear hcz32_8
    try clear hcz32_9
    try clear hcz33_0
    try clear hcz33_1
    try clear hcz33_10
    try clear hcz33_11
    try clear hcz33_12
    try clear hcz33_13
    try clear hcz33_14
    try clear hcz33_15
    try clear hcz33_16
    try clear hcz33_17
    try clear hcz33_18
    try clear hcz33_2
    try clear hcz33_3
    try clear hcz33_4
    try clear hcz33_5
    try clear hcz33_6
    try clear hcz33_7
    try clear hcz33_8
    try clear hcz33_9
    try clear hcz35_0
    try clear hcz35_1
    try clear hcz35_10
    try clear hcz35_11
    try clear hcz35_12
    try clear hcz35_13
    try clear hcz35_14
    try clear hcz35_15
    try clear hcz35_16
    try clear hcz35_17
    try clear hcz35_18
    try clear hcz35_2
    try clear hcz35_3
    try clear hcz35_4
    try clear hcz35_5
    try clear hcz35_6
    try clear hcz35_7
    try clear hcz35_8
    try clear hcz35_9
    try clear hcz36_0
    try clear hcz36_1
    try clear hcz36_10
    try clear hcz36_11
    try clear hcz36_12
    try clear hcz36_13
    try clear hcz36_14
    try clear hcz36_15
    try clear hcz36_16
    try clear hcz36_17
    try clear hcz36_18
    try clear hcz36_2
    try clear hcz36_3
    try clear hcz36_4
    try clear hcz36_5
    try clear hcz36_6
    try clear hcz36_7
    try clear hcz36_8
    try clear hcz36_9
    try clear hcz38_0
    try clear hcz38_1
    try clear hcz38_10
    try clear hcz38_11
    try clear hcz38_12
    try clear hcz38_13
    try clear hcz38_14
    try clear hcz38_15
    try clear hcz38_16
    try clear hcz38_17
    try clear hcz38_18
    try clear hcz38_2
    try clear hcz38_3
    try clear hcz38_4
    try clear hcz38_5
    try clear hcz38_6
    try clear hcz38_7
    try clear hcz38_8
    try clear hcz38_9
    try clear hcz39_0
    try clear hcz39_1
    try clear hcz39_10
    try clear hcz39_11
    try clear hcz39_12
    try clear hcz39_13
    try clear hcz39_14
    try clear hcz39_15
    try clear hcz39_16
    try clear hcz39_17
    try clear hcz39_18
    try clear hcz39_2
    try clear hcz39_3
    try clear hcz39_4
    try clear hcz39_5
    try clear hcz39_6
    try clear hcz39_7
    try clear hcz39_8
    try clear hcz39_9
    try clear hcz41_0
    try clear hcz41_1
    try clear hcz41_10
    try clear hcz41_11
    try clear hcz41_12
    try clear hcz41_13
    try clear hcz41_14
    try clear hcz41_15
    try clear hcz41_16
    try clear hcz41_17
    try clear hcz41_18
    try clear hcz41_2
    try clear hcz41_3
    try clear hcz41_4
    try clear hcz41_5
    try clear hcz41_6
    try clear hcz41_7
    try clear hcz41_8
    try clear hcz41_9
    try clear hcz42_0
    try clear hcz42_1
    try clear hcz42_10
    try clear hcz42_11
    try clear hcz42_12
    try clear hcz42_13
    try clear hcz42_14
    try clear hcz42_15
    try clear hcz42_16
    try clear hcz42_17
    try clear hcz42_18
    try clear hcz42_2
    try clear hcz42_3
    try clear hcz42_4
    try clear hcz42_5
    try clear hcz42_6
    try clear hcz42_7
    try clear hcz42_8
    try clear hcz42_9
    try clear hcz44_0
    try clear hcz44_1
    try clear hcz44_10
    try clear hcz44_11
    try clear hcz44_12
    try clear hcz44_13
    try clear hcz44_14
    try clear hcz44_15
    try clear hcz44_16
    try clear hcz44_17
    try clear hcz44_18
    try clear hcz44_2
    try clear hcz44_3
    try clear hcz44_4
    try clear hcz44_5
    try clear hcz44_6
    try clear hcz44_7
    try clear hcz44_8
    try clear hcz44_9
    try clear hcz45_0
    try clear hcz45_1
    try clear hcz45_10
    try clear hcz45_11
    try clear hcz45_12
    try clear hcz45_13
    try clear hcz45_14
    try clear hcz45_15
    try clear hcz45_16
    try clear hcz45_17
    try clear hcz45_18
    try clear hcz45_2
    try clear hcz45_3
    try clear hcz45_4
    try clear hcz45_5
    try clear hcz45_6
    try clear hcz45_7
    try clear hcz45_8
    try clear hcz45_9
    try clear hcz47_0
    try clear hcz47_1
    try clear hcz47_10
    try clear hcz47_11
    try clear hcz47_12
    try clear hcz47_13
    try clear hcz47_14
    try clear hcz47_15
    try clear hcz47_16
    try clear hcz47_17
    try clear hcz47_18
    try clear hcz47_2
    try clear hcz47_3
    try clear hcz47_4
    try clear hcz47_5
    try clear hcz47_6
    try clear hcz47_7
    try clear hcz47_8
    try clear hcz47_9
    try clear hcz48_0
    try clear hcz48_1
    try clear hcz48_10
    try clear hcz48_11
    try clear hcz48_12
    try clear hcz48_13
    try clear hcz48_14
    try clear hcz48_15
    try clear hcz48_16
    try clear hcz48_17
    try clear hcz48_18
    try clear hcz48_2
    try clear hcz48_3
    try clear hcz48_4
    try clear hcz48_5
    try clear hcz48_6
    try clear hcz48_7
    try clear hcz48_8
    try clear hcz48_9
    try clear hfz29_0
    try clear hfz29_1
    try clear hfz29_10
    try clear hfz29_11
    try clear hfz29_12
    try clear hfz29_13
    try clear hfz29_14
    try clear hfz29_15
    try clear hfz29_16
    try clear hfz29_17
    try clear hfz29_18
    try clear hfz29_2
    try clear hfz29_3
    try clear hfz29_4
    try clear hfz29_5
    try clear hfz29_6
    try clear hfz29_7
    try clear hfz29_8
    try clear hfz29_9
    try clear hfz30_0
    try clear hfz30_1
    try clear hfz30_10
    try clear hfz30_11
    try clear hfz30_12
    try clear hfz30_13
    try clear hfz30_14
    try clear hfz30_15
    try clear hfz30_16
    try clear hfz30_17
    try clear hfz30_18
    try clear hfz30_2
    try clear hfz30_3
    try clear hfz30_4
    try clear hfz30_5
    try clear hfz30_6
    try clear hfz30_7
    try clear hfz30_8
    try clear hfz30_9
    try clear hfz32_0
    try clear hfz32_1
    try clear hfz32_10
    try clear hfz32_11
    try clear hfz32_12
    try clear hfz32_13
    try clear hfz32_14
    try clear hfz32_15
    try clear hfz32_16
    try clear hfz32_17
    try clear hfz32_18
    try clear hfz32_2
    try clear hfz32_3
    try clear hfz32_4
    try clear hfz32_5
    try clear hfz32_6
    try clear hfz32_7
    try clear hfz32_8
    try clear hfz32_9
    try clear hfz33_0
    try clear hfz33_1
    try clear hfz33_10
    try clear hfz33_11
    try clear hfz33_12
    try clear hfz33_13
    try clear hfz33_14
    try clear hfz33_15
    try clear hfz33_16
    try clear hfz33_17
    try clear hfz33_18
    try clear hfz33_2
    try clear hfz33_3
    try clear hfz33_4
    try clear hfz33_5
    try clear hfz33_6
    try clear hfz33_7
    try clear hfz33_8
    try clear hfz33_9
    try clear hfz35_0
    try clear hfz35_1
    try clear hfz35_10
    try clear hfz35_11
    try clear hfz35_12
    try clear hfz35_13
    try clear hfz35_14
    try clear hfz35_15
    try clear hfz35_16
    try clear hfz35_17
    try clear hfz35_18
    try clear hfz35_2
    try clear hfz35_3
    try clear hfz35_4
    try clear hfz35_5
    try clear hfz35_6
    try clear hfz35_7
    try clear hfz35_8
    try clear hfz35_9
    try clear hfz36_0
    try clear hfz36_1
    try clear hfz36_10
    try clear hfz36_11
    try clear hfz36_12
    try clear hfz36_13
    try clear hfz36_14
    try clear hfz36_15
    try clear hfz36_16
    try clear hfz36_17
    try clear hfz36_18
    try clear hfz36_2
    try clear hfz36_3
    try clear hfz36_4
    try clear hfz36_5
    try clear hfz36_6
    try clear hfz36_7
    try clear hfz36_8
    try clear hfz36_9
    try clear hfz38_0
    try clear hfz38_1
    try clear hfz38_10
    try clear hfz38_11
    try clear hfz38_12
    try clear hfz38_13
    try clear hfz38_14
    try clear hfz38_15
    try clear hfz38_16
    try clear hfz38_17
    try clear hfz38_18
    try clear hfz38_2
    try clear hfz38_3
    try clear hfz38_4
    try clear hfz38_5
    try clear hfz38_6
    try clear hfz38_7
    try clear hfz38_8
    try clear hfz38_9
    try clear hfz39_0
    try clear hfz39_1
    try clear hfz39_10
    try clear hfz39_11
    try clear hfz39_12
    try clear hfz39_13
    try clear hfz39_14
    try clear hfz39_15
    try clear hfz39_16
    try clear hfz39_17
    try clear hfz39_18
    try clear hfz39_2
    try clear hfz39_3
    try clear hfz39_4
    try clear hfz39_5
    try clear hfz39_6
    try clear hfz39_7
    try clear hfz39_8
    try clear hfz39_9
    try clear hfz41_0
    try clear hfz41_1
    try clear hfz41_10
    try clear hfz41_11
    try clear hfz41_12
    try clear hfz41_13
    try clear hfz41_14
    try clear hfz41_15
    try clear hfz41_16
    try clear hfz41_17
    try clear hfz41_18
    try clear hfz41_2
    try clear hfz41_3
    try clear hfz41_4
    try clear hfz41_5
    try clear hfz41_6
    try clear hfz41_7
    try clear hfz41_8
    try clear hfz41_9
    try clear hfz42_0
    try clear hfz42_1
    try clear hfz42_10
    try clear hfz42_11
    try clear hfz42_12
    try clear hfz42_13
    try clear hfz42_14
    try clear hfz42_15
    try clear hfz42_16
    try clear hfz42_17
    try clear hfz42_18
    try clear hfz42_2
    try clear hfz42_3
    try clear hfz42_4
    try clear hfz42_5
    try clear hfz42_6
    try clear hfz42_7
    try clear hfz42_8
    try clear hfz42_9
    try clear hfz44_0
    try clear hfz44_1
    try clear hfz44_10
    try clear hfz44_11
    try clear hfz44_12
    try clear hfz44_13
    try clear hfz44_14
    try clear hfz44_15
    try clear hfz44_16
    try clear hfz44_17
    try clear hfz44_18
    try clear hfz44_2
    try clear hfz44_3
    try clear hfz44_4
    try clear hfz44_5
    try clear hfz44_6
    try clear hfz44_7
    try clear hfz44_8
    try clear hfz44_9
    try clear hfz45_0
    try clear hfz45_1
    try clear hfz45_10
    try clear hfz45_11
    try clear hfz45_12
    try clear hfz45_13
    try clear hfz45_14
    try clear hfz45_15
    try clear hfz45_16
    try clear hfz45_17
    try clear hfz45_18
    try clear hfz45_2
    try clear hfz45_3
    try clear hfz45_4
    try clear hfz45_5
    try clear hfz45_6
    try clear hfz45_7
    try clear hfz45_8
    try clear hfz45_9
    try clear hfz47_0
    try clear hfz47_1
    try clear hfz47_10
    try clear hfz47_11
    try clear hfz47_12
    try clear hfz47_13
    try clear hfz47_14
    try clear hfz47_15
    try clear hfz47_16
    try clear hfz47_17
    try clear hfz47_18
    try clear hfz47_2
    try clear hfz47_3
    try clear hfz47_4
    try clear hfz47_5
    try clear hfz47_6
    try clear hfz47_7
    try clear hfz47_8
    try clear hfz47_9
    try clear hfz48_0
    try clear hfz48_1
    try clear hfz48_10
    try clear hfz48_11
    try clear hfz48_12
    try clear hfz48_13
    try clear hfz48_14
    try clear hfz48_15
    try clear hfz48_16
    try clear hfz48_17
    try clear hfz48_18
    try clear hfz48_2
    try clear hfz48_3
    try clear hfz48_4
    try clear hfz48_5
    try clear hfz48_6
    try clear hfz48_7
    try clear hfz48_8
    try clear hfz48_9
    obtain ⟨kq, x79_2, rfl, HA, HJ2, BK111, BK112, HB⟩ := hcut
    cases kq with
    | zero => exact absurd HA.out (by simp [spec_EqualThreads.j0])
    | succ kj2 =>
      have H := HA.out
      clear HA
      simp only [spec_EqualThreads.j0] at H
      by_cases c49 : x79_2 = true
      · subst c49
        have H1 : (some false) = some r := by rw [if_pos rfl] at H; exact H
        clear H
        have H := H1
        clear H1
        obtain rfl := Option.some.inj H
        go_wp2
        go_ret
        exact ⟨by first | rfl | (refine congrArg Ending.returned (congrArg Value.bool ?_); generalize ByteArray.toList _ = l_; cases l_ <;> rfl) | (simp [errW_none, errW_some] <;> rfl) | (simp [*, errW_none, errW_some] <;> rfl), by repeat (first | (with_reducible first | exact HB.out | apply below_alloc | apply pw_below_drewN | apply below_drew1 | refine below_set ?_ GE111.out | refine below_set ?_ GE112.out) | exact HB.out)⟩
      · replace c49 := Bool.eq_false_iff.mpr c49
        subst c49
        have H1 : ((spec_l7Ints.f kj2 l0_14 l1_14).bind fun t113 => (if t113 = true then ((spec_l7Ints.f kj2 l0_15 l1_15).bind fun t114 => (if t114 = true then ((spec_l7Entries.f kj2 l0_16 l1_16).bind fun t115 => (if t115 = true then ((spec_l7Entries.f kj2 l0_17 l1_17).bind fun t116 => (if t116 = true then ((spec_l7Ints.f kj2 l0_18 l1_18).bind fun t117 => (some t117)) else (some false))) else (some false))) else (some false))) else (some false))) = some r := by rw [if_neg (show ¬ (false = true) by decide)] at H; exact H
        clear H
        have H := H1
        clear H1
        replace H := Option.bind_eq_some_iff.mp H
        obtain ⟨t113, A500, H⟩ := H
        replace H : (if t113 = true then ((spec_l7Ints.f kj2 l0_15 l1_15).bind fun t114 => (if t114 = true then ((spec_l7Entries.f kj2 l0_16 l1_16).bind fun t115 => (if t115 = true then ((spec_l7Entries.f kj2 l0_17 l1_17).bind fun t116 => (if t116 = true then ((spec_l7Ints.f kj2 l0_18 l1_18).bind fun t117 => (some t117)) else (some false))) else (some false))) else (some false))) else (some false)) = some r := H
        have A50 := Aside0.mk A500
        clear A500
        by_cases c51 : t113 = true
        · subst c51
          have H1 : ((spec_l7Ints.f kj2 l0_15 l1_15).bind fun t114 => (if t114 = true then ((spec_l7Entries.f kj2 l0_16 l1_16).bind fun t115 => (if t115 = true then ((spec_l7Entries.f kj2 l0_17 l1_17).bind fun t116 => (if t116 = true then ((spec_l7Ints.f kj2 l0_18 l1_18).bind fun t117 => (some t117)) else (some false))) else (some false))) else (some false))) = some r := by rw [if_pos rfl] at H; exact H
          clear H
          have H := H1
          clear H1
          replace H := Option.bind_eq_some_iff.mp H
          obtain ⟨t114, A520, H⟩ := H
          replace H : (if t114 = true then ((spec_l7Entries.f kj2 l0_16 l1_16).bind fun t115 => (if t115 = true then ((spec_l7Entries.f kj2 l0_17 l1_17).bind fun t116 => (if t116 = true then ((spec_l7Ints.f kj2 l0_18 l1_18).bind fun t117 => (some t117)) else (some false))) else (some false))) else (some false)) = some r := H
          have A52 := Aside0.mk A520
          clear A520
          by_cases c53 : t114 = true
          · subst c53
            have H1 : ((spec_l7Entries.f kj2 l0_16 l1_16).bind fun t115 => (if t115 = true then ((spec_l7Entries.f kj2 l0_17 l1_17).bind fun t116 => (if t116 = true then ((spec_l7Ints.f kj2 l0_18 l1_18).bind fun t117 => (some t117)) else (some false))) else (some false))) = some r := by rw [if_pos rfl] at H; exact H
            clear H
            have H := H1
            clear H1
            replace H := Option.bind_eq_some_iff.mp H
            obtain ⟨t115, A540, H⟩ := H
            replace H : (if t115 = true then ((spec_l7Entries.f kj2 l0_17 l1_17).bind fun t116 => (if t116 = true then ((spec_l7Ints.f kj2 l0_18 l1_18).bind fun t117 => (some t117)) else (some false))) else (some false)) = some r := H
            have A54 := Aside0.mk A540
            clear A540
            by_cases c55 : t115 = true
            · subst c55
              have H1 : ((spec_l7Entries.f kj2 l0_17 l1_17).bind fun t116 => (if t116 = true then ((spec_l7Ints.f kj2 l0_18 l1_18).bind fun t117 => (some t117)) else (some false))) = some r := by rw [if_pos rfl] at H; exact H
              clear H
              have H := H1
              clear H1
              replace H := Option.bind_eq_some_iff.mp H
              obtain ⟨t116, A560, H⟩ := H
              replace H : (if t116 = true then ((spec_l7Ints.f kj2 l0_18 l1_18).bind fun t117 => (some t117)) else (some false)) = some r := H
              have A56 := Aside0.mk A560
              clear A560
              by_cases c57 : t116 = true
              · subst c57
                have H1 : ((spec_l7Ints.f kj2 l0_18 l1_18).bind fun t117 => (some t117)) = some r := by rw [if_pos rfl] at H; exact H
                clear H
                have H := H1
                clear H1
                replace H := Option.bind_eq_some_iff.mp H
                obtain ⟨t117, A580, H⟩ := H
                replace H : (some t117) = some r := H
                have A58 := Aside0.mk A580
                clear A580
                obtain rfl := Option.some.inj H
                have hnb59 := NB111_112.out
                have hnc59 := NB112_111.out
                have hcz60_0 : wc.cell? ⟨gb111, 0, none⟩ = some (.int .i64 a0_0) := (blk_cell BK111.out 0).trans rfl
                have hcz60_1 : wc.cell? ⟨gb111, 1, none⟩ = some (.int .i64 a0_1) := (blk_cell BK111.out 1).trans rfl
                have hcz60_2 : wc.cell? ⟨gb111, 2, none⟩ = some (.int .i64 a0_2) := (blk_cell BK111.out 2).trans rfl
                have hcz60_3 : wc.cell? ⟨gb111, 3, none⟩ = some (.int .i64 a0_3) := (blk_cell BK111.out 3).trans rfl
                have hcz60_4 : wc.cell? ⟨gb111, 4, none⟩ = some (.int .i64 a0_4) := (blk_cell BK111.out 4).trans rfl
                have hcz60_5 : wc.cell? ⟨gb111, 5, none⟩ = some (.int .i64 a0_5) := (blk_cell BK111.out 5).trans rfl
                have hcz60_6 : wc.cell? ⟨gb111, 6, none⟩ = some (.int .i64 a0_6) := (blk_cell BK111.out 6).trans rfl
                have hcz60_7 : wc.cell? ⟨gb111, 7, none⟩ = some (.int .i64 a0_7) := (blk_cell BK111.out 7).trans rfl
                have hcz60_8 : wc.cell? ⟨gb111, 8, none⟩ = some (.int .i64 a0_8) := (blk_cell BK111.out 8).trans rfl
                have hcz60_9 : wc.cell? ⟨gb111, 9, none⟩ = some (.int .i64 a0_9) := (blk_cell BK111.out 9).trans rfl
                have hcz60_10 : wc.cell? ⟨gb111, 10, none⟩ = some (.int .i64 a0_10) := (blk_cell BK111.out 10).trans rfl
                have hcz60_11 : wc.cell? ⟨gb111, 11, none⟩ = some (.int .i64 a0_11) := (blk_cell BK111.out 11).trans rfl
                have hcz60_12 : wc.cell? ⟨gb111, 12, none⟩ = some (.int .i64 a0_12) := (blk_cell BK111.out 12).trans rfl
                have hcz60_13 : wc.cell? ⟨gb111, 13, none⟩ = some (.int .i64 a0_13) := (blk_cell BK111.out 13).trans rfl
                have hcz60_14 : wc.cell? ⟨gb111, 14, none⟩ = some (.slice A0_14 l0_14.length c0_14) := (blk_cell BK111.out 14).trans rfl
                have hcz60_15 : wc.cell? ⟨gb111, 15, none⟩ = some (.slice A0_15 l0_15.length c0_15) := (blk_cell BK111.out 15).trans rfl
                have hcz60_16 : wc.cell? ⟨gb111, 16, none⟩ = some (.slice A0_16 l0_16.length c0_16) := (blk_cell BK111.out 16).trans rfl
                have hcz60_17 : wc.cell? ⟨gb111, 17, none⟩ = some (.slice A0_17 l0_17.length c0_17) := (blk_cell BK111.out 17).trans rfl
                have hcz60_18 : wc.cell? ⟨gb111, 18, none⟩ = some (.slice A0_18 l0_18.length c0_18) := (blk_cell BK111.out 18).trans rfl
                have hfz60_0 := blk_frozen BK111.out 0
                have hfz60_1 := blk_frozen BK111.out 1
                have hfz60_2 := blk_frozen BK111.out 2
                have hfz60_3 := blk_frozen BK111.out 3
                have hfz60_4 := blk_frozen BK111.out 4
                have hfz60_5 := blk_frozen BK111.out 5
                have hfz60_6 := blk_frozen BK111.out 6
                have hfz60_7 := blk_frozen BK111.out 7
                have hfz60_8 := blk_frozen BK111.out 8
                have hfz60_9 := blk_frozen BK111.out 9
                have hfz60_10 := blk_frozen BK111.out 10
                have hfz60_11 := blk_frozen BK111.out 11
                have hfz60_12 := blk_frozen BK111.out 12
                have hfz60_13 := blk_frozen BK111.out 13
                have hfz60_14 := blk_frozen BK111.out 14
                have hfz60_15 := blk_frozen BK111.out 15
                have hfz60_16 := blk_frozen BK111.out 16
                have hfz60_17 := blk_frozen BK111.out 17
                have hfz60_18 := blk_frozen BK111.out 18
                have hcz61_0 : wc.cell? ⟨gb112, 0, none⟩ = some (.int .i64 a1_0) := (blk_cell BK112.out 0).trans rfl
                have hcz61_1 : wc.cell? ⟨gb112, 1, none⟩ = some (.int .i64 a1_1) := (blk_cell BK112.out 1).trans rfl
                have hcz61_2 : wc.cell? ⟨gb112, 2, none⟩ = some (.int .i64 a1_2) := (blk_cell BK112.out 2).trans rfl
                have hcz61_3 : wc.cell? ⟨gb112, 3, none⟩ = some (.int .i64 a1_3) := (blk_cell BK112.out 3).trans rfl
                have hcz61_4 : wc.cell? ⟨gb112, 4, none⟩ = some (.int .i64 a1_4) := (blk_cell BK112.out 4).trans rfl
                have hcz61_5 : wc.cell? ⟨gb112, 5, none⟩ = some (.int .i64 a1_5) := (blk_cell BK112.out 5).trans rfl
                have hcz61_6 : wc.cell? ⟨gb112, 6, none⟩ = some (.int .i64 a1_6) := (blk_cell BK112.out 6).trans rfl
                have hcz61_7 : wc.cell? ⟨gb112, 7, none⟩ = some (.int .i64 a1_7) := (blk_cell BK112.out 7).trans rfl
                have hcz61_8 : wc.cell? ⟨gb112, 8, none⟩ = some (.int .i64 a1_8) := (blk_cell BK112.out 8).trans rfl
                have hcz61_9 : wc.cell? ⟨gb112, 9, none⟩ = some (.int .i64 a1_9) := (blk_cell BK112.out 9).trans rfl
                have hcz61_10 : wc.cell? ⟨gb112, 10, none⟩ = some (.int .i64 a1_10) := (blk_cell BK112.out 10).trans rfl
                have hcz61_11 : wc.cell? ⟨gb112, 11, none⟩ = some (.int .i64 a1_11) := (blk_cell BK112.out 11).trans rfl
                have hcz61_12 : wc.cell? ⟨gb112, 12, none⟩ = some (.int .i64 a1_12) := (blk_cell BK112.out 12).trans rfl
                have hcz61_13 : wc.cell? ⟨gb112, 13, none⟩ = some (.int .i64 a1_13) := (blk_cell BK112.out 13).trans rfl
                have hcz61_14 : wc.cell? ⟨gb112, 14, none⟩ = some (.slice A1_14 l1_14.length c1_14) := (blk_cell BK112.out 14).trans rfl
                have hcz61_15 : wc.cell? ⟨gb112, 15, none⟩ = some (.slice A1_15 l1_15.length c1_15) := (blk_cell BK112.out 15).trans rfl
                have hcz61_16 : wc.cell? ⟨gb112, 16, none⟩ = some (.slice A1_16 l1_16.length c1_16) := (blk_cell BK112.out 16).trans rfl
                have hcz61_17 : wc.cell? ⟨gb112, 17, none⟩ = some (.slice A1_17 l1_17.length c1_17) := (blk_cell BK112.out 17).trans rfl
                have hcz61_18 : wc.cell? ⟨gb112, 18, none⟩ = some (.slice A1_18 l1_18.length c1_18) := (blk_cell BK112.out 18).trans rfl
                have hfz61_0 := blk_frozen BK112.out 0
                have hfz61_1 := blk_frozen BK112.out 1
                have hfz61_2 := blk_frozen BK112.out 2
                have hfz61_3 := blk_frozen BK112.out 3
                have hfz61_4 := blk_frozen BK112.out 4
                have hfz61_5 := blk_frozen BK112.out 5
                have hfz61_6 := blk_frozen BK112.out 6
                have hfz61_7 := blk_frozen BK112.out 7
                have hfz61_8 := blk_frozen BK112.out 8
                have hfz61_9 := blk_frozen BK112.out 9
                have hfz61_10 := blk_frozen BK112.out 10
                have hfz61_11 := blk_frozen BK112.out 11
                have hfz61_12 := blk_frozen BK112.out 12
                have hfz61_13 := blk_frozen BK112.out 13
                have hfz61_14 := blk_frozen BK112.out 14
                have hfz61_15 := blk_frozen BK112.out 15
                have hfz61_16 := blk_frozen BK112.out 16
                have hfz61_17 := blk_frozen BK112.out 17
                have hfz61_18 := blk_frozen BK112.out 18
                go_wp2_with (first | ((with_reducible refine gate_callee (f := 23) rfl ?_); refine goesL_ (some 84) rfl rfl Try.func23 (by kernel_rfl) rfl #[.slice A0_14 l0_14.length c0_14, .slice A1_14 l1_14.length c1_14] rfl (by (try simp only [List.map_toArray, List.map_cons, List.map_nil]); first | done | rfl | (simp only [List.length_drop, List.length_take]; rfl)) ?_; (with_reducible refine (spec_l7Ints.calls kj2 _ _ l0_14 _ _ l1_14 true _ ?side1 ?side2 ?side3 ?side4 A50.out).mono ?_); (case side1 => repeat (first | exact (Kd.C_below HR0_14.out HB.out) | (with_reducible refine Kd.C_alloc ?_ _) | (with_reducible refine Kd.C_drewN ?_ _) | (with_reducible refine Kd.C_drew ?_))); (case side2 => exact HC0_14.out); (case side3 => repeat (first | exact (Kd.C_below HR1_14.out HB.out) | (with_reducible refine Kd.C_alloc ?_ _) | (with_reducible refine Kd.C_drewN ?_ _) | (with_reducible refine Kd.C_drew ?_))); (case side4 => exact HC1_14.out); rintro e w' ⟨rfl, ⟨nd, rfl⟩⟩; refine ⟨_, rfl, ?_⟩) | (go_at_call 23; (with_reducible refine (spec_l7Ints.calls kj2 _ _ l0_15 _ _ l1_15 true _ ?side1 ?side2 ?side3 ?side4 A52.out).mono ?_); (case side1 => repeat (first | exact (Kd.C_below HR0_15.out (by repeat (first | (with_reducible first | exact HB.out | apply below_alloc | apply pw_below_drewN | apply below_drew1 | refine below_set ?_ GE111.out | refine below_set ?_ GE112.out) | exact HB.out))) | (with_reducible refine Kd.C_alloc ?_ _) | (with_reducible refine Kd.C_drewN ?_ _) | (with_reducible refine Kd.C_drew ?_))); (case side2 => exact HC0_15.out); (case side3 => repeat (first | exact (Kd.C_below HR1_15.out (by repeat (first | (with_reducible first | exact HB.out | apply below_alloc | apply pw_below_drewN | apply below_drew1 | refine below_set ?_ GE111.out | refine below_set ?_ GE112.out) | exact HB.out))) | (with_reducible refine Kd.C_alloc ?_ _) | (with_reducible refine Kd.C_drewN ?_ _) | (with_reducible refine Kd.C_drew ?_))); (case side4 => exact HC1_15.out); rintro e w' ⟨rfl, ⟨nd, rfl⟩⟩) | (go_at_call 24; (with_reducible refine (spec_l7Entries.calls kj2 _ _ l0_16 _ _ l1_16 true _ ?side1 ?side2 ?side3 ?side4 A54.out).mono ?_); (case side1 => repeat (first | exact (Kd.C_below HR0_16.out (by repeat (first | (with_reducible first | exact HB.out | apply below_alloc | apply pw_below_drewN | apply below_drew1 | refine below_set ?_ GE111.out | refine below_set ?_ GE112.out) | exact HB.out))) | (with_reducible refine Kd.C_alloc ?_ _) | (with_reducible refine Kd.C_drewN ?_ _) | (with_reducible refine Kd.C_drew ?_))); (case side2 => exact HC0_16.out); (case side3 => repeat (first | exact (Kd.C_below HR1_16.out (by repeat (first | (with_reducible first | exact HB.out | apply below_alloc | apply pw_below_drewN | apply below_drew1 | refine below_set ?_ GE111.out | refine below_set ?_ GE112.out) | exact HB.out))) | (with_reducible refine Kd.C_alloc ?_ _) | (with_reducible refine Kd.C_drewN ?_ _) | (with_reducible refine Kd.C_drew ?_))); (case side4 => exact HC1_16.out); rintro e w' ⟨rfl, ⟨nd, rfl⟩⟩) | (go_at_call 24; (with_reducible refine (spec_l7Entries.calls kj2 _ _ l0_17 _ _ l1_17 true _ ?side1 ?side2 ?side3 ?side4 A56.out).mono ?_); (case side1 => repeat (first | exact (Kd.C_below HR0_17.out (by repeat (first | (with_reducible first | exact HB.out | apply below_alloc | apply pw_below_drewN | apply below_drew1 | refine below_set ?_ GE111.out | refine below_set ?_ GE112.out) | exact HB.out))) | (with_reducible refine Kd.C_alloc ?_ _) | (with_reducible refine Kd.C_drewN ?_ _) | (with_reducible refine Kd.C_drew ?_))); (case side2 => exact HC0_17.out); (case side3 => repeat (first | exact (Kd.C_below HR1_17.out (by repeat (first | (with_reducible first | exact HB.out | apply below_alloc | apply pw_below_drewN | apply below_drew1 | refine below_set ?_ GE111.out | refine below_set ?_ GE112.out) | exact HB.out))) | (with_reducible refine Kd.C_alloc ?_ _) | (with_reducible refine Kd.C_drewN ?_ _) | (with_reducible refine Kd.C_drew ?_))); (case side4 => exact HC1_17.out); rintro e w' ⟨rfl, ⟨nd, rfl⟩⟩) | (go_at_call 23; (with_reducible refine (spec_l7Ints.calls kj2 _ _ l0_18 _ _ l1_18 t117 _ ?side1 ?side2 ?side3 ?side4 A58.out).mono ?_); (case side1 => repeat (first | exact (Kd.C_below HR0_18.out (by repeat (first | (with_reducible first | exact HB.out | apply below_alloc | apply pw_below_drewN | apply below_drew1 | refine below_set ?_ GE111.out | refine below_set ?_ GE112.out) | exact HB.out))) | (with_reducible refine Kd.C_alloc ?_ _) | (with_reducible refine Kd.C_drewN ?_ _) | (with_reducible refine Kd.C_drew ?_))); (case side2 => exact HC0_18.out); (case side3 => repeat (first | exact (Kd.C_below HR1_18.out (by repeat (first | (with_reducible first | exact HB.out | apply below_alloc | apply pw_below_drewN | apply below_drew1 | refine below_set ?_ GE111.out | refine below_set ?_ GE112.out) | exact HB.out))) | (with_reducible refine Kd.C_alloc ?_ _) | (with_reducible refine Kd.C_drewN ?_ _) | (with_reducible refine Kd.C_drew ?_))); (case side4 => exact HC1_18.out); rintro e w' ⟨rfl, ⟨nd, rfl⟩⟩))
                go_ret
                exact ⟨by first | rfl | (refine congrArg Ending.returned (congrArg Value.bool ?_); generalize ByteArray.toList _ = l_; cases l_ <;> rfl) | (simp [errW_none, errW_some] <;> rfl) | (simp [*, errW_none, errW_some] <;> rfl), by repeat (first | (with_reducible first | exact HB.out | apply below_alloc | apply pw_below_drewN | apply below_drew1 | refine below_set ?_ GE111.out | refine below_set ?_ GE112.out) | exact HB.out)⟩
              · replace c57 := Bool.eq_false_iff.mpr c57
                subst c57
                have H1 : (some false) = some r := by rw [if_neg (show ¬ (false = true) by decide)] at H; exact H
                clear H
                have H := H1
                clear H1
                obtain rfl := Option.some.inj H
                have hnb62 := NB111_112.out
                have hnc62 := NB112_111.out
                have hcz63_0 : wc.cell? ⟨gb111, 0, none⟩ = some (.int .i64 a0_0) := (blk_cell BK111.out 0).trans rfl
                have hcz63_1 : wc.cell? ⟨gb111, 1, none⟩ = some (.int .i64 a0_1) := (blk_cell BK111.out 1).trans rfl
                have hcz63_2 : wc.cell? ⟨gb111, 2, none⟩ = some (.int .i64 a0_2) := (blk_cell BK111.out 2).trans rfl
                have hcz63_3 : wc.cell? ⟨gb111, 3, none⟩ = some (.int .i64 a0_3) := (blk_cell BK111.out 3).trans rfl
                have hcz63_4 : wc.cell? ⟨gb111, 4, none⟩ = some (.int .i64 a0_4) := (blk_cell BK111.out 4).trans rfl
                have hcz63_5 : wc.cell? ⟨gb111, 5, none⟩ = some (.int .i64 a0_5) := (blk_cell BK111.out 5).trans rfl
                have hcz63_6 : wc.cell? ⟨gb111, 6, none⟩ = some (.int .i64 a0_6) := (blk_cell BK111.out 6).trans rfl
                have hcz63_7 : wc.cell? ⟨gb111, 7, none⟩ = some (.int .i64 a0_7) := (blk_cell BK111.out 7).trans rfl
                have hcz63_8 : wc.cell? ⟨gb111, 8, none⟩ = some (.int .i64 a0_8) := (blk_cell BK111.out 8).trans rfl
                have hcz63_9 : wc.cell? ⟨gb111, 9, none⟩ = some (.int .i64 a0_9) := (blk_cell BK111.out 9).trans rfl
                have hcz63_10 : wc.cell? ⟨gb111, 10, none⟩ = some (.int .i64 a0_10) := (blk_cell BK111.out 10).trans rfl
                have hcz63_11 : wc.cell? ⟨gb111, 11, none⟩ = some (.int .i64 a0_11) := (blk_cell BK111.out 11).trans rfl
                have hcz63_12 : wc.cell? ⟨gb111, 12, none⟩ = some (.int .i64 a0_12) := (blk_cell BK111.out 12).trans rfl
                have hcz63_13 : wc.cell? ⟨gb111, 13, none⟩ = some (.int .i64 a0_13) := (blk_cell BK111.out 13).trans rfl
                have hcz63_14 : wc.cell? ⟨gb111, 14, none⟩ = some (.slice A0_14 l0_14.length c0_14) := (blk_cell BK111.out 14).trans rfl
                have hcz63_15 : wc.cell? ⟨gb111, 15, none⟩ = some (.slice A0_15 l0_15.length c0_15) := (blk_cell BK111.out 15).trans rfl
                have hcz63_16 : wc.cell? ⟨gb111, 16, none⟩ = some (.slice A0_16 l0_16.length c0_16) := (blk_cell BK111.out 16).trans rfl
                have hcz63_17 : wc.cell? ⟨gb111, 17, none⟩ = some (.slice A0_17 l0_17.length c0_17) := (blk_cell BK111.out 17).trans rfl
                have hcz63_18 : wc.cell? ⟨gb111, 18, none⟩ = some (.slice A0_18 l0_18.length c0_18) := (blk_cell BK111.out 18).trans rfl
                have hfz63_0 := blk_frozen BK111.out 0
                have hfz63_1 := blk_frozen BK111.out 1
                have hfz63_2 := blk_frozen BK111.out 2
                have hfz63_3 := blk_frozen BK111.out 3
                have hfz63_4 := blk_frozen BK111.out 4
                have hfz63_5 := blk_frozen BK111.out 5
                have hfz63_6 := blk_frozen BK111.out 6
                have hfz63_7 := blk_frozen BK111.out 7
                have hfz63_8 := blk_frozen BK111.out 8
                have hfz63_9 := blk_frozen BK111.out 9
                have hfz63_10 := blk_frozen BK111.out 10
                have hfz63_11 := blk_frozen BK111.out 11
                have hfz63_12 := blk_frozen BK111.out 12
                have hfz63_13 := blk_frozen BK111.out 13
                have hfz63_14 := blk_frozen BK111.out 14
                have hfz63_15 := blk_frozen BK111.out 15
                have hfz63_16 := blk_frozen BK111.out 16
                have hfz63_17 := blk_frozen BK111.out 17
                have hfz63_18 := blk_frozen BK111.out 18
                have hcz64_0 : wc.cell? ⟨gb112, 0, none⟩ = some (.int .i64 a1_0) := (blk_cell BK112.out 0).trans rfl
                have hcz64_1 : wc.cell? ⟨gb112, 1, none⟩ = some (.int .i64 a1_1) := (blk_cell BK112.out 1).trans rfl
                have hcz64_2 : wc.cell? ⟨gb112, 2, none⟩ = some (.int .i64 a1_2) := (blk_cell BK112.out 2).trans rfl
                have hcz64_3 : wc.cell? ⟨gb112, 3, none⟩ = some (.int .i64 a1_3) := (blk_cell BK112.out 3).trans rfl
                have hcz64_4 : wc.cell? ⟨gb112, 4, none⟩ = some (.int .i64 a1_4) := (blk_cell BK112.out 4).trans rfl
                have hcz64_5 : wc.cell? ⟨gb112, 5, none⟩ = some (.int .i64 a1_5) := (blk_cell BK112.out 5).trans rfl
                have hcz64_6 : wc.cell? ⟨gb112, 6, none⟩ = some (.int .i64 a1_6) := (blk_cell BK112.out 6).trans rfl
                have hcz64_7 : wc.cell? ⟨gb112, 7, none⟩ = some (.int .i64 a1_7) := (blk_cell BK112.out 7).trans rfl
                have hcz64_8 : wc.cell? ⟨gb112, 8, none⟩ = some (.int .i64 a1_8) := (blk_cell BK112.out 8).trans rfl
                have hcz64_9 : wc.cell? ⟨gb112, 9, none⟩ = some (.int .i64 a1_9) := (blk_cell BK112.out 9).trans rfl
                have hcz64_10 : wc.cell? ⟨gb112, 10, none⟩ = some (.int .i64 a1_10) := (blk_cell BK112.out 10).trans rfl
                have hcz64_11 : wc.cell? ⟨gb112, 11, none⟩ = some (.int .i64 a1_11) := (blk_cell BK112.out 11).trans rfl
                have hcz64_12 : wc.cell? ⟨gb112, 12, none⟩ = some (.int .i64 a1_12) := (blk_cell BK112.out 12).trans rfl
                have hcz64_13 : wc.cell? ⟨gb112, 13, none⟩ = some (.int .i64 a1_13) := (blk_cell BK112.out 13).trans rfl
                have hcz64_14 : wc.cell? ⟨gb112, 14, none⟩ = some (.slice A1_14 l1_14.length c1_14) := (blk_cell BK112.out 14).trans rfl
                have hcz64_15 : wc.cell? ⟨gb112, 15, none⟩ = some (.slice A1_15 l1_15.length c1_15) := (blk_cell BK112.out 15).trans rfl
                have hcz64_16 : wc.cell? ⟨gb112, 16, none⟩ = some (.slice A1_16 l1_16.length c1_16) := (blk_cell BK112.out 16).trans rfl
                have hcz64_17 : wc.cell? ⟨gb112, 17, none⟩ = some (.slice A1_17 l1_17.length c1_17) := (blk_cell BK112.out 17).trans rfl
                have hcz64_18 : wc.cell? ⟨gb112, 18, none⟩ = some (.slice A1_18 l1_18.length c1_18) := (blk_cell BK112.out 18).trans rfl
                have hfz64_0 := blk_frozen BK112.out 0
                have hfz64_1 := blk_frozen BK112.out 1
                have hfz64_2 := blk_frozen BK112.out 2
                have hfz64_3 := blk_frozen BK112.out 3
                have hfz64_4 := blk_frozen BK112.out 4
                have hfz64_5 := blk_frozen BK112.out 5
                have hfz64_6 := blk_frozen BK112.out 6
                have hfz64_7 := blk_frozen BK112.out 7
                have hfz64_8 := blk_frozen BK112.out 8
                have hfz64_9 := blk_frozen BK112.out 9
                have hfz64_10 := blk_frozen BK112.out 10
                have hfz64_11 := blk_frozen BK112.out 11
                have hfz64_12 := blk_frozen BK112.out 12
                have hfz64_13 := blk_frozen BK112.out 13
                have hfz64_14 := blk_frozen BK112.out 14
                have hfz64_15 := blk_frozen BK112.out 15
                have hfz64_16 := blk_frozen BK112.out 16
                have hfz64_17 := blk_frozen BK112.out 17
                have hfz64_18 := blk_frozen BK112.out 18
                go_wp2_with (first | ((with_reducible refine gate_callee (f := 23) rfl ?_); refine goesL_ (some 84) rfl rfl Try.func23 (by kernel_rfl) rfl #[.slice A0_14 l0_14.length c0_14, .slice A1_14 l1_14.length c1_14] rfl (by (try simp only [List.map_toArray, List.map_cons, List.map_nil]); first | done | rfl | (simp only [List.length_drop, List.length_take]; rfl)) ?_; (with_reducible refine (spec_l7Ints.calls kj2 _ _ l0_14 _ _ l1_14 true _ ?side1 ?side2 ?side3 ?side4 A50.out).mono ?_); (case side1 => repeat (first | exact (Kd.C_below HR0_14.out HB.out) | (with_reducible refine Kd.C_alloc ?_ _) | (with_reducible refine Kd.C_drewN ?_ _) | (with_reducible refine Kd.C_drew ?_))); (case side2 => exact HC0_14.out); (case side3 => repeat (first | exact (Kd.C_below HR1_14.out HB.out) | (with_reducible refine Kd.C_alloc ?_ _) | (with_reducible refine Kd.C_drewN ?_ _) | (with_reducible refine Kd.C_drew ?_))); (case side4 => exact HC1_14.out); rintro e w' ⟨rfl, ⟨nd, rfl⟩⟩; refine ⟨_, rfl, ?_⟩) | (go_at_call 23; (with_reducible refine (spec_l7Ints.calls kj2 _ _ l0_15 _ _ l1_15 true _ ?side1 ?side2 ?side3 ?side4 A52.out).mono ?_); (case side1 => repeat (first | exact (Kd.C_below HR0_15.out (by repeat (first | (with_reducible first | exact HB.out | apply below_alloc | apply pw_below_drewN | apply below_drew1 | refine below_set ?_ GE111.out | refine below_set ?_ GE112.out) | exact HB.out))) | (with_reducible refine Kd.C_alloc ?_ _) | (with_reducible refine Kd.C_drewN ?_ _) | (with_reducible refine Kd.C_drew ?_))); (case side2 => exact HC0_15.out); (case side3 => repeat (first | exact (Kd.C_below HR1_15.out (by repeat (first | (with_reducible first | exact HB.out | apply below_alloc | apply pw_below_drewN | apply below_drew1 | refine below_set ?_ GE111.out | refine below_set ?_ GE112.out) | exact HB.out))) | (with_reducible refine Kd.C_alloc ?_ _) | (with_reducible refine Kd.C_drewN ?_ _) | (with_reducible refine Kd.C_drew ?_))); (case side4 => exact HC1_15.out); rintro e w' ⟨rfl, ⟨nd, rfl⟩⟩) | (go_at_call 24; (with_reducible refine (spec_l7Entries.calls kj2 _ _ l0_16 _ _ l1_16 true _ ?side1 ?side2 ?side3 ?side4 A54.out).mono ?_); (case side1 => repeat (first | exact (Kd.C_below HR0_16.out (by repeat (first | (with_reducible first | exact HB.out | apply below_alloc | apply pw_below_drewN | apply below_drew1 | refine below_set ?_ GE111.out | refine below_set ?_ GE112.out) | exact HB.out))) | (with_reducible refine Kd.C_alloc ?_ _) | (with_reducible refine Kd.C_drewN ?_ _) | (with_reducible refine Kd.C_drew ?_))); (case side2 => exact HC0_16.out); (case side3 => repeat (first | exact (Kd.C_below HR1_16.out (by repeat (first | (with_reducible first | exact HB.out | apply below_alloc | apply pw_below_drewN | apply below_drew1 | refine below_set ?_ GE111.out | refine below_set ?_ GE112.out) | exact HB.out))) | (with_reducible refine Kd.C_alloc ?_ _) | (with_reducible refine Kd.C_drewN ?_ _) | (with_reducible refine Kd.C_drew ?_))); (case side4 => exact HC1_16.out); rintro e w' ⟨rfl, ⟨nd, rfl⟩⟩) | (go_at_call 24; (with_reducible refine (spec_l7Entries.calls kj2 _ _ l0_17 _ _ l1_17 false _ ?side1 ?side2 ?side3 ?side4 A56.out).mono ?_); (case side1 => repeat (first | exact (Kd.C_below HR0_17.out (by repeat (first | (with_reducible first | exact HB.out | apply below_alloc | apply pw_below_drewN | apply below_drew1 | refine below_set ?_ GE111.out | refine below_set ?_ GE112.out) | exact HB.out))) | (with_reducible refine Kd.C_alloc ?_ _) | (with_reducible refine Kd.C_drewN ?_ _) | (with_reducible refine Kd.C_drew ?_))); (case side2 => exact HC0_17.out); (case side3 => repeat (first | exact (Kd.C_below HR1_17.out (by repeat (first | (with_reducible first | exact HB.out | apply below_alloc | apply pw_below_drewN | apply below_drew1 | refine below_set ?_ GE111.out | refine below_set ?_ GE112.out) | exact HB.out))) | (with_reducible refine Kd.C_alloc ?_ _) | (with_reducible refine Kd.C_drewN ?_ _) | (with_reducible refine Kd.C_drew ?_))); (case side4 => exact HC1_17.out); rintro e w' ⟨rfl, ⟨nd, rfl⟩⟩))
                go_ret
                exact ⟨by first | rfl | (refine congrArg Ending.returned (congrArg Value.bool ?_); generalize ByteArray.toList _ = l_; cases l_ <;> rfl) | (simp [errW_none, errW_some] <;> rfl) | (simp [*, errW_none, errW_some] <;> rfl), by repeat (first | (with_reducible first | exact HB.out | apply below_alloc | apply pw_below_drewN | apply below_drew1 | refine below_set ?_ GE111.out | refine below_set ?_ GE112.out) | exact HB.out)⟩
            · replace c55 := Bool.eq_false_iff.mpr c55
              subst c55
              have H1 : (some false) = some r := by rw [if_neg (show ¬ (false = true) by decide)] at H; exact H
              clear H
              have H := H1
              clear H1
              obtain rfl := Option.some.inj H
              have hnb65 := NB111_112.out
              have hnc65 := NB112_111.out
              have hcz66_0 : wc.cell? ⟨gb111, 0, none⟩ = some (.int .i64 a0_0) := (blk_cell BK111.out 0).trans rfl
              have hcz66_1 : wc.cell? ⟨gb111, 1, none⟩ = some (.int .i64 a0_1) := (blk_cell BK111.out 1).trans rfl
              have hcz66_2 : wc.cell? ⟨gb111, 2, none⟩ = some (.int .i64 a0_2) := (blk_cell BK111.out 2).trans rfl
              have hcz66_3 : wc.cell? ⟨gb111, 3, none⟩ = some (.int .i64 a0_3) := (blk_cell BK111.out 3).trans rfl
              have hcz66_4 : wc.cell? ⟨gb111, 4, none⟩ = some (.int .i64 a0_4) := (blk_cell BK111.out 4).trans rfl
              have hcz66_5 : wc.cell? ⟨gb111, 5, none⟩ = some (.int .i64 a0_5) := (blk_cell BK111.out 5).trans rfl
              have hcz66_6 : wc.cell? ⟨gb111, 6, none⟩ = some (.int .i64 a0_6) := (blk_cell BK111.out 6).trans rfl
              have hcz66_7 : wc.cell? ⟨gb111, 7, none⟩ = some (.int .i64 a0_7) := (blk_cell BK111.out 7).trans rfl
              have hcz66_8 : wc.cell? ⟨gb111, 8, none⟩ = some (.int .i64 a0_8) := (blk_cell BK111.out 8).trans rfl
              have hcz66_9 : wc.cell? ⟨gb111, 9, none⟩ = some (.int .i64 a0_9) := (blk_cell BK111.out 9).trans rfl
              have hcz66_10 : wc.cell? ⟨gb111, 10, none⟩ = some (.int .i64 a0_10) := (blk_cell BK111.out 10).trans rfl
              have hcz66_11 : wc.cell? ⟨gb111, 11, none⟩ = some (.int .i64 a0_11) := (blk_cell BK111.out 11).trans rfl
              have hcz66_12 : wc.cell? ⟨gb111, 12, none⟩ = some (.int .i64 a0_12) := (blk_cell BK111.out 12).trans rfl
              have hcz66_13 : wc.cell? ⟨gb111, 13, none⟩ = some (.int .i64 a0_13) := (blk_cell BK111.out 13).trans rfl
              have hcz66_14 : wc.cell? ⟨gb111, 14, none⟩ = some (.slice A0_14 l0_14.length c0_14) := (blk_cell BK111.out 14).trans rfl
              have hcz66_15 : wc.cell? ⟨gb111, 15, none⟩ = some (.slice A0_15 l0_15.length c0_15) := (blk_cell BK111.out 15).trans rfl
              have hcz66_16 : wc.cell? ⟨gb111, 16, none⟩ = some (.slice A0_16 l0_16.length c0_16) := (blk_cell BK111.out 16).trans rfl
              have hcz66_17 : wc.cell? ⟨gb111, 17, none⟩ = some (.slice A0_17 l0_17.length c0_17) := (blk_cell BK111.out 17).trans rfl
              have hcz66_18 : wc.cell? ⟨gb111, 18, none⟩ = some (.slice A0_18 l0_18.length c0_18) := (blk_cell BK111.out 18).trans rfl
              have hfz66_0 := blk_frozen BK111.out 0
              have hfz66_1 := blk_frozen BK111.out 1
              have hfz66_2 := blk_frozen BK111.out 2
              have hfz66_3 := blk_frozen BK111.out 3
              have hfz66_4 := blk_frozen BK111.out 4
              have hfz66_5 := blk_frozen BK111.out 5
              have hfz66_6 := blk_frozen BK111.out 6
              have hfz66_7 := blk_frozen BK111.out 7
              have hfz66_8 := blk_frozen BK111.out 8
              have hfz66_9 := blk_frozen BK111.out 9
              have hfz66_10 := blk_frozen BK111.out 10
              have hfz66_11 := blk_frozen BK111.out 11
              have hfz66_12 := blk_frozen BK111.out 12
              have hfz66_13 := blk_frozen BK111.out 13
              have hfz66_14 := blk_frozen BK111.out 14
              have hfz66_15 := blk_frozen BK111.out 15
              have hfz66_16 := blk_frozen BK111.out 16
              have hfz66_17 := blk_frozen BK111.out 17
              have hfz66_18 := blk_frozen BK111.out 18
              have hcz67_0 : wc.cell? ⟨gb112, 0, none⟩ = some (.int .i64 a1_0) := (blk_cell BK112.out 0).trans rfl
              have hcz67_1 : wc.cell? ⟨gb112, 1, none⟩ = some (.int .i64 a1_1) := (blk_cell BK112.out 1).trans rfl
              have hcz67_2 : wc.cell? ⟨gb112, 2, none⟩ = some (.int .i64 a1_2) := (blk_cell BK112.out 2).trans rfl
              have hcz67_3 : wc.cell? ⟨gb112, 3, none⟩ = some (.int .i64 a1_3) := (blk_cell BK112.out 3).trans rfl
              have hcz67_4 : wc.cell? ⟨gb112, 4, none⟩ = some (.int .i64 a1_4) := (blk_cell BK112.out 4).trans rfl
              have hcz67_5 : wc.cell? ⟨gb112, 5, none⟩ = some (.int .i64 a1_5) := (blk_cell BK112.out 5).trans rfl
              have hcz67_6 : wc.cell? ⟨gb112, 6, none⟩ = some (.int .i64 a1_6) := (blk_cell BK112.out 6).trans rfl
              have hcz67_7 : wc.cell? ⟨gb112, 7, none⟩ = some (.int .i64 a1_7) := (blk_cell BK112.out 7).trans rfl
              have hcz67_8 : wc.cell? ⟨gb112, 8, none⟩ = some (.int .i64 a1_8) := (blk_cell BK112.out 8).trans rfl
              have hcz67_9 : wc.cell? ⟨gb112, 9, none⟩ = some (.int .i64 a1_9) := (blk_cell BK112.out 9).trans rfl
              have hcz67_10 : wc.cell? ⟨gb112, 10, none⟩ = some (.int .i64 a1_10) := (blk_cell BK112.out 10).trans rfl
              have hcz67_11 : wc.cell? ⟨gb112, 11, none⟩ = some (.int .i64 a1_11) := (blk_cell BK112.out 11).trans rfl
              have hcz67_12 : wc.cell? ⟨gb112, 12, none⟩ = some (.int .i64 a1_12) := (blk_cell BK112.out 12).trans rfl
              have hcz67_13 : wc.cell? ⟨gb112, 13, none⟩ = some (.int .i64 a1_13) := (blk_cell BK112.out 13).trans rfl
              have hcz67_14 : wc.cell? ⟨gb112, 14, none⟩ = some (.slice A1_14 l1_14.length c1_14) := (blk_cell BK112.out 14).trans rfl
              have hcz67_15 : wc.cell? ⟨gb112, 15, none⟩ = some (.slice A1_15 l1_15.length c1_15) := (blk_cell BK112.out 15).trans rfl
              have hcz67_16 : wc.cell? ⟨gb112, 16, none⟩ = some (.slice A1_16 l1_16.length c1_16) := (blk_cell BK112.out 16).trans rfl
              have hcz67_17 : wc.cell? ⟨gb112, 17, none⟩ = some (.slice A1_17 l1_17.length c1_17) := (blk_cell BK112.out 17).trans rfl
              have hcz67_18 : wc.cell? ⟨gb112, 18, none⟩ = some (.slice A1_18 l1_18.length c1_18) := (blk_cell BK112.out 18).trans rfl
              have hfz67_0 := blk_frozen BK112.out 0
              have hfz67_1 := blk_frozen BK112.out 1
              have hfz67_2 := blk_frozen BK112.out 2
              have hfz67_3 := blk_frozen BK112.out 3
              have hfz67_4 := blk_frozen BK112.out 4
              have hfz67_5 := blk_frozen BK112.out 5
              have hfz67_6 := blk_frozen BK112.out 6
              have hfz67_7 := blk_frozen BK112.out 7
              have hfz67_8 := blk_frozen BK112.out 8
              have hfz67_9 := blk_frozen BK112.out 9
              have hfz67_10 := blk_frozen BK112.out 10
              have hfz67_11 := blk_frozen BK112.out 11
              have hfz67_12 := blk_frozen BK112.out 12
              have hfz67_13 := blk_frozen BK112.out 13
              have hfz67_14 := blk_frozen BK112.out 14
              have hfz67_15 := blk_frozen BK112.out 15
              have hfz67_16 := blk_frozen BK112.out 16
              have hfz67_17 := blk_frozen BK112.out 17
              have hfz67_18 := blk_frozen BK112.out 18
              go_wp2_with (first | ((with_reducible refine gate_callee (f := 23) rfl ?_); refine goesL_ (some 84) rfl rfl Try.func23 (by kernel_rfl) rfl #[.slice A0_14 l0_14.length c0_14, .slice A1_14 l1_14.length c1_14] rfl (by (try simp only [List.map_toArray, List.map_cons, List.map_nil]); first | done | rfl | (simp only [List.length_drop, List.length_take]; rfl)) ?_; (with_reducible refine (spec_l7Ints.calls kj2 _ _ l0_14 _ _ l1_14 true _ ?side1 ?side2 ?side3 ?side4 A50.out).mono ?_); (case side1 => repeat (first | exact (Kd.C_below HR0_14.out HB.out) | (with_reducible refine Kd.C_alloc ?_ _) | (with_reducible refine Kd.C_drewN ?_ _) | (with_reducible refine Kd.C_drew ?_))); (case side2 => exact HC0_14.out); (case side3 => repeat (first | exact (Kd.C_below HR1_14.out HB.out) | (with_reducible refine Kd.C_alloc ?_ _) | (with_reducible refine Kd.C_drewN ?_ _) | (with_reducible refine Kd.C_drew ?_))); (case side4 => exact HC1_14.out); rintro e w' ⟨rfl, ⟨nd, rfl⟩⟩; refine ⟨_, rfl, ?_⟩) | (go_at_call 23; (with_reducible refine (spec_l7Ints.calls kj2 _ _ l0_15 _ _ l1_15 true _ ?side1 ?side2 ?side3 ?side4 A52.out).mono ?_); (case side1 => repeat (first | exact (Kd.C_below HR0_15.out (by repeat (first | (with_reducible first | exact HB.out | apply below_alloc | apply pw_below_drewN | apply below_drew1 | refine below_set ?_ GE111.out | refine below_set ?_ GE112.out) | exact HB.out))) | (with_reducible refine Kd.C_alloc ?_ _) | (with_reducible refine Kd.C_drewN ?_ _) | (with_reducible refine Kd.C_drew ?_))); (case side2 => exact HC0_15.out); (case side3 => repeat (first | exact (Kd.C_below HR1_15.out (by repeat (first | (with_reducible first | exact HB.out | apply below_alloc | apply pw_below_drewN | apply below_drew1 | refine below_set ?_ GE111.out | refine below_set ?_ GE112.out) | exact HB.out))) | (with_reducible refine Kd.C_alloc ?_ _) | (with_reducible refine Kd.C_drewN ?_ _) | (with_reducible refine Kd.C_drew ?_))); (case side4 => exact HC1_15.out); rintro e w' ⟨rfl, ⟨nd, rfl⟩⟩) | (go_at_call 24; (with_reducible refine (spec_l7Entries.calls kj2 _ _ l0_16 _ _ l1_16 false _ ?side1 ?side2 ?side3 ?side4 A54.out).mono ?_); (case side1 => repeat (first | exact (Kd.C_below HR0_16.out (by repeat (first | (with_reducible first | exact HB.out | apply below_alloc | apply pw_below_drewN | apply below_drew1 | refine below_set ?_ GE111.out | refine below_set ?_ GE112.out) | exact HB.out))) | (with_reducible refine Kd.C_alloc ?_ _) | (with_reducible refine Kd.C_drewN ?_ _) | (with_reducible refine Kd.C_drew ?_))); (case side2 => exact HC0_16.out); (case side3 => repeat (first | exact (Kd.C_below HR1_16.out (by repeat (first | (with_reducible first | exact HB.out | apply below_alloc | apply pw_below_drewN | apply below_drew1 | refine below_set ?_ GE111.out | refine below_set ?_ GE112.out) | exact HB.out))) | (with_reducible refine Kd.C_alloc ?_ _) | (with_reducible refine Kd.C_drewN ?_ _) | (with_reducible refine Kd.C_drew ?_))); (case side4 => exact HC1_16.out); rintro e w' ⟨rfl, ⟨nd, rfl⟩⟩))
              go_ret
              exact ⟨by first | rfl | (refine congrArg Ending.returned (congrArg Value.bool ?_); generalize ByteArray.toList _ = l_; cases l_ <;> rfl) | (simp [errW_none, errW_some] <;> rfl) | (simp [*, errW_none, errW_some] <;> rfl), by repeat (first | (with_reducible first | exact HB.out | apply below_alloc | apply pw_below_drewN | apply below_drew1 | refine below_set ?_ GE111.out | refine below_set ?_ GE112.out) | exact HB.out)⟩
          · replace c53 := Bool.eq_false_iff.mpr c53
            subst c53
            have H1 : (some false) = some r := by rw [if_neg (show ¬ (false = true) by decide)] at H; exact H
            clear H
            have H := H1
            clear H1
            obtain rfl := Option.some.inj H
            have hnb68 := NB111_112.out
            have hnc68 := NB112_111.out
            have hcz69_0 : wc.cell? ⟨gb111, 0, none⟩ = some (.int .i64 a0_0) := (blk_cell BK111.out 0).trans rfl
            have hcz69_1 : wc.cell? ⟨gb111, 1, none⟩ = some (.int .i64 a0_1) := (blk_cell BK111.out 1).trans rfl
            have hcz69_2 : wc.cell? ⟨gb111, 2, none⟩ = some (.int .i64 a0_2) := (blk_cell BK111.out 2).trans rfl
            have hcz69_3 : wc.cell? ⟨gb111, 3, none⟩ = some (.int .i64 a0_3) := (blk_cell BK111.out 3).trans rfl
            have hcz69_4 : wc.cell? ⟨gb111, 4, none⟩ = some (.int .i64 a0_4) := (blk_cell BK111.out 4).trans rfl
            have hcz69_5 : wc.cell? ⟨gb111, 5, none⟩ = some (.int .i64 a0_5) := (blk_cell BK111.out 5).trans rfl
            have hcz69_6 : wc.cell? ⟨gb111, 6, none⟩ = some (.int .i64 a0_6) := (blk_cell BK111.out 6).trans rfl
            have hcz69_7 : wc.cell? ⟨gb111, 7, none⟩ = some (.int .i64 a0_7) := (blk_cell BK111.out 7).trans rfl
            have hcz69_8 : wc.cell? ⟨gb111, 8, none⟩ = some (.int .i64 a0_8) := (blk_cell BK111.out 8).trans rfl
            have hcz69_9 : wc.cell? ⟨gb111, 9, none⟩ = some (.int .i64 a0_9) := (blk_cell BK111.out 9).trans rfl
            have hcz69_10 : wc.cell? ⟨gb111, 10, none⟩ = some (.int .i64 a0_10) := (blk_cell BK111.out 10).trans rfl
            have hcz69_11 : wc.cell? ⟨gb111, 11, none⟩ = some (.int .i64 a0_11) := (blk_cell BK111.out 11).trans rfl
            have hcz69_12 : wc.cell? ⟨gb111, 12, none⟩ = some (.int .i64 a0_12) := (blk_cell BK111.out 12).trans rfl
            have hcz69_13 : wc.cell? ⟨gb111, 13, none⟩ = some (.int .i64 a0_13) := (blk_cell BK111.out 13).trans rfl
            have hcz69_14 : wc.cell? ⟨gb111, 14, none⟩ = some (.slice A0_14 l0_14.length c0_14) := (blk_cell BK111.out 14).trans rfl
            have hcz69_15 : wc.cell? ⟨gb111, 15, none⟩ = some (.slice A0_15 l0_15.length c0_15) := (blk_cell BK111.out 15).trans rfl
            have hcz69_16 : wc.cell? ⟨gb111, 16, none⟩ = some (.slice A0_16 l0_16.length c0_16) := (blk_cell BK111.out 16).trans rfl
            have hcz69_17 : wc.cell? ⟨gb111, 17, none⟩ = some (.slice A0_17 l0_17.length c0_17) := (blk_cell BK111.out 17).trans rfl
            have hcz69_18 : wc.cell? ⟨gb111, 18, none⟩ = some (.slice A0_18 l0_18.length c0_18) := (blk_cell BK111.out 18).trans rfl
            have hfz69_0 := blk_frozen BK111.out 0
            have hfz69_1 := blk_frozen BK111.out 1
            have hfz69_2 := blk_frozen BK111.out 2
            have hfz69_3 := blk_frozen BK111.out 3
            have hfz69_4 := blk_frozen BK111.out 4
            have hfz69_5 := blk_frozen BK111.out 5
            have hfz69_6 := blk_frozen BK111.out 6
            have hfz69_7 := blk_frozen BK111.out 7
            have hfz69_8 := blk_frozen BK111.out 8
            have hfz69_9 := blk_frozen BK111.out 9
            have hfz69_10 := blk_frozen BK111.out 10
            have hfz69_11 := blk_frozen BK111.out 11
            have hfz69_12 := blk_frozen BK111.out 12
            have hfz69_13 := blk_frozen BK111.out 13
            have hfz69_14 := blk_frozen BK111.out 14
            have hfz69_15 := blk_frozen BK111.out 15
            have hfz69_16 := blk_frozen BK111.out 16
            have hfz69_17 := blk_frozen BK111.out 17
            have hfz69_18 := blk_frozen BK111.out 18
            have hcz70_0 : wc.cell? ⟨gb112, 0, none⟩ = some (.int .i64 a1_0) := (blk_cell BK112.out 0).trans rfl
            have hcz70_1 : wc.cell? ⟨gb112, 1, none⟩ = some (.int .i64 a1_1) := (blk_cell BK112.out 1).trans rfl
            have hcz70_2 : wc.cell? ⟨gb112, 2, none⟩ = some (.int .i64 a1_2) := (blk_cell BK112.out 2).trans rfl
            have hcz70_3 : wc.cell? ⟨gb112, 3, none⟩ = some (.int .i64 a1_3) := (blk_cell BK112.out 3).trans rfl
            have hcz70_4 : wc.cell? ⟨gb112, 4, none⟩ = some (.int .i64 a1_4) := (blk_cell BK112.out 4).trans rfl
            have hcz70_5 : wc.cell? ⟨gb112, 5, none⟩ = some (.int .i64 a1_5) := (blk_cell BK112.out 5).trans rfl
            have hcz70_6 : wc.cell? ⟨gb112, 6, none⟩ = some (.int .i64 a1_6) := (blk_cell BK112.out 6).trans rfl
            have hcz70_7 : wc.cell? ⟨gb112, 7, none⟩ = some (.int .i64 a1_7) := (blk_cell BK112.out 7).trans rfl
            have hcz70_8 : wc.cell? ⟨gb112, 8, none⟩ = some (.int .i64 a1_8) := (blk_cell BK112.out 8).trans rfl
            have hcz70_9 : wc.cell? ⟨gb112, 9, none⟩ = some (.int .i64 a1_9) := (blk_cell BK112.out 9).trans rfl
            have hcz70_10 : wc.cell? ⟨gb112, 10, none⟩ = some (.int .i64 a1_10) := (blk_cell BK112.out 10).trans rfl
            have hcz70_11 : wc.cell? ⟨gb112, 11, none⟩ = some (.int .i64 a1_11) := (blk_cell BK112.out 11).trans rfl
            have hcz70_12 : wc.cell? ⟨gb112, 12, none⟩ = some (.int .i64 a1_12) := (blk_cell BK112.out 12).trans rfl
            have hcz70_13 : wc.cell? ⟨gb112, 13, none⟩ = some (.int .i64 a1_13) := (blk_cell BK112.out 13).trans rfl
            have hcz70_14 : wc.cell? ⟨gb112, 14, none⟩ = some (.slice A1_14 l1_14.length c1_14) := (blk_cell BK112.out 14).trans rfl
            have hcz70_15 : wc.cell? ⟨gb112, 15, none⟩ = some (.slice A1_15 l1_15.length c1_15) := (blk_cell BK112.out 15).trans rfl
            have hcz70_16 : wc.cell? ⟨gb112, 16, none⟩ = some (.slice A1_16 l1_16.length c1_16) := (blk_cell BK112.out 16).trans rfl
            have hcz70_17 : wc.cell? ⟨gb112, 17, none⟩ = some (.slice A1_17 l1_17.length c1_17) := (blk_cell BK112.out 17).trans rfl
            have hcz70_18 : wc.cell? ⟨gb112, 18, none⟩ = some (.slice A1_18 l1_18.length c1_18) := (blk_cell BK112.out 18).trans rfl
            have hfz70_0 := blk_frozen BK112.out 0
            have hfz70_1 := blk_frozen BK112.out 1
            have hfz70_2 := blk_frozen BK112.out 2
            have hfz70_3 := blk_frozen BK112.out 3
            have hfz70_4 := blk_frozen BK112.out 4
            have hfz70_5 := blk_frozen BK112.out 5
            have hfz70_6 := blk_frozen BK112.out 6
            have hfz70_7 := blk_frozen BK112.out 7
            have hfz70_8 := blk_frozen BK112.out 8
            have hfz70_9 := blk_frozen BK112.out 9
            have hfz70_10 := blk_frozen BK112.out 10
            have hfz70_11 := blk_frozen BK112.out 11
            have hfz70_12 := blk_frozen BK112.out 12
            have hfz70_13 := blk_frozen BK112.out 13
            have hfz70_14 := blk_frozen BK112.out 14
            have hfz70_15 := blk_frozen BK112.out 15
            have hfz70_16 := blk_frozen BK112.out 16
            have hfz70_17 := blk_frozen BK112.out 17
            have hfz70_18 := blk_frozen BK112.out 18
            go_wp2_with (first | ((with_reducible refine gate_callee (f := 23) rfl ?_); refine goesL_ (some 84) rfl rfl Try.func23 (by kernel_rfl) rfl #[.slice A0_14 l0_14.length c0_14, .slice A1_14 l1_14.length c1_14] rfl (by (try simp only [List.map_toArray, List.map_cons, List.map_nil]); first | done | rfl | (simp only [List.length_drop, List.length_take]; rfl)) ?_; (with_reducible refine (spec_l7Ints.calls kj2 _ _ l0_14 _ _ l1_14 true _ ?side1 ?side2 ?side3 ?side4 A50.out).mono ?_); (case side1 => repeat (first | exact (Kd.C_below HR0_14.out HB.out) | (with_reducible refine Kd.C_alloc ?_ _) | (with_reducible refine Kd.C_drewN ?_ _) | (with_reducible refine Kd.C_drew ?_))); (case side2 => exact HC0_14.out); (case side3 => repeat (first | exact (Kd.C_below HR1_14.out HB.out) | (with_reducible refine Kd.C_alloc ?_ _) | (with_reducible refine Kd.C_drewN ?_ _) | (with_reducible refine Kd.C_drew ?_))); (case side4 => exact HC1_14.out); rintro e w' ⟨rfl, ⟨nd, rfl⟩⟩; refine ⟨_, rfl, ?_⟩) | (go_at_call 23; (with_reducible refine (spec_l7Ints.calls kj2 _ _ l0_15 _ _ l1_15 false _ ?side1 ?side2 ?side3 ?side4 A52.out).mono ?_); (case side1 => repeat (first | exact (Kd.C_below HR0_15.out (by repeat (first | (with_reducible first | exact HB.out | apply below_alloc | apply pw_below_drewN | apply below_drew1 | refine below_set ?_ GE111.out | refine below_set ?_ GE112.out) | exact HB.out))) | (with_reducible refine Kd.C_alloc ?_ _) | (with_reducible refine Kd.C_drewN ?_ _) | (with_reducible refine Kd.C_drew ?_))); (case side2 => exact HC0_15.out); (case side3 => repeat (first | exact (Kd.C_below HR1_15.out (by repeat (first | (with_reducible first | exact HB.out | apply below_alloc | apply pw_below_drewN | apply below_drew1 | refine below_set ?_ GE111.out | refine below_set ?_ GE112.out) | exact HB.out))) | (with_reducible refine Kd.C_alloc ?_ _) | (with_reducible refine Kd.C_drewN ?_ _) | (with_reducible refine Kd.C_drew ?_))); (case side4 => exact HC1_15.out); rintro e w' ⟨rfl, ⟨nd, rfl⟩⟩))
            go_ret
            exact ⟨by first | rfl | (refine congrArg Ending.returned (congrArg Value.bool ?_); generalize ByteArray.toList _ = l_; cases l_ <;> rfl) | (simp [errW_none, errW_some] <;> rfl) | (simp [*, errW_none, errW_some] <;> rfl), by repeat (first | (with_reducible first | exact HB.out | apply below_alloc | apply pw_below_drewN | apply below_drew1 | refine below_set ?_ GE111.out | refine below_set ?_ GE112.out) | exact HB.out)⟩
        · replace c51 := Bool.eq_false_iff.mpr c51
          subst c51
          have H1 : (some false) = some r := by rw [if_neg (show ¬ (false = true) by decide)] at H; exact H
          clear H
          have H := H1
          clear H1
          obtain rfl := Option.some.inj H
          have hnb71 := NB111_112.out
          have hnc71 := NB112_111.out
          have hcz72_0 : wc.cell? ⟨gb111, 0, none⟩ = some (.int .i64 a0_0) := (blk_cell BK111.out 0).trans rfl
          have hcz72_1 : wc.cell? ⟨gb111, 1, none⟩ = some (.int .i64 a0_1) := (blk_cell BK111.out 1).trans rfl
          have hcz72_2 : wc.cell? ⟨gb111, 2, none⟩ = some (.int .i64 a0_2) := (blk_cell BK111.out 2).trans rfl
          have hcz72_3 : wc.cell? ⟨gb111, 3, none⟩ = some (.int .i64 a0_3) := (blk_cell BK111.out 3).trans rfl
          have hcz72_4 : wc.cell? ⟨gb111, 4, none⟩ = some (.int .i64 a0_4) := (blk_cell BK111.out 4).trans rfl
          have hcz72_5 : wc.cell? ⟨gb111, 5, none⟩ = some (.int .i64 a0_5) := (blk_cell BK111.out 5).trans rfl
          have hcz72_6 : wc.cell? ⟨gb111, 6, none⟩ = some (.int .i64 a0_6) := (blk_cell BK111.out 6).trans rfl
          have hcz72_7 : wc.cell? ⟨gb111, 7, none⟩ = some (.int .i64 a0_7) := (blk_cell BK111.out 7).trans rfl
          have hcz72_8 : wc.cell? ⟨gb111, 8, none⟩ = some (.int .i64 a0_8) := (blk_cell BK111.out 8).trans rfl
          have hcz72_9 : wc.cell? ⟨gb111, 9, none⟩ = some (.int .i64 a0_9) := (blk_cell BK111.out 9).trans rfl
          have hcz72_10 : wc.cell? ⟨gb111, 10, none⟩ = some (.int .i64 a0_10) := (blk_cell BK111.out 10).trans rfl
          have hcz72_11 : wc.cell? ⟨gb111, 11, none⟩ = some (.int .i64 a0_11) := (blk_cell BK111.out 11).trans rfl
          have hcz72_12 : wc.cell? ⟨gb111, 12, none⟩ = some (.int .i64 a0_12) := (blk_cell BK111.out 12).trans rfl
          have hcz72_13 : wc.cell? ⟨gb111, 13, none⟩ = some (.int .i64 a0_13) := (blk_cell BK111.out 13).trans rfl
          have hcz72_14 : wc.cell? ⟨gb111, 14, none⟩ = some (.slice A0_14 l0_14.length c0_14) := (blk_cell BK111.out 14).trans rfl
          have hcz72_15 : wc.cell? ⟨gb111, 15, none⟩ = some (.slice A0_15 l0_15.length c0_15) := (blk_cell BK111.out 15).trans rfl
          have hcz72_16 : wc.cell? ⟨gb111, 16, none⟩ = some (.slice A0_16 l0_16.length c0_16) := (blk_cell BK111.out 16).trans rfl
          have hcz72_17 : wc.cell? ⟨gb111, 17, none⟩ = some (.slice A0_17 l0_17.length c0_17) := (blk_cell BK111.out 17).trans rfl
          have hcz72_18 : wc.cell? ⟨gb111, 18, none⟩ = some (.slice A0_18 l0_18.length c0_18) := (blk_cell BK111.out 18).trans rfl
          have hfz72_0 := blk_frozen BK111.out 0
          have hfz72_1 := blk_frozen BK111.out 1
          have hfz72_2 := blk_frozen BK111.out 2
          have hfz72_3 := blk_frozen BK111.out 3
          have hfz72_4 := blk_frozen BK111.out 4
          have hfz72_5 := blk_frozen BK111.out 5
          have hfz72_6 := blk_frozen BK111.out 6
          have hfz72_7 := blk_frozen BK111.out 7
          have hfz72_8 := blk_frozen BK111.out 8
          have hfz72_9 := blk_frozen BK111.out 9
          have hfz72_10 := blk_frozen BK111.out 10
          have hfz72_11 := blk_frozen BK111.out 11
          have hfz72_12 := blk_frozen BK111.out 12
          have hfz72_13 := blk_frozen BK111.out 13
          have hfz72_14 := blk_frozen BK111.out 14
          have hfz72_15 := blk_frozen BK111.out 15
          have hfz72_16 := blk_frozen BK111.out 16
          have hfz72_17 := blk_frozen BK111.out 17
          have hfz72_18 := blk_frozen BK111.out 18
          have hcz73_0 : wc.cell? ⟨gb112, 0, none⟩ = some (.int .i64 a1_0) := (blk_cell BK112.out 0).trans rfl
          have hcz73_1 : wc.cell? ⟨gb112, 1, none⟩ = some (.int .i64 a1_1) := (blk_cell BK112.out 1).trans rfl
          have hcz73_2 : wc.cell? ⟨gb112, 2, none⟩ = some (.int .i64 a1_2) := (blk_cell BK112.out 2).trans rfl
          have hcz73_3 : wc.cell? ⟨gb112, 3, none⟩ = some (.int .i64 a1_3) := (blk_cell BK112.out 3).trans rfl
          have hcz73_4 : wc.cell? ⟨gb112, 4, none⟩ = some (.int .i64 a1_4) := (blk_cell BK112.out 4).trans rfl
          have hcz73_5 : wc.cell? ⟨gb112, 5, none⟩ = some (.int .i64 a1_5) := (blk_cell BK112.out 5).trans rfl
          have hcz73_6 : wc.cell? ⟨gb112, 6, none⟩ = some (.int .i64 a1_6) := (blk_cell BK112.out 6).trans rfl
          have hcz73_7 : wc.cell? ⟨gb112, 7, none⟩ = some (.int .i64 a1_7) := (blk_cell BK112.out 7).trans rfl
          have hcz73_8 : wc.cell? ⟨gb112, 8, none⟩ = some (.int .i64 a1_8) := (blk_cell BK112.out 8).trans rfl
          have hcz73_9 : wc.cell? ⟨gb112, 9, none⟩ = some (.int .i64 a1_9) := (blk_cell BK112.out 9).trans rfl
          have hcz73_10 : wc.cell? ⟨gb112, 10, none⟩ = some (.int .i64 a1_10) := (blk_cell BK112.out 10).trans rfl
          have hcz73_11 : wc.cell? ⟨gb112, 11, none⟩ = some (.int .i64 a1_11) := (blk_cell BK112.out 11).trans rfl
          have hcz73_12 : wc.cell? ⟨gb112, 12, none⟩ = some (.int .i64 a1_12) := (blk_cell BK112.out 12).trans rfl
          have hcz73_13 : wc.cell? ⟨gb112, 13, none⟩ = some (.int .i64 a1_13) := (blk_cell BK112.out 13).trans rfl
          have hcz73_14 : wc.cell? ⟨gb112, 14, none⟩ = some (.slice A1_14 l1_14.length c1_14) := (blk_cell BK112.out 14).trans rfl
          have hcz73_15 : wc.cell? ⟨gb112, 15, none⟩ = some (.slice A1_15 l1_15.length c1_15) := (blk_cell BK112.out 15).trans rfl
          have hcz73_16 : wc.cell? ⟨gb112, 16, none⟩ = some (.slice A1_16 l1_16.length c1_16) := (blk_cell BK112.out 16).trans rfl
          have hcz73_17 : wc.cell? ⟨gb112, 17, none⟩ = some (.slice A1_17 l1_17.length c1_17) := (blk_cell BK112.out 17).trans rfl
          have hcz73_18 : wc.cell? ⟨gb112, 18, none⟩ = some (.slice A1_18 l1_18.length c1_18) := (blk_cell BK112.out 18).trans rfl
          have hfz73_0 := blk_frozen BK112.out 0
          have hfz73_1 := blk_frozen BK112.out 1
          have hfz73_2 := blk_frozen BK112.out 2
          have hfz73_3 := blk_frozen BK112.out 3
          have hfz73_4 := blk_frozen BK112.out 4
          have hfz73_5 := blk_frozen BK112.out 5
          have hfz73_6 := blk_frozen BK112.out 6
          have hfz73_7 := blk_frozen BK112.out 7
          have hfz73_8 := blk_frozen BK112.out 8
          have hfz73_9 := blk_frozen BK112.out 9
          have hfz73_10 := blk_frozen BK112.out 10
          have hfz73_11 := blk_frozen BK112.out 11
          have hfz73_12 := blk_frozen BK112.out 12
          have hfz73_13 := blk_frozen BK112.out 13
          have hfz73_14 := blk_frozen BK112.out 14
          have hfz73_15 := blk_frozen BK112.out 15
          have hfz73_16 := blk_frozen BK112.out 16
          have hfz73_17 := blk_frozen BK112.out 17
          have hfz73_18 := blk_frozen BK112.out 18
          go_wp2_with (first | ((with_reducible refine gate_callee (f := 23) rfl ?_); refine goesL_ (some 84) rfl rfl Try.func23 (by kernel_rfl) rfl #[.slice A0_14 l0_14.length c0_14, .slice A1_14 l1_14.length c1_14] rfl (by (try simp only [List.map_toArray, List.map_cons, List.map_nil]); first | done | rfl | (simp only [List.length_drop, List.length_take]; rfl)) ?_; (with_reducible refine (spec_l7Ints.calls kj2 _ _ l0_14 _ _ l1_14 false _ ?side1 ?side2 ?side3 ?side4 A50.out).mono ?_); (case side1 => repeat (first | exact (Kd.C_below HR0_14.out HB.out) | (with_reducible refine Kd.C_alloc ?_ _) | (with_reducible refine Kd.C_drewN ?_ _) | (with_reducible refine Kd.C_drew ?_))); (case side2 => exact HC0_14.out); (case side3 => repeat (first | exact (Kd.C_below HR1_14.out HB.out) | (with_reducible refine Kd.C_alloc ?_ _) | (with_reducible refine Kd.C_drewN ?_ _) | (with_reducible refine Kd.C_drew ?_))); (case side4 => exact HC1_14.out); rintro e w' ⟨rfl, ⟨nd, rfl⟩⟩; refine ⟨_, rfl, ?_⟩))
          go_ret
          exact ⟨by first | rfl | (refine congrArg Ending.returned (congrArg Value.bool ?_); generalize ByteArray.toList _ = l_; cases l_ <;> rfl) | (simp [errW_none, errW_some] <;> rfl) | (simp [*, errW_none, errW_some] <;> rfl), by repeat (first | (with_reducible first | exact HB.out | apply below_alloc | apply pw_below_drewN | apply below_drew1 | refine below_set ?_ GE111.out | refine below_set ?_ GE112.out) | exact HB.out)⟩

end Go.Proofs.Ytamlpnfnidkknaa.GFnExactEqualThreads
