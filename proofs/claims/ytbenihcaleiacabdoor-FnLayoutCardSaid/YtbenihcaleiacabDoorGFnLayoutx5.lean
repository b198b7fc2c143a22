/- Of each Go function that the law FnLayout reaches: a Lean function, and the proof that the call comes to just its answer; written by a turned copy of the kit's printer, with contracts typed by hand for functions that it does not take. No condition. -/
import Derived.Test.YtbenihcaleiacabDoorGFnLayoutx0
import Derived.Test.YtbenihcaleiacabDoorGFnLayoutx4
namespace Go.Proofs.YtbenihcaleiacabDoor.GFnLayout
open Go.RowKit Go.Proofs.YtbenihcaleiacabDoorW.PrintWords Go.Proofs.YtbenihcaleiacabDoorW.PrintLast Go.Proofs.YtbenihcaleiacabDoorW.PrintMore
attribute [local go_sem] max2_int min2_int max_two min_two max_three min_three max_four min_four   -- for this text's walks alone
set_option linter.unusedVariables false
set_option linter.unusedSimpArgs false

/-! ### spec_IsConfig: function 59 -/
def spec_IsConfig.f (a0_0 : Int) (a0_1 : Int) (a0_2 : Int) (a0_3 : Int) (a0_4 : Int) (a0_5 : Int) : Option (Bool) := (spec_l1In.f a0_0 1 4).bind fun t240 => (if t240 = true then ((spec_l1In.f a0_1 1 4).bind fun t241 => (if t241 = true then ((spec_l1In.f a0_2 1 24).bind fun t242 => (if t242 = true then ((spec_l1In.f a0_3 1 4).bind fun t243 => (if t243 = true then ((spec_l1In.f a0_4 0 2).bind fun t244 => (if t244 = true then ((spec_l1In.f a0_5 1 99).bind fun t245 => (some t245)) else (some false))) else (some false))) else (some false))) else (some false))) else (some false))
set_option maxHeartbeats 8000000 in
set_option maxRecDepth 100000 in
theorem spec_IsConfig.calls (a0_0 : Int) (a0_1 : Int) (a0_2 : Int) (a0_3 : Int) (a0_4 : Int) (a0_5 : Int) (r : Bool) (w : World) (h : spec_IsConfig.f a0_0 a0_1 a0_2 a0_3 a0_4 a0_5 = some r) :
    Calls Tryd.prog 59 #[.agg #[.int .i64 a0_0, .int .i64 a0_1, .int .i64 a0_2, .int .i64 a0_3, .int .i64 a0_4, .int .i64 a0_5]] w fun e w' => e = .returned (.bool r) ∧ Below w.heap.size w w' := by
  have hu47 := Tryd.underlying47
  have HB := Aside0.mk (Below.refl w.heap.size w)
  have H : ((spec_l1In.f a0_0 1 4).bind fun t240 => (if t240 = true then ((spec_l1In.f a0_1 1 4).bind fun t241 => (if t241 = true then ((spec_l1In.f a0_2 1 24).bind fun t242 => (if t242 = true then ((spec_l1In.f a0_3 1 4).bind fun t243 => (if t243 = true then ((spec_l1In.f a0_4 0 2).bind fun t244 => (if t244 = true then ((spec_l1In.f a0_5 1 99).bind fun t245 => (some t245)) else (some false))) else (some false))) else (some false))) else (some false))) else (some false))) = some r := h
  clear h
  replace H := Option.bind_eq_some_iff.mp H
  obtain ⟨t240, A20, H⟩ := H
  replace H : (if t240 = true then ((spec_l1In.f a0_1 1 4).bind fun t241 => (if t241 = true then ((spec_l1In.f a0_2 1 24).bind fun t242 => (if t242 = true then ((spec_l1In.f a0_3 1 4).bind fun t243 => (if t243 = true then ((spec_l1In.f a0_4 0 2).bind fun t244 => (if t244 = true then ((spec_l1In.f a0_5 1 99).bind fun t245 => (some t245)) else (some false))) else (some false))) else (some false))) else (some false))) else (some false)) = some r := H
  have A2 := Aside0.mk A20
  clear A20
  by_cases c3 : t240 = true
  · subst c3
    have H1 : ((spec_l1In.f a0_1 1 4).bind fun t241 => (if t241 = true then ((spec_l1In.f a0_2 1 24).bind fun t242 => (if t242 = true then ((spec_l1In.f a0_3 1 4).bind fun t243 => (if t243 = true then ((spec_l1In.f a0_4 0 2).bind fun t244 => (if t244 = true then ((spec_l1In.f a0_5 1 99).bind fun t245 => (some t245)) else (some false))) else (some false))) else (some false))) else (some false))) = some r := by rw [if_pos rfl] at H; exact H
    clear H
    have H := H1
    clear H1
    replace H := Option.bind_eq_some_iff.mp H
    obtain ⟨t241, A40, H⟩ := H
    replace H : (if t241 = true then ((spec_l1In.f a0_2 1 24).bind fun t242 => (if t242 = true then ((spec_l1In.f a0_3 1 4).bind fun t243 => (if t243 = true then ((spec_l1In.f a0_4 0 2).bind fun t244 => (if t244 = true then ((spec_l1In.f a0_5 1 99).bind fun t245 => (some t245)) else (some false))) else (some false))) else (some false))) else (some false)) = some r := H
    have A4 := Aside0.mk A40
    clear A40
    by_cases c5 : t241 = true
    · subst c5
      have H1 : ((spec_l1In.f a0_2 1 24).bind fun t242 => (if t242 = true then ((spec_l1In.f a0_3 1 4).bind fun t243 => (if t243 = true then ((spec_l1In.f a0_4 0 2).bind fun t244 => (if t244 = true then ((spec_l1In.f a0_5 1 99).bind fun t245 => (some t245)) else (some false))) else (some false))) else (some false))) = some r := by rw [if_pos rfl] at H; exact H
      clear H
      have H := H1
      clear H1
      replace H := Option.bind_eq_some_iff.mp H
      obtain ⟨t242, A60, H⟩ := H
      replace H : (if t242 = true then ((spec_l1In.f a0_3 1 4).bind fun t243 => (if t243 = true then ((spec_l1In.f a0_4 0 2).bind fun t244 => (if t244 = true then ((spec_l1In.f a0_5 1 99).bind fun t245 => (some t245)) else (some false))) else (some false))) else (some false)) = some r := H
      have A6 := Aside0.mk A60
      clear A60
      by_cases c7 : t242 = true
      · subst c7
        have H1 : ((spec_l1In.f a0_3 1 4).bind fun t243 => (if t243 = true then ((spec_l1In.f a0_4 0 2).bind fun t244 => (if t244 = true then ((spec_l1In.f a0_5 1 99).bind fun t245 => (some t245)) else (some false))) else (some false))) = some r := by rw [if_pos rfl] at H; exact H
        clear H
        have H := H1
        clear H1
        replace H := Option.bind_eq_some_iff.mp H
        obtain ⟨t243, A80, H⟩ := H
        replace H : (if t243 = true then ((spec_l1In.f a0_4 0 2).bind fun t244 => (if t244 = true then ((spec_l1In.f a0_5 1 99).bind fun t245 => (some t245)) else (some false))) else (some false)) = some r := H
        have A8 := Aside0.mk A80
        clear A80
        by_cases c9 : t243 = true
        · subst c9
          have H1 : ((spec_l1In.f a0_4 0 2).bind fun t244 => (if t244 = true then ((spec_l1In.f a0_5 1 99).bind fun t245 => (some t245)) else (some false))) = some r := by rw [if_pos rfl] at H; exact H
          clear H
          have H := H1
          clear H1
          replace H := Option.bind_eq_some_iff.mp H
          obtain ⟨t244, A100, H⟩ := H
          replace H : (if t244 = true then ((spec_l1In.f a0_5 1 99).bind fun t245 => (some t245)) else (some false)) = some r := H
          have A10 := Aside0.mk A100
          clear A100
          by_cases c11 : t244 = true
          · subst c11
            have H1 : ((spec_l1In.f a0_5 1 99).bind fun t245 => (some t245)) = some r := by rw [if_pos rfl] at H; exact H
            clear H
            have H := H1
            clear H1
            replace H := Option.bind_eq_some_iff.mp H
            obtain ⟨t245, A120, H⟩ := H
            replace H : (some t245) = some r := H
            have A12 := Aside0.mk A120
            clear A120
            obtain rfl := Option.some.inj H
            go_enter Tryd.func59, Tryd.ntmps59
            go_wp2_with (first | ((with_reducible refine gate_dst (N := 1) rfl ?_); refine box_event ?hg (N := 1) ?hd (cs := #[.int .i64 a0_0, .int .i64 a0_1, .int .i64 a0_2, .int .i64 a0_3, .int .i64 a0_4, .int .i64 a0_5]) (t := 47) ?hr ?_; (case hd => rfl); (case hg => rfl); (case hr => first | (go_simp; done) | (go_simp; rfl)); intro gb239 hg w13 hbox hb; have n0_ := Aside0.mk (below_step (by repeat (first | (with_reducible first | exact HB.out | apply below_alloc | apply pw_below_drewN | apply below_drew1) | exact HB.out)) hb); have n1_ := Aside0.mk (hbox); have n2_ := Aside0.mk ((by rw [hg]; exact (below_size (by repeat (first | (with_reducible first | exact HB.out | apply below_alloc | apply pw_below_drewN | apply below_drew1) | exact HB.out))) : w.heap.size ≤ gb239)); have n3_ := Aside0.mk ((by rw [hg]; exact (below_size (by repeat (first | (with_reducible first | exact HB.out | apply below_alloc | apply pw_below_drewN | apply below_drew1) | exact HB.out))) : w.heap.size ≤ gb239)); clear HB; have HB := n0_; have BK239 := n1_; have GW239 := n2_; have GE239 := n3_; clear n0_ n1_ n2_ n3_; clear hb hbox hg; have hcz14_0 : w13.cell? ⟨gb239, 0, none⟩ = some (.int .i64 a0_0) := (blk_cell BK239.out 0).trans rfl; have hcz14_1 : w13.cell? ⟨gb239, 1, none⟩ = some (.int .i64 a0_1) := (blk_cell BK239.out 1).trans rfl; have hcz14_2 : w13.cell? ⟨gb239, 2, none⟩ = some (.int .i64 a0_2) := (blk_cell BK239.out 2).trans rfl; have hcz14_3 : w13.cell? ⟨gb239, 3, none⟩ = some (.int .i64 a0_3) := (blk_cell BK239.out 3).trans rfl; have hcz14_4 : w13.cell? ⟨gb239, 4, none⟩ = some (.int .i64 a0_4) := (blk_cell BK239.out 4).trans rfl; have hcz14_5 : w13.cell? ⟨gb239, 5, none⟩ = some (.int .i64 a0_5) := (blk_cell BK239.out 5).trans rfl; have hfz14_0 := blk_frozen BK239.out 0; have hfz14_1 := blk_frozen BK239.out 1; have hfz14_2 := blk_frozen BK239.out 2; have hfz14_3 := blk_frozen BK239.out 3; have hfz14_4 := blk_frozen BK239.out 4; have hfz14_5 := blk_frozen BK239.out 5) | ((with_reducible refine gate_callee (f := 75) rfl ?_); refine goesL_ (some 5) rfl rfl Tryd.func75 (by kernel_rfl) rfl #[.int .i64 a0_0, .int .i64 1, .int .i64 4] rfl (by (try simp only [List.map_toArray, List.map_cons, List.map_nil]); first | done | rfl | (simp only [List.length_drop, List.length_take]; rfl)) ?_; (with_reducible refine (spec_l1In.calls a0_0 1 4 true _ A2.out).mono ?_); rintro e w' ⟨rfl, ⟨nd, rfl⟩⟩; refine ⟨_, rfl, ?_⟩) | (go_at_call 75; (with_reducible refine (spec_l1In.calls a0_1 1 4 true _ A4.out).mono ?_); rintro e w' ⟨rfl, ⟨nd, rfl⟩⟩) | (go_at_call 75; (with_reducible refine (spec_l1In.calls a0_2 1 24 true _ A6.out).mono ?_); rintro e w' ⟨rfl, ⟨nd, rfl⟩⟩) | (go_at_call 75; (with_reducible refine (spec_l1In.calls a0_3 1 4 true _ A8.out).mono ?_); rintro e w' ⟨rfl, ⟨nd, rfl⟩⟩) | (go_at_call 75; (with_reducible refine (spec_l1In.calls a0_4 0 2 true _ A10.out).mono ?_); rintro e w' ⟨rfl, ⟨nd, rfl⟩⟩) | (go_at_call 75; (with_reducible refine (spec_l1In.calls a0_5 1 99 t245 _ A12.out).mono ?_); rintro e w' ⟨rfl, ⟨nd, rfl⟩⟩))
            go_ret
            exact ⟨by first | rfl | (refine congrArg Ending.returned (congrArg Value.bool ?_); generalize ByteArray.toList _ = l_; cases l_ <;> rfl) | (simp [errW_none, errW_some] <;> rfl) | (simp [*, errW_none, errW_some] <;> rfl), by repeat (first | (with_reducible first | exact HB.out | apply below_alloc | apply pw_below_drewN | apply below_drew1 | refine below_set ?_ GE239.out) | exact HB.out)⟩
          · replace c11 := Bool.eq_false_iff.mpr c11
            subst c11
            have H1 : (some false) = some r := by rw [if_neg (show ¬ (false = true) by decide)] at H; exact H
            clear H
            have H := H1
            clear H1
            obtain rfl := Option.some.inj H
            go_enter Tryd.func59, Tryd.ntmps59
            go_wp2_with (first | ((with_reducible refine gate_dst (N := 1) rfl ?_); refine box_event ?hg (N := 1) ?hd (cs := #[.int .i64 a0_0, .int .i64 a0_1, .int .i64 a0_2, .int .i64 a0_3, .int .i64 a0_4, .int .i64 a0_5]) (t := 47) ?hr ?_; (case hd => rfl); (case hg => rfl); (case hr => first | (go_simp; done) | (go_simp; rfl)); intro gb239 hg w15 hbox hb; have n0_ := Aside0.mk (below_step (by repeat (first | (with_reducible first | exact HB.out | apply below_alloc | apply pw_below_drewN | apply below_drew1) | exact HB.out)) hb); have n1_ := Aside0.mk (hbox); have n2_ := Aside0.mk ((by rw [hg]; exact (below_size (by repeat (first | (with_reducible first | exact HB.out | apply below_alloc | apply pw_below_drewN | apply below_drew1) | exact HB.out))) : w.heap.size ≤ gb239)); have n3_ := Aside0.mk ((by rw [hg]; exact (below_size (by repeat (first | (with_reducible first | exact HB.out | apply below_alloc | apply pw_below_drewN | apply below_drew1) | exact HB.out))) : w.heap.size ≤ gb239)); clear HB; have HB := n0_; have BK239 := n1_; have GW239 := n2_; have GE239 := n3_; clear n0_ n1_ n2_ n3_; clear hb hbox hg; have hcz16_0 : w15.cell? ⟨gb239, 0, none⟩ = some (.int .i64 a0_0) := (blk_cell BK239.out 0).trans rfl; have hcz16_1 : w15.cell? ⟨gb239, 1, none⟩ = some (.int .i64 a0_1) := (blk_cell BK239.out 1).trans rfl; have hcz16_2 : w15.cell? ⟨gb239, 2, none⟩ = some (.int .i64 a0_2) := (blk_cell BK239.out 2).trans rfl; have hcz16_3 : w15.cell? ⟨gb239, 3, none⟩ = some (.int .i64 a0_3) := (blk_cell BK239.out 3).trans rfl; have hcz16_4 : w15.cell? ⟨gb239, 4, none⟩ = some (.int .i64 a0_4) := (blk_cell BK239.out 4).trans rfl; have hcz16_5 : w15.cell? ⟨gb239, 5, none⟩ = some (.int .i64 a0_5) := (blk_cell BK239.out 5).trans rfl; have hfz16_0 := blk_frozen BK239.out 0; have hfz16_1 := blk_frozen BK239.out 1; have hfz16_2 := blk_frozen BK239.out 2; have hfz16_3 := blk_frozen BK239.out 3; have hfz16_4 := blk_frozen BK239.out 4; have hfz16_5 := blk_frozen BK239.out 5) | ((with_reducible refine gate_callee (f := 75) rfl ?_); refine goesL_ (some 5) rfl rfl Tryd.func75 (by kernel_rfl) rfl #[.int .i64 a0_0, .int .i64 1, .int .i64 4] rfl (by (try simp only [List.map_toArray, List.map_cons, List.map_nil]); first | done | rfl | (simp only [List.length_drop, List.length_take]; rfl)) ?_; (with_reducible refine (spec_l1In.calls a0_0 1 4 true _ A2.out).mono ?_); rintro e w' ⟨rfl, ⟨nd, rfl⟩⟩; refine ⟨_, rfl, ?_⟩) | (go_at_call 75; (with_reducible refine (spec_l1In.calls a0_1 1 4 true _ A4.out).mono ?_); rintro e w' ⟨rfl, ⟨nd, rfl⟩⟩) | (go_at_call 75; (with_reducible refine (spec_l1In.calls a0_2 1 24 true _ A6.out).mono ?_); rintro e w' ⟨rfl, ⟨nd, rfl⟩⟩) | (go_at_call 75; (with_reducible refine (spec_l1In.calls a0_3 1 4 true _ A8.out).mono ?_); rintro e w' ⟨rfl, ⟨nd, rfl⟩⟩) | (go_at_call 75; (with_reducible refine (spec_l1In.calls a0_4 0 2 false _ A10.out).mono ?_); rintro e w' ⟨rfl, ⟨nd, rfl⟩⟩))
            go_ret
            exact ⟨by first | rfl | (refine congrArg Ending.returned (congrArg Value.bool ?_); generalize ByteArray.toList _ = l_; cases l_ <;> rfl) | (simp [errW_none, errW_some] <;> rfl) | (simp [*, errW_none, errW_some] <;> rfl), by repeat (first | (with_reducible first | exact HB.out | apply below_alloc | apply pw_below_drewN | apply below_drew1 | refine below_set ?_ GE239.out) | exact HB.out)⟩
        · replace c9 := Bool.eq_false_iff.mpr c9
          subst c9
          have H1 : (some false) = some r := by rw [if_neg (show ¬ (false = true) by decide)] at H; exact H
          clear H
          have H := H1
          clear H1
          obtain rfl := Option.some.inj H
          go_enter Tryd.func59, Tryd.ntmps59
          go_wp2_with (first | ((with_reducible refine gate_dst (N := 1) rfl ?_); refine box_event ?hg (N := 1) ?hd (cs := #[.int .i64 a0_0, .int .i64 a0_1, .int .i64 a0_2, .int .i64 a0_3, .int .i64 a0_4, .int .i64 a0_5]) (t := 47) ?hr ?_; (case hd => rfl); (case hg => rfl); (case hr => first | (go_simp; done) | (go_simp; rfl)); intro gb239 hg w17 hbox hb; have n0_ := Aside0.mk (below_step (by repeat (first | (with_reducible first | exact HB.out | apply below_alloc | apply pw_below_drewN | apply below_drew1) | exact HB.out)) hb); have n1_ := Aside0.mk (hbox); have n2_ := Aside0.mk ((by rw [hg]; exact (below_size (by repeat (first | (with_reducible first | exact HB.out | apply below_alloc | apply pw_below_drewN | apply below_drew1) | exact HB.out))) : w.heap.size ≤ gb239)); have n3_ := Aside0.mk ((by rw [hg]; exact (below_size (by repeat (first | (with_reducible first | exact HB.out | apply below_alloc | apply pw_below_drewN | apply below_drew1) | exact HB.out))) : w.heap.size ≤ gb239)); clear HB; have HB := n0_; have BK239 := n1_; have GW239 := n2_; have GE239 := n3_; clear n0_ n1_ n2_ n3_; clear hb hbox hg; have hcz18_0 : w17.cell? ⟨gb239, 0, none⟩ = some (.int .i64 a0_0) := (blk_cell BK239.out 0).trans rfl; have hcz18_1 : w17.cell? ⟨gb239, 1, none⟩ = some (.int .i64 a0_1) := (blk_cell BK239.out 1).trans rfl; have hcz18_2 : w17.cell? ⟨gb239, 2, none⟩ = some (.int .i64 a0_2) := (blk_cell BK239.out 2).trans rfl; have hcz18_3 : w17.cell? ⟨gb239, 3, none⟩ = some (.int .i64 a0_3) := (blk_cell BK239.out 3).trans rfl; have hcz18_4 : w17.cell? ⟨gb239, 4, none⟩ = some (.int .i64 a0_4) := (blk_cell BK239.out 4).trans rfl; have hcz18_5 : w17.cell? ⟨gb239, 5, none⟩ = some (.int .i64 a0_5) := (blk_cell BK239.out 5).trans rfl; have hfz18_0 := blk_frozen BK239.out 0; have hfz18_1 := blk_frozen BK239.out 1; have hfz18_2 := blk_frozen BK239.out 2; have hfz18_3 := blk_frozen BK239.out 3; have hfz18_4 := blk_frozen BK239.out 4; have hfz18_5 := blk_frozen BK239.out 5) | ((with_reducible refine gate_callee (f := 75) rfl ?_); refine goesL_ (some 5) rfl rfl Tryd.func75 (by kernel_rfl) rfl #[.int .i64 a0_0, .int .i64 1, .int .i64 4] rfl (by (try simp only [List.map_toArray, List.map_cons, List.map_nil]); first | done | rfl | (simp only [List.length_drop, List.length_take]; rfl)) ?_; (with_reducible refine (spec_l1In.calls a0_0 1 4 true _ A2.out).mono ?_); rintro e w' ⟨rfl, ⟨nd, rfl⟩⟩; refine ⟨_, rfl, ?_⟩) | (go_at_call 75; (with_reducible refine (spec_l1In.calls a0_1 1 4 true _ A4.out).mono ?_); rintro e w' ⟨rfl, ⟨nd, rfl⟩⟩) | (go_at_call 75; (with_reducible refine (spec_l1In.calls a0_2 1 24 true _ A6.out).mono ?_); rintro e w' ⟨rfl, ⟨nd, rfl⟩⟩) | (go_at_call 75; (with_reducible refine (spec_l1In.calls a0_3 1 4 false _ A8.out).mono ?_); rintro e w' ⟨rfl, ⟨nd, rfl⟩⟩))
          go_ret
          exact ⟨by first | rfl | (refine congrArg Ending.returned (congrArg Value.bool ?_); generalize ByteArray.toList _ = l_; cases l_ <;> rfl) | (simp [errW_none, errW_some] <;> rfl) | (simp [*, errW_none, errW_some] <;> rfl), by repeat (first | (with_reducible first | exact HB.out | apply below_alloc | apply pw_below_drewN | apply below_drew1 | refine below_set ?_ GE239.out) | exact HB.out)⟩
      · replace c7 := Bool.eq_false_iff.mpr c7
        subst c7
        have H1 : (some false) = some r := by rw [if_neg (show ¬ (false = true) by decide)] at H; exact H
        clear H
        have H := H1
        clear H1
        obtain rfl := Option.some.inj H
        go_enter Tryd.func59, Tryd.ntmps59
        go_wp2_with (first | ((with_reducible refine gate_dst (N := 1) rfl ?_); refine box_event ?hg (N := 1) ?hd (cs := #[.int .i64 a0_0, .int .i64 a0_1, .int .i64 a0_2, .int .i64 a0_3, .int .i64 a0_4, .int .i64 a0_5]) (t := 47) ?hr ?_; (case hd => rfl); (case hg => rfl); (case hr => first | (go_simp; done) | (go_simp; rfl)); intro gb239 hg w19 hbox hb; have n0_ := Aside0.mk (below_step (by repeat (first | (with_reducible first | exact HB.out | apply below_alloc | apply pw_below_drewN | apply below_drew1) | exact HB.out)) hb); have n1_ := Aside0.mk (hbox); have n2_ := Aside0.mk ((by rw [hg]; exact (below_size (by repeat (first | (with_reducible first | exact HB.out | apply below_alloc | apply pw_below_drewN | apply below_drew1) | exact HB.out))) : w.heap.size ≤ gb239)); have n3_ := Aside0.mk ((by rw [hg]; exact (below_size (by repeat (first | (with_reducible first | exact HB.out | apply below_alloc | apply pw_below_drewN | apply below_drew1) | exact HB.out))) : w.heap.size ≤ gb239)); clear HB; have HB := n0_; have BK239 := n1_; have GW239 := n2_; have GE239 := n3_; clear n0_ n1_ n2_ n3_; clear hb hbox hg; have hcz20_0 : w19.cell? ⟨gb239, 0, none⟩ = some (.int .i64 a0_0) := (blk_cell BK239.out 0).trans rfl; have hcz20_1 : w19.cell? ⟨gb239, 1, none⟩ = some (.int .i64 a0_1) := (blk_cell BK239.out 1).trans rfl; have hcz20_2 : w19.cell? ⟨gb239, 2, none⟩ = some (.int .i64 a0_2) := (blk_cell BK239.out 2).trans rfl; have hcz20_3 : w19.cell? ⟨gb239, 3, none⟩ = some (.int .i64 a0_3) := (blk_cell BK239.out 3).trans rfl; have hcz20_4 : w19.cell? ⟨gb239, 4, none⟩ = some (.int .i64 a0_4) := (blk_cell BK239.out 4).trans rfl; have hcz20_5 : w19.cell? ⟨gb239, 5, none⟩ = some (.int .i64 a0_5) := (blk_cell BK239.out 5).trans rfl; have hfz20_0 := blk_frozen BK239.out 0; have hfz20_1 := blk_frozen BK239.out 1; have hfz20_2 := blk_frozen BK239.out 2; have hfz20_3 := blk_frozen BK239.out 3; have hfz20_4 := blk_frozen BK239.out 4; have hfz20_5 := blk_frozen BK239.out 5) | ((with_reducible refine gate_callee (f := 75) rfl ?_); refine goesL_ (some 5) rfl rfl Tryd.func75 (by kernel_rfl) rfl #[.int .i64 a0_0, .int .i64 1, .int .i64 4] rfl (by (try simp only [List.map_toArray, List.map_cons, List.map_nil]); first | done | rfl | (simp only [List.length_drop, List.length_take]; rfl)) ?_; (with_reducible refine (spec_l1In.calls a0_0 1 4 true _ A2.out).mono ?_); rintro e w' ⟨rfl, ⟨nd, rfl⟩⟩; refine ⟨_, rfl, ?_⟩) | (go_at_call 75; (with_reducible refine (spec_l1In.calls a0_1 1 4 true _ A4.out).mono ?_); rintro e w' ⟨rfl, ⟨nd, rfl⟩⟩) | (go_at_call 75; (with_reducible refine (spec_l1In.calls a0_2 1 24 false _ A6.out).mono ?_); rintro e w' ⟨rfl, ⟨nd, rfl⟩⟩))
        go_ret
        exact ⟨by first | rfl | (refine congrArg Ending.returned (congrArg Value.bool ?_); generalize ByteArray.toList _ = l_; cases l_ <;> rfl) | (simp [errW_none, errW_some] <;> rfl) | (simp [*, errW_none, errW_some] <;> rfl), by repeat (first | (with_reducible first | exact HB.out | apply below_alloc | apply pw_below_drewN | apply below_drew1 | refine below_set ?_ GE239.out) | exact HB.out)⟩
    · replace c5 := Bool.eq_false_iff.mpr c5
      subst c5
      have H1 : (some false) = some r := by rw [if_neg (show ¬ (false = true) by decide)] at H; exact H
      clear H
      have H := H1
      clear H1
      obtain rfl := Option.some.inj H
      go_enter Tryd.func59, Tryd.ntmps59
      go_wp2_with (first | ((with_reducible refine gate_dst (N := 1) rfl ?_); refine box_event ?hg (N := 1) ?hd (cs := #[.int .i64 a0_0, .int .i64 a0_1, .int .i64 a0_2, .int .i64 a0_3, .int .i64 a0_4, .int .i64 a0_5]) (t := 47) ?hr ?_; (case hd => rfl); (case hg => rfl); (case hr => first | (go_simp; done) | (go_simp; rfl)); intro gb239 hg w21 hbox hb; have n0_ := Aside0.mk (below_step (by repeat (first | (with_reducible first | exact HB.out | apply below_alloc | apply pw_below_drewN | apply below_drew1) | exact HB.out)) hb); have n1_ := Aside0.mk (hbox); have n2_ := Aside0.mk ((by rw [hg]; exact (below_size (by repeat (first | (with_reducible first | exact HB.out | apply below_alloc | apply pw_below_drewN | apply below_drew1) | exact HB.out))) : w.heap.size ≤ gb239)); have n3_ := Aside0.mk ((by rw [hg]; exact (below_size (by repeat (first | (with_reducible first | exact HB.out | apply below_alloc | apply pw_below_drewN | apply below_drew1) | exact HB.out))) : w.heap.size ≤ gb239)); clear HB; have HB := n0_; have BK239 := n1_; have GW239 := n2_; have GE239 := n3_; clear n0_ n1_ n2_ n3_; clear hb hbox hg; have hcz22_0 : w21.cell? ⟨gb239, 0, none⟩ = some (.int .i64 a0_0) := (blk_cell BK239.out 0).trans rfl; have hcz22_1 : w21.cell? ⟨gb239, 1, none⟩ = some (.int .i64 a0_1) := (blk_cell BK239.out 1).trans rfl; have hcz22_2 : w21.cell? ⟨gb239, 2, none⟩ = some (.int .i64 a0_2) := (blk_cell BK239.out 2).trans rfl; have hcz22_3 : w21.cell? ⟨gb239, 3, none⟩ = some (.int .i64 a0_3) := (blk_cell BK239.out 3).trans rfl; have hcz22_4 : w21.cell? ⟨gb239, 4, none⟩ = some (.int .i64 a0_4) := (blk_cell BK239.out 4).trans rfl; have hcz22_5 : w21.cell? ⟨gb239, 5, none⟩ = some (.int .i64 a0_5) := (blk_cell BK239.out 5).trans rfl; have hfz22_0 := blk_frozen BK239.out 0; have hfz22_1 := blk_frozen BK239.out 1; have hfz22_2 := blk_frozen BK239.out 2; have hfz22_3 := blk_frozen BK239.out 3; have hfz22_4 := blk_frozen BK239.out 4; have hfz22_5 := blk_frozen BK239.out 5) | ((with_reducible refine gate_callee (f := 75) rfl ?_); refine goesL_ (some 5) rfl rfl Tryd.func75 (by kernel_rfl) rfl #[.int .i64 a0_0, .int .i64 1, .int .i64 4] rfl (by (try simp only [List.map_toArray, List.map_cons, List.map_nil]); first | done | rfl | (simp only [List.length_drop, List.length_take]; rfl)) ?_; (with_reducible refine (spec_l1In.calls a0_0 1 4 true _ A2.out).mono ?_); rintro e w' ⟨rfl, ⟨nd, rfl⟩⟩; refine ⟨_, rfl, ?_⟩) | (go_at_call 75; (with_reducible refine (spec_l1In.calls a0_1 1 4 false _ A4.out).mono ?_); rintro e w' ⟨rfl, ⟨nd, rfl⟩⟩))
      go_ret
      exact ⟨by first | rfl | (refine congrArg Ending.returned (congrArg Value.bool ?_); generalize ByteArray.toList _ = l_; cases l_ <;> rfl) | (simp [errW_none, errW_some] <;> rfl) | (simp [*, errW_none, errW_some] <;> rfl), by repeat (first | (with_reducible first | exact HB.out | apply below_alloc | apply pw_below_drewN | apply below_drew1 | refine below_set ?_ GE239.out) | exact HB.out)⟩
  · replace c3 := Bool.eq_false_iff.mpr c3
    subst c3
    have H1 : (some false) = some r := by rw [if_neg (show ¬ (false = true) by decide)] at H; exact H
    clear H
    have H := H1
    clear H1
    obtain rfl := Option.some.inj H
    go_enter Tryd.func59, Tryd.ntmps59
    go_wp2_with (first | ((with_reducible refine gate_dst (N := 1) rfl ?_); refine box_event ?hg (N := 1) ?hd (cs := #[.int .i64 a0_0, .int .i64 a0_1, .int .i64 a0_2, .int .i64 a0_3, .int .i64 a0_4, .int .i64 a0_5]) (t := 47) ?hr ?_; (case hd => rfl); (case hg => rfl); (case hr => first | (go_simp; done) | (go_simp; rfl)); intro gb239 hg w23 hbox hb; have n0_ := Aside0.mk (below_step (by repeat (first | (with_reducible first | exact HB.out | apply below_alloc | apply pw_below_drewN | apply below_drew1) | exact HB.out)) hb); have n1_ := Aside0.mk (hbox); have n2_ := Aside0.mk ((by rw [hg]; exact (below_size (by repeat (first | (with_reducible first | exact HB.out | apply below_alloc | apply pw_below_drewN | apply below_drew1) | exact HB.out))) : w.heap.size ≤ gb239)); have n3_ := Aside0.mk ((by rw [hg]; exact (below_size (by repeat (first | (with_reducible first | exact HB.out | apply below_alloc | apply pw_below_drewN | apply below_drew1) | exact HB.out))) : w.heap.size ≤ gb239)); clear HB; have HB := n0_; have BK239 := n1_; have GW239 := n2_; have GE239 := n3_; clear n0_ n1_ n2_ n3_; clear hb hbox hg; have hcz24_0 : w23.cell? ⟨gb239, 0, none⟩ = some (.int .i64 a0_0) := (blk_cell BK239.out 0).trans rfl; have hcz24_1 : w23.cell? ⟨gb239, 1, none⟩ = some (.int .i64 a0_1) := (blk_cell BK239.out 1).trans rfl; have hcz24_2 : w23.cell? ⟨gb239, 2, none⟩ = some (.int .i64 a0_2) := (blk_cell BK239.out 2).trans rfl; have hcz24_3 : w23.cell? ⟨gb239, 3, none⟩ = some (.int .i64 a0_3) := (blk_cell BK239.out 3).trans rfl; have hcz24_4 : w23.cell? ⟨gb239, 4, none⟩ = some (.int .i64 a0_4) := (blk_cell BK239.out 4).trans rfl; have hcz24_5 : w23.cell? ⟨gb239, 5, none⟩ = some (.int .i64 a0_5) := (blk_cell BK239.out 5).trans rfl; have hfz24_0 := blk_frozen BK239.out 0; have hfz24_1 := blk_frozen BK239.out 1; have hfz24_2 := blk_frozen BK239.out 2; have hfz24_3 := blk_frozen BK239.out 3; have hfz24_4 := blk_frozen BK239.out 4; have hfz24_5 := blk_frozen BK239.out 5) | ((with_reducible refine gate_callee (f := 75) rfl ?_); refine goesL_ (some 5) rfl rfl Tryd.func75 (by kernel_rfl) rfl #[.int .i64 a0_0, .int .i64 1, .int .i64 4] rfl (by (try simp only [List.map_toArray, List.map_cons, List.map_nil]); first | done | rfl | (simp only [List.length_drop, List.length_take]; rfl)) ?_; (with_reducible refine (spec_l1In.calls a0_0 1 4 false _ A2.out).mono ?_); rintro e w' ⟨rfl, ⟨nd, rfl⟩⟩; refine ⟨_, rfl, ?_⟩))
    go_ret
    exact ⟨by first | rfl | (refine congrArg Ending.returned (congrArg Value.bool ?_); generalize ByteArray.toList _ = l_; cases l_ <;> rfl) | (simp [errW_none, errW_some] <;> rfl) | (simp [*, errW_none, errW_some] <;> rfl), by repeat (first | (with_reducible first | exact HB.out | apply below_alloc | apply pw_below_drewN | apply below_drew1 | refine below_set ?_ GE239.out) | exact HB.out)⟩

/-! ### spec_CellCount: function 57 -/
def spec_CellCount.f (a0_0 : Int) (a0_1 : Int) (a0_2 : Int) (a0_3 : Int) (a0_4 : Int) (a0_5 : Int) : Option (Int) := (spec_IsConfig.f a0_0 a0_1 a0_2 a0_3 a0_4 a0_5).bind fun t247 => (if t247 = true then (some (wrap64 ((wrap64 ((wrap64 (2 + (wrap64 (3 * a0_0)))) + a0_1)) + (wrap64 (3 * a0_2))))) else (some 0))
set_option maxHeartbeats 8000000 in
set_option maxRecDepth 100000 in
theorem spec_CellCount.calls (a0_0 : Int) (a0_1 : Int) (a0_2 : Int) (a0_3 : Int) (a0_4 : Int) (a0_5 : Int) (r : Int) (w : World) (h : spec_CellCount.f a0_0 a0_1 a0_2 a0_3 a0_4 a0_5 = some r) :
    Calls Tryd.prog 57 #[.agg #[.int .i64 a0_0, .int .i64 a0_1, .int .i64 a0_2, .int .i64 a0_3, .int .i64 a0_4, .int .i64 a0_5]] w fun e w' => e = .returned (.int .i64 r) ∧ Below w.heap.size w w' := by
  have hu47 := Tryd.underlying47
  have HB := Aside0.mk (Below.refl w.heap.size w)
  have H : ((spec_IsConfig.f a0_0 a0_1 a0_2 a0_3 a0_4 a0_5).bind fun t247 => (if t247 = true then (some (wrap64 ((wrap64 ((wrap64 (2 + (wrap64 (3 * a0_0)))) + a0_1)) + (wrap64 (3 * a0_2))))) else (some 0))) = some r := h
  clear h
  replace H := Option.bind_eq_some_iff.mp H
  obtain ⟨t247, A20, H⟩ := H
  replace H : (if t247 = true then (some (wrap64 ((wrap64 ((wrap64 (2 + (wrap64 (3 * a0_0)))) + a0_1)) + (wrap64 (3 * a0_2))))) else (some 0)) = some r := H
  have A2 := Aside0.mk A20
  clear A20
  by_cases c3 : t247 = true
  · subst c3
    have H1 : (some (wrap64 ((wrap64 ((wrap64 (2 + (wrap64 (3 * a0_0)))) + a0_1)) + (wrap64 (3 * a0_2))))) = some r := by rw [if_pos rfl] at H; exact H
    clear H
    have H := H1
    clear H1
    obtain rfl := Option.some.inj H
    go_enter Tryd.func57, Tryd.ntmps57
    go_wp2_with (first | ((with_reducible refine gate_dst (N := 1) rfl ?_); refine box_event ?hg (N := 1) ?hd (cs := #[.int .i64 a0_0, .int .i64 a0_1, .int .i64 a0_2, .int .i64 a0_3, .int .i64 a0_4, .int .i64 a0_5]) (t := 47) ?hr ?_; (case hd => rfl); (case hg => rfl); (case hr => first | (go_simp; done) | (go_simp; rfl)); intro gb246 hg w4 hbox hb; have n0_ := Aside0.mk (below_step (by repeat (first | (with_reducible first | exact HB.out | apply below_alloc | apply pw_below_drewN | apply below_drew1) | exact HB.out)) hb); have n1_ := Aside0.mk (hbox); have n2_ := Aside0.mk ((by rw [hg]; exact (below_size (by repeat (first | (with_reducible first | exact HB.out | apply below_alloc | apply pw_below_drewN | apply below_drew1) | exact HB.out))) : w.heap.size ≤ gb246)); have n3_ := Aside0.mk ((by rw [hg]; exact (below_size (by repeat (first | (with_reducible first | exact HB.out | apply below_alloc | apply pw_below_drewN | apply below_drew1) | exact HB.out))) : w.heap.size ≤ gb246)); clear HB; have HB := n0_; have BK246 := n1_; have GW246 := n2_; have GE246 := n3_; clear n0_ n1_ n2_ n3_; clear hb hbox hg; have hcz5_0 : w4.cell? ⟨gb246, 0, none⟩ = some (.int .i64 a0_0) := (blk_cell BK246.out 0).trans rfl; have hcz5_1 : w4.cell? ⟨gb246, 1, none⟩ = some (.int .i64 a0_1) := (blk_cell BK246.out 1).trans rfl; have hcz5_2 : w4.cell? ⟨gb246, 2, none⟩ = some (.int .i64 a0_2) := (blk_cell BK246.out 2).trans rfl; have hcz5_3 : w4.cell? ⟨gb246, 3, none⟩ = some (.int .i64 a0_3) := (blk_cell BK246.out 3).trans rfl; have hcz5_4 : w4.cell? ⟨gb246, 4, none⟩ = some (.int .i64 a0_4) := (blk_cell BK246.out 4).trans rfl; have hcz5_5 : w4.cell? ⟨gb246, 5, none⟩ = some (.int .i64 a0_5) := (blk_cell BK246.out 5).trans rfl; have hfz5_0 := blk_frozen BK246.out 0; have hfz5_1 := blk_frozen BK246.out 1; have hfz5_2 := blk_frozen BK246.out 2; have hfz5_3 := blk_frozen BK246.out 3; have hfz5_4 := blk_frozen BK246.out 4; have hfz5_5 := blk_frozen BK246.out 5) | ((with_reducible refine gate_callee (f := 59) rfl ?_); refine goesL_ (some 4) rfl rfl Tryd.func59 (by kernel_rfl) rfl #[.agg #[.int .i64 a0_0, .int .i64 a0_1, .int .i64 a0_2, .int .i64 a0_3, .int .i64 a0_4, .int .i64 a0_5]] rfl (by (try simp only [List.map_toArray, List.map_cons, List.map_nil]); first | done | rfl | (simp only [List.length_drop, List.length_take]; rfl)) ?_; (with_reducible refine (spec_IsConfig.calls a0_0 a0_1 a0_2 a0_3 a0_4 a0_5 true _ A2.out).mono ?_); rintro e w6 ⟨rfl, hb⟩; refine ⟨_, rfl, ?_⟩; have n0_ := Aside0.mk (blk_below (g := gb246) (o := .cells #[.int .i64 a0_0, .int .i64 a0_1, .int .i64 a0_2, .int .i64 a0_3, .int .i64 a0_4, .int .i64 a0_5] 47 (0, 0)) (by (with_reducible repeat (first | refine blk_drewN ?_ _ | refine blk_drew ?_ | refine blk_alloc ?_ _)); exact BK246.out) hb); have n1_ := Aside0.mk (below_step (by repeat (first | (with_reducible first | exact HB.out | apply below_alloc | apply pw_below_drewN | apply below_drew1 | refine below_set ?_ GE246.out) | exact HB.out)) hb); clear BK246; clear HB; have BK246 := n0_; have HB := n1_; clear n0_ n1_; (try clear hb); (try clear hb2); (try clear hk); (try clear hi); have hcz7_0 : w6.cell? ⟨gb246, 0, none⟩ = some (.int .i64 a0_0) := (blk_cell BK246.out 0).trans rfl; have hcz7_1 : w6.cell? ⟨gb246, 1, none⟩ = some (.int .i64 a0_1) := (blk_cell BK246.out 1).trans rfl; have hcz7_2 : w6.cell? ⟨gb246, 2, none⟩ = some (.int .i64 a0_2) := (blk_cell BK246.out 2).trans rfl; have hcz7_3 : w6.cell? ⟨gb246, 3, none⟩ = some (.int .i64 a0_3) := (blk_cell BK246.out 3).trans rfl; have hcz7_4 : w6.cell? ⟨gb246, 4, none⟩ = some (.int .i64 a0_4) := (blk_cell BK246.out 4).trans rfl; have hcz7_5 : w6.cell? ⟨gb246, 5, none⟩ = some (.int .i64 a0_5) := (blk_cell BK246.out 5).trans rfl; have hfz7_0 := blk_frozen BK246.out 0; have hfz7_1 := blk_frozen BK246.out 1; have hfz7_2 := blk_frozen BK246.out 2; have hfz7_3 := blk_frozen BK246.out 3; have hfz7_4 := blk_frozen BK246.out 4; have hfz7_5 := blk_frozen BK246.out 5))
    go_ret
    exact ⟨by first | rfl | (refine congrArg Ending.returned (congrArg Value.bool ?_); generalize ByteArray.toList _ = l_; cases l_ <;> rfl) | (simp [errW_none, errW_some] <;> rfl) | (simp [*, errW_none, errW_some] <;> rfl), by repeat (first | (with_reducible first | exact HB.out | apply below_alloc | apply pw_below_drewN | apply below_drew1 | refine below_set ?_ GE246.out) | exact HB.out)⟩
  · replace c3 := Bool.eq_false_iff.mpr c3
    subst c3
    have H1 : (some 0) = some r := by rw [if_neg (show ¬ (false = true) by decide)] at H; exact H
    clear H
    have H := H1
    clear H1
    obtain rfl := Option.some.inj H
    go_enter Tryd.func57, Tryd.ntmps57
    go_wp2_with (first | ((with_reducible refine gate_dst (N := 1) rfl ?_); refine box_event ?hg (N := 1) ?hd (cs := #[.int .i64 a0_0, .int .i64 a0_1, .int .i64 a0_2, .int .i64 a0_3, .int .i64 a0_4, .int .i64 a0_5]) (t := 47) ?hr ?_; (case hd => rfl); (case hg => rfl); (case hr => first | (go_simp; done) | (go_simp; rfl)); intro gb246 hg w8 hbox hb; have n0_ := Aside0.mk (below_step (by repeat (first | (with_reducible first | exact HB.out | apply below_alloc | apply pw_below_drewN | apply below_drew1) | exact HB.out)) hb); have n1_ := Aside0.mk (hbox); have n2_ := Aside0.mk ((by rw [hg]; exact (below_size (by repeat (first | (with_reducible first | exact HB.out | apply below_alloc | apply pw_below_drewN | apply below_drew1) | exact HB.out))) : w.heap.size ≤ gb246)); have n3_ := Aside0.mk ((by rw [hg]; exact (below_size (by repeat (first | (with_reducible first | exact HB.out | apply below_alloc | apply pw_below_drewN | apply below_drew1) | exact HB.out))) : w.heap.size ≤ gb246)); clear HB; have HB := n0_; have BK246 := n1_; have GW246 := n2_; have GE246 := n3_; clear n0_ n1_ n2_ n3_; clear hb hbox hg; have hcz9_0 : w8.cell? ⟨gb246, 0, none⟩ = some (.int .i64 a0_0) := (blk_cell BK246.out 0).trans rfl; have hcz9_1 : w8.cell? ⟨gb246, 1, none⟩ = some (.int .i64 a0_1) := (blk_cell BK246.out 1).trans rfl; have hcz9_2 : w8.cell? ⟨gb246, 2, none⟩ = some (.int .i64 a0_2) := (blk_cell BK246.out 2).trans rfl; have hcz9_3 : w8.cell? ⟨gb246, 3, none⟩ = some (.int .i64 a0_3) := (blk_cell BK246.out 3).trans rfl; have hcz9_4 : w8.cell? ⟨gb246, 4, none⟩ = some (.int .i64 a0_4) := (blk_cell BK246.out 4).trans rfl; have hcz9_5 : w8.cell? ⟨gb246, 5, none⟩ = some (.int .i64 a0_5) := (blk_cell BK246.out 5).trans rfl; have hfz9_0 := blk_frozen BK246.out 0; have hfz9_1 := blk_frozen BK246.out 1; have hfz9_2 := blk_frozen BK246.out 2; have hfz9_3 := blk_frozen BK246.out 3; have hfz9_4 := blk_frozen BK246.out 4; have hfz9_5 := blk_frozen BK246.out 5) | ((with_reducible refine gate_callee (f := 59) rfl ?_); refine goesL_ (some 4) rfl rfl Tryd.func59 (by kernel_rfl) rfl #[.agg #[.int .i64 a0_0, .int .i64 a0_1, .int .i64 a0_2, .int .i64 a0_3, .int .i64 a0_4, .int .i64 a0_5]] rfl (by (try simp only [List.map_toArray, List.map_cons, List.map_nil]); first | done | rfl | (simp only [List.length_drop, List.length_take]; rfl)) ?_; (with_reducible refine (spec_IsConfig.calls a0_0 a0_1 a0_2 a0_3 a0_4 a0_5 false _ A2.out).mono ?_); rintro e w10 ⟨rfl, hb⟩; refine ⟨_, rfl, ?_⟩; have n0_ := Aside0.mk (blk_below (g := gb246) (o := .cells #[.int .i64 a0_0, .int .i64 a0_1, .int .i64 a0_2, .int .i64 a0_3, .int .i64 a0_4, .int .i64 a0_5] 47 (0, 0)) (by (with_reducible repeat (first | refine blk_drewN ?_ _ | refine blk_drew ?_ | refine blk_alloc ?_ _)); exact BK246.out) hb); have n1_ := Aside0.mk (below_step (by repeat (first | (with_reducible first | exact HB.out | apply below_alloc | apply pw_below_drewN | apply below_drew1 | refine below_set ?_ GE246.out) | exact HB.out)) hb); clear BK246; clear HB; have BK246 := n0_; have HB := n1_; clear n0_ n1_; (try clear hb); (try clear hb2); (try clear hk); (try clear hi)))
    go_ret
    exact ⟨by first | rfl | (refine congrArg Ending.returned (congrArg Value.bool ?_); generalize ByteArray.toList _ = l_; cases l_ <;> rfl) | (simp [errW_none, errW_some] <;> rfl) | (simp [*, errW_none, errW_some] <;> rfl), by repeat (first | (with_reducible first | exact HB.out | apply below_alloc | apply pw_below_drewN | apply below_drew1 | refine below_set ?_ GE246.out) | exact HB.out)⟩

/-! ### spec_FormatInt: function 25 -/
def spec_FormatInt.l0 : Nat → Int → ByteArray → Bool → Option (ByteArray)
  | 0, _, _, _ => none
  | k + 1, x0, x3, x4 => if x0 = 0 then (if x4 = true then (if 1 + x3.size ≤ 9223372036854775807 then (some ((⟨#[45]⟩ : ByteArray) ++ x3)) else (none)) else (some x3)) else (if (Int.tmod x0 10) < 0 then ((some (([(wrap64 (48 + (wrap64 (-(Int.tmod x0 10))))) % 256] : List Int) : List Int)).bind fun y248 => (if (strOfNums y248).size + x3.size ≤ 9223372036854775807 then (spec_FormatInt.l0 k (wrap64 (Int.tdiv x0 10)) ((strOfNums y248) ++ x3) x4) else (none))) else ((some (([(wrap64 (48 + (Int.tmod x0 10))) % 256] : List Int) : List Int)).bind fun y251 => (if (strOfNums y251).size + x3.size ≤ 9223372036854775807 then (spec_FormatInt.l0 k (wrap64 (Int.tdiv x0 10)) ((strOfNums y251) ++ x3) x4) else (none))))
def spec_FormatInt.f (k : Nat) (a0 : Int) : Option (ByteArray) := if a0 = 0 then (some (⟨#[48]⟩ : ByteArray)) else (spec_FormatInt.l0 k a0 (⟨#[]⟩ : ByteArray) (decide (a0 < 0)))
theorem spec_FormatInt.mono_l : ∀ k, (∀ y0 y1 y2, LeO (spec_FormatInt.l0 k y0 y1 y2) (spec_FormatInt.l0 (k + 1) y0 y1 y2))
  | 0 => fun _ _ _ r h => by simp [spec_FormatInt.l0] at h
  | k + 1 => by
    have ih0 := spec_FormatInt.mono_l k
    · intro y0 y1 y2
      unfold spec_FormatInt.l0
      repeat' first
      | (with_reducible exact ih0 _ _ _)
      | (with_reducible exact LeO.refl _)
      | (with_reducible exact LeO.none _)
      | (with_reducible refine LeO.ite ?_ ?_)
      | (with_reducible refine LeO.bind ?_ (fun _ => ?_))
      | exact ih0 _ _ _
      | exact LeO.none _
      | refine LeO.ite ?_ ?_
      | refine LeO.bind ?_ (fun _ => ?_)
theorem spec_FormatInt.mono : ∀ a0 k, LeO (spec_FormatInt.f k a0) (spec_FormatInt.f (k + 1) a0) := by
  intro a0 k
  have ih0 := spec_FormatInt.mono_l k
  unfold spec_FormatInt.f
  repeat' first
      | (with_reducible exact ih0 _ _ _)
      | (with_reducible exact LeO.refl _)
      | (with_reducible exact LeO.none _)
      | (with_reducible refine LeO.ite ?_ ?_)
      | (with_reducible refine LeO.bind ?_ (fun _ => ?_))
      | exact ih0 _ _ _
      | exact LeO.none _
      | refine LeO.ite ?_ ?_
      | refine LeO.bind ?_ (fun _ => ?_)
set_option maxHeartbeats 8000000 in
set_option maxRecDepth 100000 in
theorem spec_FormatInt.calls (k : Nat) (a0 : Int) (r : ByteArray) (w : World) (h : spec_FormatInt.f k a0 = some r) :
    Calls Tryd.prog 25 #[.int .i64 a0] w fun e w' => e = .returned (.string r) ∧ Below w.heap.size w w' := by
  have HB := Aside0.mk (Below.refl w.heap.size w)
  have H : (if a0 = 0 then (some (⟨#[48]⟩ : ByteArray)) else (spec_FormatInt.l0 k a0 (⟨#[]⟩ : ByteArray) (decide (a0 < 0)))) = some r := h
  clear h
  by_cases c2 : a0 = 0
  · rw [if_pos c2] at H
    have c2b0 : (a0 == 0) = true := beq_iff_eq.mpr c2
    have c2b1 : (a0 != 0) = false := bne_eq_false_iff_eq.mpr c2
    clear c2
    obtain rfl := Option.some.inj H
    go_enter Tryd.func25, Tryd.ntmps25
    go_wp2
    go_ret
    exact ⟨by first | rfl | (refine congrArg Ending.returned (congrArg Value.bool ?_); generalize ByteArray.toList _ = l_; cases l_ <;> rfl) | (simp [errW_none, errW_some] <;> rfl) | (simp [*, errW_none, errW_some] <;> rfl), by repeat (first | (with_reducible first | exact HB.out | apply below_alloc | apply pw_below_drewN | apply below_drew1) | exact HB.out)⟩
  · rw [if_neg c2] at H
    have c2b0 : (a0 == 0) = false := beq_eq_false_iff_ne.mpr c2
    have c2b1 : (a0 != 0) = true := bne_iff_ne.mpr c2
    have H' := Aside0.mk H
    clear H
    go_enter Tryd.func25, Tryd.ntmps25
    go_wp2
    go_loopg [0, 3] k (fun kq v0 v3 w' => ∃ (x0_1 : Int) (x3_1 : ByteArray), v0 = .int .i64 x0_1 ∧ v3 = .string x3_1 ∧ Aside0 (spec_FormatInt.l0 kq x0_1 x3_1 (decide (a0 < 0)) = some r) ∧ Aside0 (kq ≤ k) ∧ Aside0 (Below w.heap.size w w'))
    case atStart => exact ⟨(a0), ((⟨#[]⟩ : ByteArray)), (by first | rfl | (simp; done) | (simp [*]; done)), (by first | rfl | (simp; done) | (simp [*]; done) | (simp [*]; generalize ByteArray.toList _ = l_; cases l_ <;> rfl)), H', ⟨Nat.le_refl _⟩, ⟨by repeat (first | (with_reducible first | exact HB.out | apply below_alloc | apply pw_below_drewN | apply below_drew1) | exact HB.out)⟩⟩
    case round =>
      clear H'
      try clear c2
      try clear c2b0
      try clear c2b1
      try clear p2
      obtain ⟨x0_1, x3_1, rfl, rfl, HA, HK1, HB⟩ := hrel
      cases gk with
      | zero => exact absurd HA.out (by simp [spec_FormatInt.l0])
      | succ k1 =>
        have H := HA.out
        clear HA
        simp only [spec_FormatInt.l0] at H
        by_cases c3 : x0_1 = 0
        · rw [if_pos c3] at H
          have c3b0 : (x0_1 == 0) = true := beq_iff_eq.mpr c3
          have c3b1 : (x0_1 != 0) = false := bne_eq_false_iff_eq.mpr c3
          clear c3
          by_cases c4 : (decide (a0 < 0)) = true
          · rw [if_pos c4] at H
            have c4b0 : (decide (a0 < 0)) = true := c4
            clear c4
            by_cases c5 : 1 + x3_1.size ≤ 9223372036854775807
            · rw [if_pos c5] at H
              have c5b0 := eq_true c5
              have c5b1 : decide (1 + x3_1.size ≤ 9223372036854775807) = true := decide_eq_true c5
              try have c5b2 : (9223372036854775807 < 1 + x3_1.size) = False := eq_false (Nat.not_lt.2 c5)
              obtain rfl := Option.some.inj H
              go_wp2
              (try any_goals (exfalso; first | (have z_ := of_decide_eq_true c4b0; omega) | (have z_ := of_decide_eq_false c4b0; omega)))
              go_ret
              exact ⟨by first | rfl | (refine congrArg Ending.returned (congrArg Value.bool ?_); generalize ByteArray.toList _ = l_; cases l_ <;> rfl) | (simp [errW_none, errW_some] <;> rfl) | (simp [*, errW_none, errW_some] <;> rfl), by repeat (first | (with_reducible first | exact HB.out | apply below_alloc | apply pw_below_drewN | apply below_drew1) | exact HB.out)⟩
            · rw [if_neg c5] at H
              exact absurd H (by simp)
          · rw [if_neg c4] at H
            have c4b0 : (decide (a0 < 0)) = false := by simpa using c4
            clear c4
            obtain rfl := Option.some.inj H
            go_wp2
            (try any_goals (exfalso; first | (have z_ := of_decide_eq_true c4b0; omega) | (have z_ := of_decide_eq_false c4b0; omega)))
            go_ret
            exact ⟨by first | rfl | (refine congrArg Ending.returned (congrArg Value.bool ?_); generalize ByteArray.toList _ = l_; cases l_ <;> rfl) | (simp [errW_none, errW_some] <;> rfl) | (simp [*, errW_none, errW_some] <;> rfl), by repeat (first | (with_reducible first | exact HB.out | apply below_alloc | apply pw_below_drewN | apply below_drew1) | exact HB.out)⟩
        · rw [if_neg c3] at H
          have c3b0 : (x0_1 == 0) = false := beq_eq_false_iff_ne.mpr c3
          have c3b1 : (x0_1 != 0) = true := bne_iff_ne.mpr c3
          by_cases c6 : (Int.tmod x0_1 10) < 0
          · rw [if_pos c6] at H
            have c6b0 : decide ((Int.tmod x0_1 10) < 0) = true := decide_eq_true c6
            clear c6
            obtain ⟨y248, hy248⟩ : ∃ y_ : List Int, y_ = (([(wrap64 (48 + (wrap64 (-(Int.tmod x0_1 10))))) % 256] : List Int)) := ⟨_, rfl⟩
            replace H : (if (strOfNums y248).size + x3_1.size ≤ 9223372036854775807 then (spec_FormatInt.l0 k1 (wrap64 (Int.tdiv x0_1 10)) ((strOfNums y248) ++ x3_1) (decide (a0 < 0))) else (none)) = some r := by first | (rw [hy248]; with_reducible exact H) | (have H2_ := (Option.bind_some _ _).symm.trans H; rw [hy248]; with_reducible exact H2_) | (have H2_ := (Option.bind_some _ _).symm.trans H; with_reducible exact H2_) | with_reducible exact H | (rw [hy248]; exact H) | exact H
            have Ny248 := Aside0.mk hy248
            clear hy248
            by_cases c7 : (strOfNums y248).size + x3_1.size ≤ 9223372036854775807
            · rw [if_pos c7] at H
              have c7b0 := eq_true c7
              have c7b1 : decide ((strOfNums y248).size + x3_1.size ≤ 9223372036854775807) = true := decide_eq_true c7
              try have c7b2 : (9223372036854775807 < (strOfNums y248).size + x3_1.size) = False := eq_false (Nat.not_lt.2 c7)
              have H' := Aside0.mk H
              clear H
              go_wp2_with (first | ((with_reducible refine gate_dst (N := 21) rfl ?_); refine Kd.R_lit (Kd.int .u8) _ 5 ?hg (N := 21) ?hd (xs := ([(wrap64 (48 + (wrap64 (-(Int.tmod x0_1 10))))) % 256] : List Int)) (inner := [.int .u8 ((wrap64 (48 + (wrap64 (-(Int.tmod x0_1 10))))) % 256)]) (ok := fun _ => True) (okp := fun _ => True) ?hr ?hp (fun _ hk => hk) trivial (Below.refl _ _) (Nat.le_refl _) (by simp) ?_; (case hd => rfl); (case hg => rfl); (case hr => first | (go_simp; done) | (go_simp; rfl)); (case hp => exact (Reps.one (show Kd.M (Kd.int .u8) _ _ _ ((wrap64 (48 + (wrap64 (-(Int.tmod x0_1 10))))) % 256) [.int .u8 ((wrap64 (48 + (wrap64 (-(Int.tmod x0_1 10))))) % 256)] from rfl) (Reps.none _ _))); intro v249 w8 ho9 hb hg_ hnew_; clear hg_ hnew_; (first | rw [← Ny248.out] at ho9 | (simp only [Int.reduceToNat] at ho9; rw [← Ny248.out] at ho9)); have n0_ := Aside0.mk (Kd.R_lower ho9 (below_size (by repeat (first | (with_reducible first | exact HB.out | apply below_alloc | apply pw_below_drewN | apply below_drew1) | exact HB.out)))); have n1_ := Aside0.mk (below_step (by repeat (first | (with_reducible first | exact HB.out | apply below_alloc | apply pw_below_drewN | apply below_drew1) | exact HB.out)) hb); clear HB; have HO250 := n0_; have HB := n1_; clear n0_ n1_; clear hb ho9; have hcv10 := own_string (P := Tryd.prog) Tryd.underlying25 Tryd.underlying5 Tryd.underlying9 (Kd.own_of_R HO250.out)))
              go_roundg k1
              case measure => have := HK1.out; omega
              case rel => exact ⟨(wrap64 (Int.tdiv x0_1 10)), ((strOfNums y248) ++ x3_1), (by first | rfl | (simp; done) | (simp [*]; done)), (by first | rfl | (simp; done) | (simp [*]; done) | (simp [*]; generalize ByteArray.toList _ = l_; cases l_ <;> rfl)), H', ⟨by have := HK1.out; omega⟩, ⟨by repeat (first | (with_reducible first | exact HB.out | apply below_alloc | apply pw_below_drewN | apply below_drew1) | exact HB.out)⟩⟩
            · rw [if_neg c7] at H
              exact absurd H (by simp)
          · rw [if_neg c6] at H
            have c6b0 : decide ((Int.tmod x0_1 10) < 0) = false := decide_eq_false c6
            clear c6
            obtain ⟨y251, hy251⟩ : ∃ y_ : List Int, y_ = (([(wrap64 (48 + (Int.tmod x0_1 10))) % 256] : List Int)) := ⟨_, rfl⟩
            replace H : (if (strOfNums y251).size + x3_1.size ≤ 9223372036854775807 then (spec_FormatInt.l0 k1 (wrap64 (Int.tdiv x0_1 10)) ((strOfNums y251) ++ x3_1) (decide (a0 < 0))) else (none)) = some r := by first | (rw [hy251]; with_reducible exact H) | (have H2_ := (Option.bind_some _ _).symm.trans H; rw [hy251]; with_reducible exact H2_) | (have H2_ := (Option.bind_some _ _).symm.trans H; with_reducible exact H2_) | with_reducible exact H | (rw [hy251]; exact H) | exact H
            have Ny251 := Aside0.mk hy251
            clear hy251
            by_cases c11 : (strOfNums y251).size + x3_1.size ≤ 9223372036854775807
            · rw [if_pos c11] at H
              have c11b0 := eq_true c11
              have c11b1 : decide ((strOfNums y251).size + x3_1.size ≤ 9223372036854775807) = true := decide_eq_true c11
              try have c11b2 : (9223372036854775807 < (strOfNums y251).size + x3_1.size) = False := eq_false (Nat.not_lt.2 c11)
              have H' := Aside0.mk H
              clear H
              go_wp2_with (first | ((with_reducible refine gate_dst (N := 21) rfl ?_); refine Kd.R_lit (Kd.int .u8) _ 5 ?hg (N := 21) ?hd (xs := ([(wrap64 (48 + (Int.tmod x0_1 10))) % 256] : List Int)) (inner := [.int .u8 ((wrap64 (48 + (Int.tmod x0_1 10))) % 256)]) (ok := fun _ => True) (okp := fun _ => True) ?hr ?hp (fun _ hk => hk) trivial (Below.refl _ _) (Nat.le_refl _) (by simp) ?_; (case hd => rfl); (case hg => rfl); (case hr => first | (go_simp; done) | (go_simp; rfl)); (case hp => exact (Reps.one (show Kd.M (Kd.int .u8) _ _ _ ((wrap64 (48 + (Int.tmod x0_1 10))) % 256) [.int .u8 ((wrap64 (48 + (Int.tmod x0_1 10))) % 256)] from rfl) (Reps.none _ _))); intro v252 w12 ho13 hb hg_ hnew_; clear hg_ hnew_; (first | rw [← Ny251.out] at ho13 | (simp only [Int.reduceToNat] at ho13; rw [← Ny251.out] at ho13)); have n0_ := Aside0.mk (Kd.R_lower ho13 (below_size (by repeat (first | (with_reducible first | exact HB.out | apply below_alloc | apply pw_below_drewN | apply below_drew1) | exact HB.out)))); have n1_ := Aside0.mk (below_step (by repeat (first | (with_reducible first | exact HB.out | apply below_alloc | apply pw_below_drewN | apply below_drew1) | exact HB.out)) hb); clear HB; have HO253 := n0_; have HB := n1_; clear n0_ n1_; clear hb ho13; have hcv14 := own_string (P := Tryd.prog) Tryd.underlying25 Tryd.underlying5 Tryd.underlying9 (Kd.own_of_R HO253.out)))
              go_roundg k1
              case measure => have := HK1.out; omega
              case rel => exact ⟨(wrap64 (Int.tdiv x0_1 10)), ((strOfNums y251) ++ x3_1), (by first | rfl | (simp; done) | (simp [*]; done)), (by first | rfl | (simp; done) | (simp [*]; done) | (simp [*]; generalize ByteArray.toList _ = l_; cases l_ <;> rfl)), H', ⟨by have := HK1.out; omega⟩, ⟨by repeat (first | (with_reducible first | exact HB.out | apply below_alloc | apply pw_below_drewN | apply below_drew1) | exact HB.out)⟩⟩
            · rw [if_neg c11] at H
              exact absurd H (by simp)

/-! ### spec_l3Policies: function 93 -/
def spec_l3Policies.f  : Option (List ByteArray) := some (([(⟨#[114, 97, 110, 103, 101]⟩ : ByteArray), (⟨#[101, 112, 111, 99, 104]⟩ : ByteArray), (⟨#[115, 116, 101, 97, 109]⟩ : ByteArray)] : List ByteArray))
set_option maxHeartbeats 8000000 in
set_option maxRecDepth 100000 in
theorem spec_l3Policies.calls  (r : List ByteArray) (w : World) (h : spec_l3Policies.f  = some r) :
    Calls Tryd.prog 93 #[] w fun e w' => ∃ v0_ : Value, e = .returned (v0_) ∧ Kd.R Kd.string 9 w' w.heap.size (fun _ => True) v0_ r ∧ Below w.heap.size w w' := by
  have HB := Aside0.mk (Below.refl w.heap.size w)
  have H : (some (([(⟨#[114, 97, 110, 103, 101]⟩ : ByteArray), (⟨#[101, 112, 111, 99, 104]⟩ : ByteArray), (⟨#[115, 116, 101, 97, 109]⟩ : ByteArray)] : List ByteArray))) = some r := h
  clear h
  obtain ⟨y254, hy254⟩ : ∃ y_ : List ByteArray, y_ = (([(⟨#[114, 97, 110, 103, 101]⟩ : ByteArray), (⟨#[101, 112, 111, 99, 104]⟩ : ByteArray), (⟨#[115, 116, 101, 97, 109]⟩ : ByteArray)] : List ByteArray)) := ⟨_, rfl⟩
  replace H : (some y254) = some r := by first | (rw [hy254]; with_reducible exact H) | (have H2_ := (Option.bind_some _ _).symm.trans H; rw [hy254]; with_reducible exact H2_) | (have H2_ := (Option.bind_some _ _).symm.trans H; with_reducible exact H2_) | with_reducible exact H | (rw [hy254]; exact H) | exact H
  have Ny254 := Aside0.mk hy254
  clear hy254
  obtain rfl := Option.some.inj H
  go_enter Tryd.func93, Tryd.ntmps93
  go_wp2_with (first | ((with_reducible refine gate_dst (N := 1) rfl ?_); refine Kd.R_lit Kd.string _ 9 ?hg (N := 1) ?hd (xs := ([(⟨#[114, 97, 110, 103, 101]⟩ : ByteArray), (⟨#[101, 112, 111, 99, 104]⟩ : ByteArray), (⟨#[115, 116, 101, 97, 109]⟩ : ByteArray)] : List ByteArray)) (inner := [.string (⟨#[114, 97, 110, 103, 101]⟩ : ByteArray), .string (⟨#[101, 112, 111, 99, 104]⟩ : ByteArray), .string (⟨#[115, 116, 101, 97, 109]⟩ : ByteArray)]) (ok := fun _ => True) (okp := fun _ => True) ?hr ?hp (fun _ hk => hk) trivial (Below.refl _ _) (Nat.le_refl _) (by simp) ?_; (case hd => rfl); (case hg => rfl); (case hr => first | (go_simp; done) | (go_simp; rfl)); (case hp => exact (Reps.one (show Kd.M Kd.string _ _ _ (⟨#[114, 97, 110, 103, 101]⟩ : ByteArray) [.string (⟨#[114, 97, 110, 103, 101]⟩ : ByteArray)] from rfl) (Reps.one (show Kd.M Kd.string _ _ _ (⟨#[101, 112, 111, 99, 104]⟩ : ByteArray) [.string (⟨#[101, 112, 111, 99, 104]⟩ : ByteArray)] from rfl) (Reps.one (show Kd.M Kd.string _ _ _ (⟨#[115, 116, 101, 97, 109]⟩ : ByteArray) [.string (⟨#[115, 116, 101, 97, 109]⟩ : ByteArray)] from rfl) (Reps.none _ _))))); intro v255 w1 ho2 hb hg_ hnew_; clear hg_ hnew_; (first | rw [← Ny254.out] at ho2 | (simp only [Int.reduceToNat] at ho2; rw [← Ny254.out] at ho2)); have n0_ := Aside0.mk (Kd.R_lower ho2 (below_size (by repeat (first | (with_reducible first | exact HB.out | apply below_alloc | apply pw_below_drewN | apply below_drew1) | exact HB.out)))); have n1_ := Aside0.mk (below_step (by repeat (first | (with_reducible first | exact HB.out | apply below_alloc | apply pw_below_drewN | apply below_drew1) | exact HB.out)) hb); clear HB; have HO256 := n0_; have HB := n1_; clear n0_ n1_; clear hb ho2))
  go_ret
  exact ⟨_, by first | rfl | (refine congrArg Ending.returned (congrArg Value.bool ?_); generalize ByteArray.toList _ = l_; cases l_ <;> rfl) | (simp [errW_none, errW_some] <;> rfl) | (simp [*, errW_none, errW_some] <;> rfl), by (with_reducible repeat (first | apply Kd.R_alloc | apply Kd.R_drewN | apply Kd.R_drew)); exact HO256.out, by repeat (first | (with_reducible first | exact HB.out | apply below_alloc | apply pw_below_drewN | apply below_drew1) | exact HB.out)⟩

/-! ### spec_PolicyName: function 99 -/
def spec_PolicyName.f (a0 : Int) : Option (ByteArray) := (spec_l1In.f a0 0 2).bind fun t257 => (if t257 = true then ((spec_l3Policies.f).bind fun t258 => (if 0 ≤ a0 then (if a0 < (t258.length : Int) then (some (rdOf ByteArray.empty t258 a0)) else (none)) else (none))) else (some (⟨#[]⟩ : ByteArray)))
set_option maxHeartbeats 8000000 in
set_option maxRecDepth 100000 in
theorem spec_PolicyName.calls (a0 : Int) (r : ByteArray) (w : World) (h : spec_PolicyName.f a0 = some r) :
    Calls Tryd.prog 99 #[.int .i64 a0] w fun e w' => e = .returned (.string r) ∧ Below w.heap.size w w' := by
  have HB := Aside0.mk (Below.refl w.heap.size w)
  have H : ((spec_l1In.f a0 0 2).bind fun t257 => (if t257 = true then ((spec_l3Policies.f).bind fun t258 => (if 0 ≤ a0 then (if a0 < (t258.length : Int) then (some (rdOf ByteArray.empty t258 a0)) else (none)) else (none))) else (some (⟨#[]⟩ : ByteArray)))) = some r := h
  clear h
  replace H := Option.bind_eq_some_iff.mp H
  obtain ⟨t257, A20, H⟩ := H
  replace H : (if t257 = true then ((spec_l3Policies.f).bind fun t258 => (if 0 ≤ a0 then (if a0 < (t258.length : Int) then (some (rdOf ByteArray.empty t258 a0)) else (none)) else (none))) else (some (⟨#[]⟩ : ByteArray))) = some r := H
  have A2 := Aside0.mk A20
  clear A20
  by_cases c3 : t257 = true
  · subst c3
    have H1 : ((spec_l3Policies.f).bind fun t258 => (if 0 ≤ a0 then (if a0 < (t258.length : Int) then (some (rdOf ByteArray.empty t258 a0)) else (none)) else (none))) = some r := by rw [if_pos rfl] at H; exact H
    clear H
    have H := H1
    clear H1
    replace H := Option.bind_eq_some_iff.mp H
    obtain ⟨t258, A40, H⟩ := H
    replace H : (if 0 ≤ a0 then (if a0 < (t258.length : Int) then (some (rdOf ByteArray.empty t258 a0)) else (none)) else (none)) = some r := H
    have A4 := Aside0.mk A40
    clear A40
    by_cases c5 : 0 ≤ a0
    · rw [if_pos c5] at H
      have c5b0 : decide (0 ≤ a0) = true := decide_eq_true c5
      clear c5
      by_cases c6 : a0 < (t258.length : Int)
      · rw [if_pos c6] at H
        have c6b0 : decide (a0 < (t258.length : Int)) = true := decide_eq_true c6
        clear c6
        obtain rfl := Option.some.inj H
        go_enter Tryd.func99, Tryd.ntmps99
        go_wp2_with (first | ((with_reducible refine gate_callee (f := 75) rfl ?_); refine goesL_ (some 4) rfl rfl Tryd.func75 (by kernel_rfl) rfl #[.int .i64 a0, .int .i64 0, .int .i64 2] rfl (by (try simp only [List.map_toArray, List.map_cons, List.map_nil]); first | done | rfl | (simp only [List.length_drop, List.length_take]; rfl)) ?_; (with_reducible refine (spec_l1In.calls a0 0 2 true _ A2.out).mono ?_); rintro e w' ⟨rfl, ⟨nd, rfl⟩⟩; refine ⟨_, rfl, ?_⟩) | ((with_reducible refine gate_callee (f := 93) rfl ?_); refine goesL_ (some 6) rfl rfl Tryd.func93 (by kernel_rfl) rfl #[] rfl (by (try simp only [List.map_toArray, List.map_cons, List.map_nil]); first | done | rfl | (simp only [List.length_drop, List.length_take]; rfl)) ?_; (with_reducible refine (spec_l3Policies.calls  t258 _ A4.out).mono ?_); rintro e w7 ⟨v259, rfl, ho0, hb⟩; refine ⟨_, rfl, ?_⟩; have n0_ := Aside0.mk (Kd.R_lower ho0 (below_size (by repeat (first | (with_reducible first | exact HB.out | apply below_alloc | apply pw_below_drewN | apply below_drew1) | exact HB.out)))); have n1_ := Aside0.mk (below_step (by repeat (first | (with_reducible first | exact HB.out | apply below_alloc | apply pw_below_drewN | apply below_drew1) | exact HB.out)) hb); clear HB; have HO260 := n0_; have HB := n1_; clear n0_ n1_; (try clear hb); (try clear hb2); (try clear hk); (try clear hi); (try clear ho0); obtain ⟨Ao8, co8, eo8⟩ := Kd.R_slice HO260.out; subst eo8; have p261 : 0 ≤ (a0 : Int) := of_decide_eq_true (by first | (with_reducible assumption) | assumption); have q261 : a0 < (t258.length : Int) := of_decide_eq_true (by first | (with_reducible assumption) | assumption); obtain ⟨ad261, e261, hx261_0⟩ := Kd.at_string (Kd.R_reads' HO260.out).2.2 a0 p261 q261; cases e261; replace p261 := eq_true p261; replace q261 := eq_true q261))
        go_ret
        exact ⟨by first | rfl | (refine congrArg Ending.returned (congrArg Value.bool ?_); generalize ByteArray.toList _ = l_; cases l_ <;> rfl) | (simp [errW_none, errW_some] <;> rfl) | (simp [*, errW_none, errW_some] <;> rfl), by repeat (first | (with_reducible first | exact HB.out | apply below_alloc | apply pw_below_drewN | apply below_drew1) | exact HB.out)⟩
      · rw [if_neg c6] at H
        exact absurd H (by simp)
    · rw [if_neg c5] at H
      exact absurd H (by simp)
  · replace c3 := Bool.eq_false_iff.mpr c3
    subst c3
    have H1 : (some (⟨#[]⟩ : ByteArray)) = some r := by rw [if_neg (show ¬ (false = true) by decide)] at H; exact H
    clear H
    have H := H1
    clear H1
    obtain rfl := Option.some.inj H
    go_enter Tryd.func99, Tryd.ntmps99
    go_wp2_with (first | ((with_reducible refine gate_callee (f := 75) rfl ?_); refine goesL_ (some 4) rfl rfl Tryd.func75 (by kernel_rfl) rfl #[.int .i64 a0, .int .i64 0, .int .i64 2] rfl (by (try simp only [List.map_toArray, List.map_cons, List.map_nil]); first | done | rfl | (simp only [List.length_drop, List.length_take]; rfl)) ?_; (with_reducible refine (spec_l1In.calls a0 0 2 false _ A2.out).mono ?_); rintro e w' ⟨rfl, ⟨nd, rfl⟩⟩; refine ⟨_, rfl, ?_⟩))
    go_ret
    exact ⟨by first | rfl | (refine congrArg Ending.returned (congrArg Value.bool ?_); generalize ByteArray.toList _ = l_; cases l_ <;> rfl) | (simp [errW_none, errW_some] <;> rfl) | (simp [*, errW_none, errW_some] <;> rfl), by repeat (first | (with_reducible first | exact HB.out | apply below_alloc | apply pw_below_drewN | apply below_drew1) | exact HB.out)⟩

/-! ### spec_FormatConfig: function 58 -/
def spec_FormatConfig.f (k : Nat) (a0_0 : Int) (a0_1 : Int) (a0_2 : Int) (a0_3 : Int) (a0_4 : Int) (a0_5 : Int) : Option (ByteArray) := (spec_IsConfig.f a0_0 a0_1 a0_2 a0_3 a0_4 a0_5).bind fun t263 => (if t263 = true then ((spec_PolicyName.f a0_4).bind fun t264 => (if t264.size + 9 ≤ 9223372036854775807 then ((spec_FormatInt.f k a0_0).bind fun t265 => (if (t264 ++ (⟨#[32, 116, 104, 114, 101, 97, 100, 115, 32]⟩ : ByteArray)).size + t265.size ≤ 9223372036854775807 then (if ((t264 ++ (⟨#[32, 116, 104, 114, 101, 97, 100, 115, 32]⟩ : ByteArray)) ++ t265).size + 6 ≤ 9223372036854775807 then ((spec_FormatInt.f k a0_1).bind fun t266 => (if (((t264 ++ (⟨#[32, 116, 104, 114, 101, 97, 100, 115, 32]⟩ : ByteArray)) ++ t265) ++ (⟨#[32, 107, 101, 121, 115, 32]⟩ : ByteArray)).size + t266.size ≤ 9223372036854775807 then (if ((((t264 ++ (⟨#[32, 116, 104, 114, 101, 97, 100, 115, 32]⟩ : ByteArray)) ++ t265) ++ (⟨#[32, 107, 101, 121, 115, 32]⟩ : ByteArray)) ++ t266).size + 10 ≤ 9223372036854775807 then ((spec_FormatInt.f k a0_2).bind fun t267 => (if (((((t264 ++ (⟨#[32, 116, 104, 114, 101, 97, 100, 115, 32]⟩ : ByteArray)) ++ t265) ++ (⟨#[32, 107, 101, 121, 115, 32]⟩ : ByteArray)) ++ t266) ++ (⟨#[32, 99, 97, 112, 97, 99, 105, 116, 121, 32]⟩ : ByteArray)).size + t267.size ≤ 9223372036854775807 then (if ((((((t264 ++ (⟨#[32, 116, 104, 114, 101, 97, 100, 115, 32]⟩ : ByteArray)) ++ t265) ++ (⟨#[32, 107, 101, 121, 115, 32]⟩ : ByteArray)) ++ t266) ++ (⟨#[32, 99, 97, 112, 97, 99, 105, 116, 121, 32]⟩ : ByteArray)) ++ t267).size + 7 ≤ 9223372036854775807 then ((spec_FormatInt.f k a0_3).bind fun t268 => (if (((((((t264 ++ (⟨#[32, 116, 104, 114, 101, 97, 100, 115, 32]⟩ : ByteArray)) ++ t265) ++ (⟨#[32, 107, 101, 121, 115, 32]⟩ : ByteArray)) ++ t266) ++ (⟨#[32, 99, 97, 112, 97, 99, 105, 116, 121, 32]⟩ : ByteArray)) ++ t267) ++ (⟨#[32, 98, 97, 116, 99, 104, 32]⟩ : ByteArray)).size + t268.size ≤ 9223372036854775807 then (if ((((((((t264 ++ (⟨#[32, 116, 104, 114, 101, 97, 100, 115, 32]⟩ : ByteArray)) ++ t265) ++ (⟨#[32, 107, 101, 121, 115, 32]⟩ : ByteArray)) ++ t266) ++ (⟨#[32, 99, 97, 112, 97, 99, 105, 116, 121, 32]⟩ : ByteArray)) ++ t267) ++ (⟨#[32, 98, 97, 116, 99, 104, 32]⟩ : ByteArray)) ++ t268).size + 7 ≤ 9223372036854775807 then ((spec_FormatInt.f k a0_5).bind fun t269 => (if (((((((((t264 ++ (⟨#[32, 116, 104, 114, 101, 97, 100, 115, 32]⟩ : ByteArray)) ++ t265) ++ (⟨#[32, 107, 101, 121, 115, 32]⟩ : ByteArray)) ++ t266) ++ (⟨#[32, 99, 97, 112, 97, 99, 105, 116, 121, 32]⟩ : ByteArray)) ++ t267) ++ (⟨#[32, 98, 97, 116, 99, 104, 32]⟩ : ByteArray)) ++ t268) ++ (⟨#[32, 99, 108, 111, 99, 107, 32]⟩ : ByteArray)).size + t269.size ≤ 9223372036854775807 then (some ((((((((((t264 ++ (⟨#[32, 116, 104, 114, 101, 97, 100, 115, 32]⟩ : ByteArray)) ++ t265) ++ (⟨#[32, 107, 101, 121, 115, 32]⟩ : ByteArray)) ++ t266) ++ (⟨#[32, 99, 97, 112, 97, 99, 105, 116, 121, 32]⟩ : ByteArray)) ++ t267) ++ (⟨#[32, 98, 97, 116, 99, 104, 32]⟩ : ByteArray)) ++ t268) ++ (⟨#[32, 99, 108, 111, 99, 107, 32]⟩ : ByteArray)) ++ t269)) else (none))) else (none)) else (none))) else (none)) else (none))) else (none)) else (none))) else (none)) else (none))) else (none))) else (some (⟨#[]⟩ : ByteArray)))
theorem spec_FormatConfig.mono : ∀ a0 a1 a2 a3 a4 a5 k, LeO (spec_FormatConfig.f k a0 a1 a2 a3 a4 a5) (spec_FormatConfig.f (k + 1) a0 a1 a2 a3 a4 a5) := by
  intro a0 a1 a2 a3 a4 a5 k
  unfold spec_FormatConfig.f
  repeat' first
      | (with_reducible exact spec_FormatInt.mono _ _)
      | (with_reducible exact LeO.refl _)
      | (with_reducible exact LeO.none _)
      | (with_reducible refine LeO.ite ?_ ?_)
      | (with_reducible refine LeO.bind ?_ (fun _ => ?_))
      | exact spec_FormatInt.mono _ _
      | exact LeO.none _
      | refine LeO.ite ?_ ?_
      | refine LeO.bind ?_ (fun _ => ?_)
def spec_FormatConfig.T3 : Bool × List (List Nat × List Nat) := (true, [([], []), ([0], [0]), ([1], [1]), ([2], [2]), ([], []), ([4], [4]), ([5, 2], [5]), ([3, 6], [3, 6]), ([7], [7]), ([], []), ([9], [9]), ([10, 6], [10]), ([8, 11], [8, 11]), ([12], [12]), ([], []), ([14], [14]), ([15, 11], [15]), ([13, 16], [13, 16]), ([17], [17]), ([], []), ([19], [19]), ([20, 16], [20]), ([18, 21], [18, 21]), ([22], [22]), ([], []), ([24], [24]), ([25, 21], [25]), ([23, 26], [23, 26]), ([27, 26, 0, 1, 2, 3, 4, 5, 6, 7, 8, 9, 10, 11, 12, 13, 14, 15, 16, 17, 18, 19, 20, 21, 22, 23, 24, 25, 26, 27], [27])])
def spec_FormatConfig.B3 : List Nat := [0, 1, 3, 7, 0, 16, 55, 127, 255, 0, 512, 1655, 4095, 8191, 0, 16384, 52855, 131071, 262143, 0, 524288, 1691255, 4194303, 8388607, 0, 16777216, 54120055, 134217727, 268435455]
theorem spec_FormatConfig.tab3 : rtab .any (opsOf Tryd.f58 3) = spec_FormatConfig.T3 := by kernel_rfl
theorem spec_FormatConfig.bits3 : waitsOk spec_FormatConfig.T3.2 spec_FormatConfig.B3 = true := by kernel_rfl
set_option maxHeartbeats 8000000 in
set_option maxRecDepth 100000 in
theorem spec_FormatConfig.calls (k : Nat) (a0_0 : Int) (a0_1 : Int) (a0_2 : Int) (a0_3 : Int) (a0_4 : Int) (a0_5 : Int) (r : ByteArray) (w : World) (h : spec_FormatConfig.f k a0_0 a0_1 a0_2 a0_3 a0_4 a0_5 = some r) :
    Calls Tryd.prog 58 #[.agg #[.int .i64 a0_0, .int .i64 a0_1, .int .i64 a0_2, .int .i64 a0_3, .int .i64 a0_4, .int .i64 a0_5]] w fun e w' => e = .returned (.string r) ∧ Below w.heap.size w w' := by
  have hu47 := Tryd.underlying47
  have HB := Aside0.mk (Below.refl w.heap.size w)
  have H : ((spec_IsConfig.f a0_0 a0_1 a0_2 a0_3 a0_4 a0_5).bind fun t263 => (if t263 = true then ((spec_PolicyName.f a0_4).bind fun t264 => (if t264.size + 9 ≤ 9223372036854775807 then ((spec_FormatInt.f k a0_0).bind fun t265 => (if (t264 ++ (⟨#[32, 116, 104, 114, 101, 97, 100, 115, 32]⟩ : ByteArray)).size + t265.size ≤ 9223372036854775807 then (if ((t264 ++ (⟨#[32, 116, 104, 114, 101, 97, 100, 115, 32]⟩ : ByteArray)) ++ t265).size + 6 ≤ 9223372036854775807 then ((spec_FormatInt.f k a0_1).bind fun t266 => (if (((t264 ++ (⟨#[32, 116, 104, 114, 101, 97, 100, 115, 32]⟩ : ByteArray)) ++ t265) ++ (⟨#[32, 107, 101, 121, 115, 32]⟩ : ByteArray)).size + t266.size ≤ 9223372036854775807 then (if ((((t264 ++ (⟨#[32, 116, 104, 114, 101, 97, 100, 115, 32]⟩ : ByteArray)) ++ t265) ++ (⟨#[32, 107, 101, 121, 115, 32]⟩ : ByteArray)) ++ t266).size + 10 ≤ 9223372036854775807 then ((spec_FormatInt.f k a0_2).bind fun t267 => (if (((((t264 ++ (⟨#[32, 116, 104, 114, 101, 97, 100, 115, 32]⟩ : ByteArray)) ++ t265) ++ (⟨#[32, 107, 101, 121, 115, 32]⟩ : ByteArray)) ++ t266) ++ (⟨#[32, 99, 97, 112, 97, 99, 105, 116, 121, 32]⟩ : ByteArray)).size + t267.size ≤ 9223372036854775807 then (if ((((((t264 ++ (⟨#[32, 116, 104, 114, 101, 97, 100, 115, 32]⟩ : ByteArray)) ++ t265) ++ (⟨#[32, 107, 101, 121, 115, 32]⟩ : ByteArray)) ++ t266) ++ (⟨#[32, 99, 97, 112, 97, 99, 105, 116, 121, 32]⟩ : ByteArray)) ++ t267).size + 7 ≤ 9223372036854775807 then ((spec_FormatInt.f k a0_3).bind fun t268 => (if (((((((t264 ++ (⟨#[32, 116, 104, 114, 101, 97, 100, 115, 32]⟩ : ByteArray)) ++ t265) ++ (⟨#[32, 107, 101, 121, 115, 32]⟩ : ByteArray)) ++ t266) ++ (⟨#[32, 99, 97, 112, 97, 99, 105, 116, 121, 32]⟩ : ByteArray)) ++ t267) ++ (⟨#[32, 98, 97, 116, 99, 104, 32]⟩ : ByteArray)).size + t268.size ≤ 9223372036854775807 then (if ((((((((t264 ++ (⟨#[32, 116, 104, 114, 101, 97, 100, 115, 32]⟩ : ByteArray)) ++ t265) ++ (⟨#[32, 107, 101, 121, 115, 32]⟩ : ByteArray)) ++ t266) ++ (⟨#[32, 99, 97, 112, 97, 99, 105, 116, 121, 32]⟩ : ByteArray)) ++ t267) ++ (⟨#[32, 98, 97, 116, 99, 104, 32]⟩ : ByteArray)) ++ t268).size + 7 ≤ 9223372036854775807 then ((spec_FormatInt.f k a0_5).bind fun t269 => (if (((((((((t264 ++ (⟨#[32, 116, 104, 114, 101, 97, 100, 115, 32]⟩ : ByteArray)) ++ t265) ++ (⟨#[32, 107, 101, 121, 115, 32]⟩ : ByteArray)) ++ t266) ++ (⟨#[32, 99, 97, 112, 97, 99, 105, 116, 121, 32]⟩ : ByteArray)) ++ t267) ++ (⟨#[32, 98, 97, 116, 99, 104, 32]⟩ : ByteArray)) ++ t268) ++ (⟨#[32, 99, 108, 111, 99, 107, 32]⟩ : ByteArray)).size + t269.size ≤ 9223372036854775807 then (some ((((((((((t264 ++ (⟨#[32, 116, 104, 114, 101, 97, 100, 115, 32]⟩ : ByteArray)) ++ t265) ++ (⟨#[32, 107, 101, 121, 115, 32]⟩ : ByteArray)) ++ t266) ++ (⟨#[32, 99, 97, 112, 97, 99, 105, 116, 121, 32]⟩ : ByteArray)) ++ t267) ++ (⟨#[32, 98, 97, 116, 99, 104, 32]⟩ : ByteArray)) ++ t268) ++ (⟨#[32, 99, 108, 111, 99, 107, 32]⟩ : ByteArray)) ++ t269)) else (none))) else (none)) else (none))) else (none)) else (none))) else (none)) else (none))) else (none)) else (none))) else (none))) else (some (⟨#[]⟩ : ByteArray)))) = some r := h
  clear h
  replace H := Option.bind_eq_some_iff.mp H
  obtain ⟨t263, A20, H⟩ := H
  replace H : (if t263 = true then ((spec_PolicyName.f a0_4).bind fun t264 => (if t264.size + 9 ≤ 9223372036854775807 then ((spec_FormatInt.f k a0_0).bind fun t265 => (if (t264 ++ (⟨#[32, 116, 104, 114, 101, 97, 100, 115, 32]⟩ : ByteArray)).size + t265.size ≤ 9223372036854775807 then (if ((t264 ++ (⟨#[32, 116, 104, 114, 101, 97, 100, 115, 32]⟩ : ByteArray)) ++ t265).size + 6 ≤ 9223372036854775807 then ((spec_FormatInt.f k a0_1).bind fun t266 => (if (((t264 ++ (⟨#[32, 116, 104, 114, 101, 97, 100, 115, 32]⟩ : ByteArray)) ++ t265) ++ (⟨#[32, 107, 101, 121, 115, 32]⟩ : ByteArray)).size + t266.size ≤ 9223372036854775807 then (if ((((t264 ++ (⟨#[32, 116, 104, 114, 101, 97, 100, 115, 32]⟩ : ByteArray)) ++ t265) ++ (⟨#[32, 107, 101, 121, 115, 32]⟩ : ByteArray)) ++ t266).size + 10 ≤ 9223372036854775807 then ((spec_FormatInt.f k a0_2).bind fun t267 => (if (((((t264 ++ (⟨#[32, 116, 104, 114, 101, 97, 100, 115, 32]⟩ : ByteArray)) ++ t265) ++ (⟨#[32, 107, 101, 121, 115, 32]⟩ : ByteArray)) ++ t266) ++ (⟨#[32, 99, 97, 112, 97, 99, 105, 116, 121, 32]⟩ : ByteArray)).size + t267.size ≤ 9223372036854775807 then (if ((((((t264 ++ (⟨#[32, 116, 104, 114, 101, 97, 100, 115, 32]⟩ : ByteArray)) ++ t265) ++ (⟨#[32, 107, 101, 121, 115, 32]⟩ : ByteArray)) ++ t266) ++ (⟨#[32, 99, 97, 112, 97, 99, 105, 116, 121, 32]⟩ : ByteArray)) ++ t267).size + 7 ≤ 9223372036854775807 then ((spec_FormatInt.f k a0_3).bind fun t268 => (if (((((((t264 ++ (⟨#[32, 116, 104, 114, 101, 97, 100, 115, 32]⟩ : ByteArray)) ++ t265) ++ (⟨#[32, 107, 101, 121, 115, 32]⟩ : ByteArray)) ++ t266) ++ (⟨#[32, 99, 97, 112, 97, 99, 105, 116, 121, 32]⟩ : ByteArray)) ++ t267) ++ (⟨#[32, 98, 97, 116, 99, 104, 32]⟩ : ByteArray)).size + t268.size ≤ 9223372036854775807 then (if ((((((((t264 ++ (⟨#[32, 116, 104, 114, 101, 97, 100, 115, 32]⟩ : ByteArray)) ++ t265) ++ (⟨#[32, 107, 101, 121, 115, 32]⟩ : ByteArray)) ++ t266) ++ (⟨#[32, 99, 97, 112, 97, 99, 105, 116, 121, 32]⟩ : ByteArray)) ++ t267) ++ (⟨#[32, 98, 97, 116, 99, 104, 32]⟩ : ByteArray)) ++ t268).size + 7 ≤ 9223372036854775807 then ((spec_FormatInt.f k a0_5).bind fun t269 => (if (((((((((t264 ++ (⟨#[32, 116, 104, 114, 101, 97, 100, 115, 32]⟩ : ByteArray)) ++ t265) ++ (⟨#[32, 107, 101, 121, 115, 32]⟩ : ByteArray)) ++ t266) ++ (⟨#[32, 99, 97, 112, 97, 99, 105, 116, 121, 32]⟩ : ByteArray)) ++ t267) ++ (⟨#[32, 98, 97, 116, 99, 104, 32]⟩ : ByteArray)) ++ t268) ++ (⟨#[32, 99, 108, 111, 99, 107, 32]⟩ : ByteArray)).size + t269.size ≤ 9223372036854775807 then (some ((((((((((t264 ++ (⟨#[32, 116, 104, 114, 101, 97, 100, 115, 32]⟩ : ByteArray)) ++ t265) ++ (⟨#[32, 107, 101, 121, 115, 32]⟩ : ByteArray)) ++ t266) ++ (⟨#[32, 99, 97, 112, 97, 99, 105, 116, 121, 32]⟩ : ByteArray)) ++ t267) ++ (⟨#[32, 98, 97, 116, 99, 104, 32]⟩ : ByteArray)) ++ t268) ++ (⟨#[32, 99, 108, 111, 99, 107, 32]⟩ : ByteArray)) ++ t269)) else (none))) else (none)) else (none))) else (none)) else (none))) else (none)) else (none))) else (none)) else (none))) else (none))) else (some (⟨#[]⟩ : ByteArray))) = some r := H
  have A2 := Aside0.mk A20
  clear A20
  by_cases c3 : t263 = true
  · subst c3
    have H1 : ((spec_PolicyName.f a0_4).bind fun t264 => (if t264.size + 9 ≤ 9223372036854775807 then ((spec_FormatInt.f k a0_0).bind fun t265 => (if (t264 ++ (⟨#[32, 116, 104, 114, 101, 97, 100, 115, 32]⟩ : ByteArray)).size + t265.size ≤ 9223372036854775807 then (if ((t264 ++ (⟨#[32, 116, 104, 114, 101, 97, 100, 115, 32]⟩ : ByteArray)) ++ t265).size + 6 ≤ 9223372036854775807 then ((spec_FormatInt.f k a0_1).bind fun t266 => (if (((t264 ++ (⟨#[32, 116, 104, 114, 101, 97, 100, 115, 32]⟩ : ByteArray)) ++ t265) ++ (⟨#[32, 107, 101, 121, 115, 32]⟩ : ByteArray)).size + t266.size ≤ 9223372036854775807 then (if ((((t264 ++ (⟨#[32, 116, 104, 114, 101, 97, 100, 115, 32]⟩ : ByteArray)) ++ t265) ++ (⟨#[32, 107, 101, 121, 115, 32]⟩ : ByteArray)) ++ t266).size + 10 ≤ 9223372036854775807 then ((spec_FormatInt.f k a0_2).bind fun t267 => (if (((((t264 ++ (⟨#[32, 116, 104, 114, 101, 97, 100, 115, 32]⟩ : ByteArray)) ++ t265) ++ (⟨#[32, 107, 101, 121, 115, 32]⟩ : ByteArray)) ++ t266) ++ (⟨#[32, 99, 97, 112, 97, 99, 105, 116, 121, 32]⟩ : ByteArray)).size + t267.size ≤ 9223372036854775807 then (if ((((((t264 ++ (⟨#[32, 116, 104, 114, 101, 97, 100, 115, 32]⟩ : ByteArray)) ++ t265) ++ (⟨#[32, 107, 101, 121, 115, 32]⟩ : ByteArray)) ++ t266) ++ (⟨#[32, 99, 97, 112, 97, 99, 105, 116, 121, 32]⟩ : ByteArray)) ++ t267).size + 7 ≤ 9223372036854775807 then ((spec_FormatInt.f k a0_3).bind fun t268 => (if (((((((t264 ++ (⟨#[32, 116, 104, 114, 101, 97, 100, 115, 32]⟩ : ByteArray)) ++ t265) ++ (⟨#[32, 107, 101, 121, 115, 32]⟩ : ByteArray)) ++ t266) ++ (⟨#[32, 99, 97, 112, 97, 99, 105, 116, 121, 32]⟩ : ByteArray)) ++ t267) ++ (⟨#[32, 98, 97, 116, 99, 104, 32]⟩ : ByteArray)).size + t268.size ≤ 9223372036854775807 then (if ((((((((t264 ++ (⟨#[32, 116, 104, 114, 101, 97, 100, 115, 32]⟩ : ByteArray)) ++ t265) ++ (⟨#[32, 107, 101, 121, 115, 32]⟩ : ByteArray)) ++ t266) ++ (⟨#[32, 99, 97, 112, 97, 99, 105, 116, 121, 32]⟩ : ByteArray)) ++ t267) ++ (⟨#[32, 98, 97, 116, 99, 104, 32]⟩ : ByteArray)) ++ t268).size + 7 ≤ 9223372036854775807 then ((spec_FormatInt.f k a0_5).bind fun t269 => (if (((((((((t264 ++ (⟨#[32, 116, 104, 114, 101, 97, 100, 115, 32]⟩ : ByteArray)) ++ t265) ++ (⟨#[32, 107, 101, 121, 115, 32]⟩ : ByteArray)) ++ t266) ++ (⟨#[32, 99, 97, 112, 97, 99, 105, 116, 121, 32]⟩ : ByteArray)) ++ t267) ++ (⟨#[32, 98, 97, 116, 99, 104, 32]⟩ : ByteArray)) ++ t268) ++ (⟨#[32, 99, 108, 111, 99, 107, 32]⟩ : ByteArray)).size + t269.size ≤ 9223372036854775807 then (some ((((((((((t264 ++ (⟨#[32, 116, 104, 114, 101, 97, 100, 115, 32]⟩ : ByteArray)) ++ t265) ++ (⟨#[32, 107, 101, 121, 115, 32]⟩ : ByteArray)) ++ t266) ++ (⟨#[32, 99, 97, 112, 97, 99, 105, 116, 121, 32]⟩ : ByteArray)) ++ t267) ++ (⟨#[32, 98, 97, 116, 99, 104, 32]⟩ : ByteArray)) ++ t268) ++ (⟨#[32, 99, 108, 111, 99, 107, 32]⟩ : ByteArray)) ++ t269)) else (none))) else (none)) else (none))) else (none)) else (none))) else (none)) else (none))) else (none)) else (none))) else (none))) = some r := by rw [if_pos rfl] at H; exact H
    clear H
    have H := H1
    clear H1
    replace H := Option.bind_eq_some_iff.mp H
    obtain ⟨t264, A40, H⟩ := H
    replace H : (if t264.size + 9 ≤ 9223372036854775807 then ((spec_FormatInt.f k a0_0).bind fun t265 => (if (t264 ++ (⟨#[32, 116, 104, 114, 101, 97, 100, 115, 32]⟩ : ByteArray)).size + t265.size ≤ 9223372036854775807 then (if ((t264 ++ (⟨#[32, 116, 104, 114, 101, 97, 100, 115, 32]⟩ : ByteArray)) ++ t265).size + 6 ≤ 9223372036854775807 then ((spec_FormatInt.f k a0_1).bind fun t266 => (if (((t264 ++ (⟨#[32, 116, 104, 114, 101, 97, 100, 115, 32]⟩ : ByteArray)) ++ t265) ++ (⟨#[32, 107, 101, 121, 115, 32]⟩ : ByteArray)).size + t266.size ≤ 9223372036854775807 then (if ((((t264 ++ (⟨#[32, 116, 104, 114, 101, 97, 100, 115, 32]⟩ : ByteArray)) ++ t265) ++ (⟨#[32, 107, 101, 121, 115, 32]⟩ : ByteArray)) ++ t266).size + 10 ≤ 9223372036854775807 then ((spec_FormatInt.f k a0_2).bind fun t267 => (if (((((t264 ++ (⟨#[32, 116, 104, 114, 101, 97, 100, 115, 32]⟩ : ByteArray)) ++ t265) ++ (⟨#[32, 107, 101, 121, 115, 32]⟩ : ByteArray)) ++ t266) ++ (⟨#[32, 99, 97, 112, 97, 99, 105, 116, 121, 32]⟩ : ByteArray)).size + t267.size ≤ 9223372036854775807 then (if ((((((t264 ++ (⟨#[32, 116, 104, 114, 101, 97, 100, 115, 32]⟩ : ByteArray)) ++ t265) ++ (⟨#[32, 107, 101, 121, 115, 32]⟩ : ByteArray)) ++ t266) ++ (⟨#[32, 99, 97, 112, 97, 99, 105, 116, 121, 32]⟩ : ByteArray)) ++ t267).size + 7 ≤ 9223372036854775807 then ((spec_FormatInt.f k a0_3).bind fun t268 => (if (((((((t264 ++ (⟨#[32, 116, 104, 114, 101, 97, 100, 115, 32]⟩ : ByteArray)) ++ t265) ++ (⟨#[32, 107, 101, 121, 115, 32]⟩ : ByteArray)) ++ t266) ++ (⟨#[32, 99, 97, 112, 97, 99, 105, 116, 121, 32]⟩ : ByteArray)) ++ t267) ++ (⟨#[32, 98, 97, 116, 99, 104, 32]⟩ : ByteArray)).size + t268.size ≤ 9223372036854775807 then (if ((((((((t264 ++ (⟨#[32, 116, 104, 114, 101, 97, 100, 115, 32]⟩ : ByteArray)) ++ t265) ++ (⟨#[32, 107, 101, 121, 115, 32]⟩ : ByteArray)) ++ t266) ++ (⟨#[32, 99, 97, 112, 97, 99, 105, 116, 121, 32]⟩ : ByteArray)) ++ t267) ++ (⟨#[32, 98, 97, 116, 99, 104, 32]⟩ : ByteArray)) ++ t268).size + 7 ≤ 9223372036854775807 then ((spec_FormatInt.f k a0_5).bind fun t269 => (if (((((((((t264 ++ (⟨#[32, 116, 104, 114, 101, 97, 100, 115, 32]⟩ : ByteArray)) ++ t265) ++ (⟨#[32, 107, 101, 121, 115, 32]⟩ : ByteArray)) ++ t266) ++ (⟨#[32, 99, 97, 112, 97, 99, 105, 116, 121, 32]⟩ : ByteArray)) ++ t267) ++ (⟨#[32, 98, 97, 116, 99, 104, 32]⟩ : ByteArray)) ++ t268) ++ (⟨#[32, 99, 108, 111, 99, 107, 32]⟩ : ByteArray)).size + t269.size ≤ 9223372036854775807 then (some ((((((((((t264 ++ (⟨#[32, 116, 104, 114, 101, 97, 100, 115, 32]⟩ : ByteArray)) ++ t265) ++ (⟨#[32, 107, 101, 121, 115, 32]⟩ : ByteArray)) ++ t266) ++ (⟨#[32, 99, 97, 112, 97, 99, 105, 116, 121, 32]⟩ : ByteArray)) ++ t267) ++ (⟨#[32, 98, 97, 116, 99, 104, 32]⟩ : ByteArray)) ++ t268) ++ (⟨#[32, 99, 108, 111, 99, 107, 32]⟩ : ByteArray)) ++ t269)) else (none))) else (none)) else (none))) else (none)) else (none))) else (none)) else (none))) else (none)) else (none))) else (none)) = some r := H
    have A4 := Aside0.mk A40
    clear A40
    by_cases c5 : t264.size + 9 ≤ 9223372036854775807
    · rw [if_pos c5] at H
      have c5b0 := eq_true c5
      have c5b1 : decide (t264.size + 9 ≤ 9223372036854775807) = true := decide_eq_true c5
      try have c5b2 : (9223372036854775807 < t264.size + 9) = False := eq_false (Nat.not_lt.2 c5)
      replace H := Option.bind_eq_some_iff.mp H
      obtain ⟨t265, A60, H⟩ := H
      replace H : (if (t264 ++ (⟨#[32, 116, 104, 114, 101, 97, 100, 115, 32]⟩ : ByteArray)).size + t265.size ≤ 9223372036854775807 then (if ((t264 ++ (⟨#[32, 116, 104, 114, 101, 97, 100, 115, 32]⟩ : ByteArray)) ++ t265).size + 6 ≤ 9223372036854775807 then ((spec_FormatInt.f k a0_1).bind fun t266 => (if (((t264 ++ (⟨#[32, 116, 104, 114, 101, 97, 100, 115, 32]⟩ : ByteArray)) ++ t265) ++ (⟨#[32, 107, 101, 121, 115, 32]⟩ : ByteArray)).size + t266.size ≤ 9223372036854775807 then (if ((((t264 ++ (⟨#[32, 116, 104, 114, 101, 97, 100, 115, 32]⟩ : ByteArray)) ++ t265) ++ (⟨#[32, 107, 101, 121, 115, 32]⟩ : ByteArray)) ++ t266).size + 10 ≤ 9223372036854775807 then ((spec_FormatInt.f k a0_2).bind fun t267 => (if (((((t264 ++ (⟨#[32, 116, 104, 114, 101, 97, 100, 115, 32]⟩ : ByteArray)) ++ t265) ++ (⟨#[32, 107, 101, 121, 115, 32]⟩ : ByteArray)) ++ t266) ++ (⟨#[32, 99, 97, 112, 97, 99, 105, 116, 121, 32]⟩ : ByteArray)).size + t267.size ≤ 9223372036854775807 then (if ((((((t264 ++ (⟨#[32, 116, 104, 114, 101, 97, 100, 115, 32]⟩ : ByteArray)) ++ t265) ++ (⟨#[32, 107, 101, 121, 115, 32]⟩ : ByteArray)) ++ t266) ++ (⟨#[32, 99, 97, 112, 97, 99, 105, 116, 121, 32]⟩ : ByteArray)) ++ t267).size + 7 ≤ 9223372036854775807 then ((spec_FormatInt.f k a0_3).bind fun t268 => (if (((((((t264 ++ (⟨#[32, 116, 104, 114, 101, 97, 100, 115, 32]⟩ : ByteArray)) ++ t265) ++ (⟨#[32, 107, 101, 121, 115, 32]⟩ : ByteArray)) ++ t266) ++ (⟨#[32, 99, 97, 112, 97, 99, 105, 116, 121, 32]⟩ : ByteArray)) ++ t267) ++ (⟨#[32, 98, 97, 116, 99, 104, 32]⟩ : ByteArray)).size + t268.size ≤ 9223372036854775807 then (if ((((((((t264 ++ (⟨#[32, 116, 104, 114, 101, 97, 100, 115, 32]⟩ : ByteArray)) ++ t265) ++ (⟨#[32, 107, 101, 121, 115, 32]⟩ : ByteArray)) ++ t266) ++ (⟨#[32, 99, 97, 112, 97, 99, 105, 116, 121, 32]⟩ : ByteArray)) ++ t267) ++ (⟨#[32, 98, 97, 116, 99, 104, 32]⟩ : ByteArray)) ++ t268).size + 7 ≤ 9223372036854775807 then ((spec_FormatInt.f k a0_5).bind fun t269 => (if (((((((((t264 ++ (⟨#[32, 116, 104, 114, 101, 97, 100, 115, 32]⟩ : ByteArray)) ++ t265) ++ (⟨#[32, 107, 101, 121, 115, 32]⟩ : ByteArray)) ++ t266) ++ (⟨#[32, 99, 97, 112, 97, 99, 105, 116, 121, 32]⟩ : ByteArray)) ++ t267) ++ (⟨#[32, 98, 97, 116, 99, 104, 32]⟩ : ByteArray)) ++ t268) ++ (⟨#[32, 99, 108, 111, 99, 107, 32]⟩ : ByteArray)).size + t269.size ≤ 9223372036854775807 then (some ((((((((((t264 ++ (⟨#[32, 116, 104, 114, 101, 97, 100, 115, 32]⟩ : ByteArray)) ++ t265) ++ (⟨#[32, 107, 101, 121, 115, 32]⟩ : ByteArray)) ++ t266) ++ (⟨#[32, 99, 97, 112, 97, 99, 105, 116, 121, 32]⟩ : ByteArray)) ++ t267) ++ (⟨#[32, 98, 97, 116, 99, 104, 32]⟩ : ByteArray)) ++ t268) ++ (⟨#[32, 99, 108, 111, 99, 107, 32]⟩ : ByteArray)) ++ t269)) else (none))) else (none)) else (none))) else (none)) else (none))) else (none)) else (none))) else (none)) else (none)) = some r := H
      have A6 := Aside0.mk A60
      clear A60
      by_cases c7 : (t264 ++ (⟨#[32, 116, 104, 114, 101, 97, 100, 115, 32]⟩ : ByteArray)).size + t265.size ≤ 9223372036854775807
      · rw [if_pos c7] at H
        have c7b0 := eq_true c7
        have c7b1 : decide ((t264 ++ (⟨#[32, 116, 104, 114, 101, 97, 100, 115, 32]⟩ : ByteArray)).size + t265.size ≤ 9223372036854775807) = true := decide_eq_true c7
        try have c7b2 : (9223372036854775807 < (t264 ++ (⟨#[32, 116, 104, 114, 101, 97, 100, 115, 32]⟩ : ByteArray)).size + t265.size) = False := eq_false (Nat.not_lt.2 c7)
        have c7n := c7
        try simp [go_sem, -Nat.reduceLeDiff] at c7n
        try have c7b3 := eq_false (Nat.not_lt.2 c7n)
        by_cases c8 : ((t264 ++ (⟨#[32, 116, 104, 114, 101, 97, 100, 115, 32]⟩ : ByteArray)) ++ t265).size + 6 ≤ 9223372036854775807
        · rw [if_pos c8] at H
          have c8b0 := eq_true c8
          have c8b1 : decide (((t264 ++ (⟨#[32, 116, 104, 114, 101, 97, 100, 115, 32]⟩ : ByteArray)) ++ t265).size + 6 ≤ 9223372036854775807) = true := decide_eq_true c8
          try have c8b2 : (9223372036854775807 < ((t264 ++ (⟨#[32, 116, 104, 114, 101, 97, 100, 115, 32]⟩ : ByteArray)) ++ t265).size + 6) = False := eq_false (Nat.not_lt.2 c8)
          have c8n := c8
          try simp [go_sem, -Nat.reduceLeDiff] at c8n
          try have c8b3 := eq_false (Nat.not_lt.2 c8n)
          replace H := Option.bind_eq_some_iff.mp H
          obtain ⟨t266, A90, H⟩ := H
          replace H : (if (((t264 ++ (⟨#[32, 116, 104, 114, 101, 97, 100, 115, 32]⟩ : ByteArray)) ++ t265) ++ (⟨#[32, 107, 101, 121, 115, 32]⟩ : ByteArray)).size + t266.size ≤ 9223372036854775807 then (if ((((t264 ++ (⟨#[32, 116, 104, 114, 101, 97, 100, 115, 32]⟩ : ByteArray)) ++ t265) ++ (⟨#[32, 107, 101, 121, 115, 32]⟩ : ByteArray)) ++ t266).size + 10 ≤ 9223372036854775807 then ((spec_FormatInt.f k a0_2).bind fun t267 => (if (((((t264 ++ (⟨#[32, 116, 104, 114, 101, 97, 100, 115, 32]⟩ : ByteArray)) ++ t265) ++ (⟨#[32, 107, 101, 121, 115, 32]⟩ : ByteArray)) ++ t266) ++ (⟨#[32, 99, 97, 112, 97, 99, 105, 116, 121, 32]⟩ : ByteArray)).size + t267.size ≤ 9223372036854775807 then (if ((((((t264 ++ (⟨#[32, 116, 104, 114, 101, 97, 100, 115, 32]⟩ : ByteArray)) ++ t265) ++ (⟨#[32, 107, 101, 121, 115, 32]⟩ : ByteArray)) ++ t266) ++ (⟨#[32, 99, 97, 112, 97, 99, 105, 116, 121, 32]⟩ : ByteArray)) ++ t267).size + 7 ≤ 9223372036854775807 then ((spec_FormatInt.f k a0_3).bind fun t268 => (if (((((((t264 ++ (⟨#[32, 116, 104, 114, 101, 97, 100, 115, 32]⟩ : ByteArray)) ++ t265) ++ (⟨#[32, 107, 101, 121, 115, 32]⟩ : ByteArray)) ++ t266) ++ (⟨#[32, 99, 97, 112, 97, 99, 105, 116, 121, 32]⟩ : ByteArray)) ++ t267) ++ (⟨#[32, 98, 97, 116, 99, 104, 32]⟩ : ByteArray)).size + t268.size ≤ 9223372036854775807 then (if ((((((((t264 ++ (⟨#[32, 116, 104, 114, 101, 97, 100, 115, 32]⟩ : ByteArray)) ++ t265) ++ (⟨#[32, 107, 101, 121, 115, 32]⟩ : ByteArray)) ++ t266) ++ (⟨#[32, 99, 97, 112, 97, 99, 105, 116, 121, 32]⟩ : ByteArray)) ++ t267) ++ (⟨#[32, 98, 97, 116, 99, 104, 32]⟩ : ByteArray)) ++ t268).size + 7 ≤ 9223372036854775807 then ((spec_FormatInt.f k a0_5).bind fun t269 => (if (((((((((t264 ++ (⟨#[32, 116, 104, 114, 101, 97, 100, 115, 32]⟩ : ByteArray)) ++ t265) ++ (⟨#[32, 107, 101, 121, 115, 32]⟩ : ByteArray)) ++ t266) ++ (⟨#[32, 99, 97, 112, 97, 99, 105, 116, 121, 32]⟩ : ByteArray)) ++ t267) ++ (⟨#[32, 98, 97, 116, 99, 104, 32]⟩ : ByteArray)) ++ t268) ++ (⟨#[32, 99, 108, 111, 99, 107, 32]⟩ : ByteArray)).size + t269.size ≤ 9223372036854775807 then (some ((((((((((t264 ++ (⟨#[32, 116, 104, 114, 101, 97, 100, 115, 32]⟩ : ByteArray)) ++ t265) ++ (⟨#[32, 107, 101, 121, 115, 32]⟩ : ByteArray)) ++ t266) ++ (⟨#[32, 99, 97, 112, 97, 99, 105, 116, 121, 32]⟩ : ByteArray)) ++ t267) ++ (⟨#[32, 98, 97, 116, 99, 104, 32]⟩ : ByteArray)) ++ t268) ++ (⟨#[32, 99, 108, 111, 99, 107, 32]⟩ : ByteArray)) ++ t269)) else (none))) else (none)) else (none))) else (none)) else (none))) else (none)) else (none)) = some r := H
          have A9 := Aside0.mk A90
          clear A90
          by_cases c10 : (((t264 ++ (⟨#[32, 116, 104, 114, 101, 97, 100, 115, 32]⟩ : ByteArray)) ++ t265) ++ (⟨#[32, 107, 101, 121, 115, 32]⟩ : ByteArray)).size + t266.size ≤ 9223372036854775807
          · rw [if_pos c10] at H
            have c10b0 := eq_true c10
            have c10b1 : decide ((((t264 ++ (⟨#[32, 116, 104, 114, 101, 97, 100, 115, 32]⟩ : ByteArray)) ++ t265) ++ (⟨#[32, 107, 101, 121, 115, 32]⟩ : ByteArray)).size + t266.size ≤ 9223372036854775807) = true := decide_eq_true c10
            try have c10b2 : (9223372036854775807 < (((t264 ++ (⟨#[32, 116, 104, 114, 101, 97, 100, 115, 32]⟩ : ByteArray)) ++ t265) ++ (⟨#[32, 107, 101, 121, 115, 32]⟩ : ByteArray)).size + t266.size) = False := eq_false (Nat.not_lt.2 c10)
            have c10n := c10
            try simp [go_sem, -Nat.reduceLeDiff] at c10n
            try have c10b3 := eq_false (Nat.not_lt.2 c10n)
            by_cases c11 : ((((t264 ++ (⟨#[32, 116, 104, 114, 101, 97, 100, 115, 32]⟩ : ByteArray)) ++ t265) ++ (⟨#[32, 107, 101, 121, 115, 32]⟩ : ByteArray)) ++ t266).size + 10 ≤ 9223372036854775807
            · rw [if_pos c11] at H
              have c11b0 := eq_true c11
              have c11b1 : decide (((((t264 ++ (⟨#[32, 116, 104, 114, 101, 97, 100, 115, 32]⟩ : ByteArray)) ++ t265) ++ (⟨#[32, 107, 101, 121, 115, 32]⟩ : ByteArray)) ++ t266).size + 10 ≤ 9223372036854775807) = true := decide_eq_true c11
              try have c11b2 : (9223372036854775807 < ((((t264 ++ (⟨#[32, 116, 104, 114, 101, 97, 100, 115, 32]⟩ : ByteArray)) ++ t265) ++ (⟨#[32, 107, 101, 121, 115, 32]⟩ : ByteArray)) ++ t266).size + 10) = False := eq_false (Nat.not_lt.2 c11)
              have c11n := c11
              try simp [go_sem, -Nat.reduceLeDiff] at c11n
              try have c11b3 := eq_false (Nat.not_lt.2 c11n)
              replace H := Option.bind_eq_some_iff.mp H
              obtain ⟨t267, A120, H⟩ := H
              replace H : (if (((((t264 ++ (⟨#[32, 116, 104, 114, 101, 97, 100, 115, 32]⟩ : ByteArray)) ++ t265) ++ (⟨#[32, 107, 101, 121, 115, 32]⟩ : ByteArray)) ++ t266) ++ (⟨#[32, 99, 97, 112, 97, 99, 105, 116, 121, 32]⟩ : ByteArray)).size + t267.size ≤ 9223372036854775807 then (if ((((((t264 ++ (⟨#[32, 116, 104, 114, 101, 97, 100, 115, 32]⟩ : ByteArray)) ++ t265) ++ (⟨#[32, 107, 101, 121, 115, 32]⟩ : ByteArray)) ++ t266) ++ (⟨#[32, 99, 97, 112, 97, 99, 105, 116, 121, 32]⟩ : ByteArray)) ++ t267).size + 7 ≤ 9223372036854775807 then ((spec_FormatInt.f k a0_3).bind fun t268 => (if (((((((t264 ++ (⟨#[32, 116, 104, 114, 101, 97, 100, 115, 32]⟩ : ByteArray)) ++ t265) ++ (⟨#[32, 107, 101, 121, 115, 32]⟩ : ByteArray)) ++ t266) ++ (⟨#[32, 99, 97, 112, 97, 99, 105, 116, 121, 32]⟩ : ByteArray)) ++ t267) ++ (⟨#[32, 98, 97, 116, 99, 104, 32]⟩ : ByteArray)).size + t268.size ≤ 9223372036854775807 then (if ((((((((t264 ++ (⟨#[32, 116, 104, 114, 101, 97, 100, 115, 32]⟩ : ByteArray)) ++ t265) ++ (⟨#[32, 107, 101, 121, 115, 32]⟩ : ByteArray)) ++ t266) ++ (⟨#[32, 99, 97, 112, 97, 99, 105, 116, 121, 32]⟩ : ByteArray)) ++ t267) ++ (⟨#[32, 98, 97, 116, 99, 104, 32]⟩ : ByteArray)) ++ t268).size + 7 ≤ 9223372036854775807 then ((spec_FormatInt.f k a0_5).bind fun t269 => (if (((((((((t264 ++ (⟨#[32, 116, 104, 114, 101, 97, 100, 115, 32]⟩ : ByteArray)) ++ t265) ++ (⟨#[32, 107, 101, 121, 115, 32]⟩ : ByteArray)) ++ t266) ++ (⟨#[32, 99, 97, 112, 97, 99, 105, 116, 121, 32]⟩ : ByteArray)) ++ t267) ++ (⟨#[32, 98, 97, 116, 99, 104, 32]⟩ : ByteArray)) ++ t268) ++ (⟨#[32, 99, 108, 111, 99, 107, 32]⟩ : ByteArray)).size + t269.size ≤ 9223372036854775807 then (some ((((((((((t264 ++ (⟨#[32, 116, 104, 114, 101, 97, 100, 115, 32]⟩ : ByteArray)) ++ t265) ++ (⟨#[32, 107, 101, 121, 115, 32]⟩ : ByteArray)) ++ t266) ++ (⟨#[32, 99, 97, 112, 97, 99, 105, 116, 121, 32]⟩ : ByteArray)) ++ t267) ++ (⟨#[32, 98, 97, 116, 99, 104, 32]⟩ : ByteArray)) ++ t268) ++ (⟨#[32, 99, 108, 111, 99, 107, 32]⟩ : ByteArray)) ++ t269)) else (none))) else (none)) else (none))) else (none)) else (none)) = some r := H
              have A12 := Aside0.mk A120
              clear A120
              by_cases c13 : (((((t264 ++ (⟨#[32, 116, 104, 114, 101, 97, 100, 115, 32]⟩ : ByteArray)) ++ t265) ++ (⟨#[32, 107, 101, 121, 115, 32]⟩ : ByteArray)) ++ t266) ++ (⟨#[32, 99, 97, 112, 97, 99, 105, 116, 121, 32]⟩ : ByteArray)).size + t267.size ≤ 9223372036854775807
              · rw [if_pos c13] at H
                have c13b0 := eq_true c13
                have c13b1 : decide ((((((t264 ++ (⟨#[32, 116, 104, 114, 101, 97, 100, 115, 32]⟩ : ByteArray)) ++ t265) ++ (⟨#[32, 107, 101, 121, 115, 32]⟩ : ByteArray)) ++ t266) ++ (⟨#[32, 99, 97, 112, 97, 99, 105, 116, 121, 32]⟩ : ByteArray)).size + t267.size ≤ 9223372036854775807) = true := decide_eq_true c13
                try have c13b2 : (9223372036854775807 < (((((t264 ++ (⟨#[32, 116, 104, 114, 101, 97, 100, 115, 32]⟩ : ByteArray)) ++ t265) ++ (⟨#[32, 107, 101, 121, 115, 32]⟩ : ByteArray)) ++ t266) ++ (⟨#[32, 99, 97, 112, 97, 99, 105, 116, 121, 32]⟩ : ByteArray)).size + t267.size) = False := eq_false (Nat.not_lt.2 c13)
                have c13n := c13
                try simp [go_sem, -Nat.reduceLeDiff] at c13n
                try have c13b3 := eq_false (Nat.not_lt.2 c13n)
                by_cases c14 : ((((((t264 ++ (⟨#[32, 116, 104, 114, 101, 97, 100, 115, 32]⟩ : ByteArray)) ++ t265) ++ (⟨#[32, 107, 101, 121, 115, 32]⟩ : ByteArray)) ++ t266) ++ (⟨#[32, 99, 97, 112, 97, 99, 105, 116, 121, 32]⟩ : ByteArray)) ++ t267).size + 7 ≤ 9223372036854775807
                · rw [if_pos c14] at H
                  have c14b0 := eq_true c14
                  have c14b1 : decide (((((((t264 ++ (⟨#[32, 116, 104, 114, 101, 97, 100, 115, 32]⟩ : ByteArray)) ++ t265) ++ (⟨#[32, 107, 101, 121, 115, 32]⟩ : ByteArray)) ++ t266) ++ (⟨#[32, 99, 97, 112, 97, 99, 105, 116, 121, 32]⟩ : ByteArray)) ++ t267).size + 7 ≤ 9223372036854775807) = true := decide_eq_true c14
                  try have c14b2 : (9223372036854775807 < ((((((t264 ++ (⟨#[32, 116, 104, 114, 101, 97, 100, 115, 32]⟩ : ByteArray)) ++ t265) ++ (⟨#[32, 107, 101, 121, 115, 32]⟩ : ByteArray)) ++ t266) ++ (⟨#[32, 99, 97, 112, 97, 99, 105, 116, 121, 32]⟩ : ByteArray)) ++ t267).size + 7) = False := eq_false (Nat.not_lt.2 c14)
                  have c14n := c14
                  try simp [go_sem, -Nat.reduceLeDiff] at c14n
                  try have c14b3 := eq_false (Nat.not_lt.2 c14n)
                  replace H := Option.bind_eq_some_iff.mp H
                  obtain ⟨t268, A150, H⟩ := H
                  replace H : (if (((((((t264 ++ (⟨#[32, 116, 104, 114, 101, 97, 100, 115, 32]⟩ : ByteArray)) ++ t265) ++ (⟨#[32, 107, 101, 121, 115, 32]⟩ : ByteArray)) ++ t266) ++ (⟨#[32, 99, 97, 112, 97, 99, 105, 116, 121, 32]⟩ : ByteArray)) ++ t267) ++ (⟨#[32, 98, 97, 116, 99, 104, 32]⟩ : ByteArray)).size + t268.size ≤ 9223372036854775807 then (if ((((((((t264 ++ (⟨#[32, 116, 104, 114, 101, 97, 100, 115, 32]⟩ : ByteArray)) ++ t265) ++ (⟨#[32, 107, 101, 121, 115, 32]⟩ : ByteArray)) ++ t266) ++ (⟨#[32, 99, 97, 112, 97, 99, 105, 116, 121, 32]⟩ : ByteArray)) ++ t267) ++ (⟨#[32, 98, 97, 116, 99, 104, 32]⟩ : ByteArray)) ++ t268).size + 7 ≤ 9223372036854775807 then ((spec_FormatInt.f k a0_5).bind fun t269 => (if (((((((((t264 ++ (⟨#[32, 116, 104, 114, 101, 97, 100, 115, 32]⟩ : ByteArray)) ++ t265) ++ (⟨#[32, 107, 101, 121, 115, 32]⟩ : ByteArray)) ++ t266) ++ (⟨#[32, 99, 97, 112, 97, 99, 105, 116, 121, 32]⟩ : ByteArray)) ++ t267) ++ (⟨#[32, 98, 97, 116, 99, 104, 32]⟩ : ByteArray)) ++ t268) ++ (⟨#[32, 99, 108, 111, 99, 107, 32]⟩ : ByteArray)).size + t269.size ≤ 9223372036854775807 then (some ((((((((((t264 ++ (⟨#[32, 116, 104, 114, 101, 97, 100, 115, 32]⟩ : ByteArray)) ++ t265) ++ (⟨#[32, 107, 101, 121, 115, 32]⟩ : ByteArray)) ++ t266) ++ (⟨#[32, 99, 97, 112, 97, 99, 105, 116, 121, 32]⟩ : ByteArray)) ++ t267) ++ (⟨#[32, 98, 97, 116, 99, 104, 32]⟩ : ByteArray)) ++ t268) ++ (⟨#[32, 99, 108, 111, 99, 107, 32]⟩ : ByteArray)) ++ t269)) else (none))) else (none)) else (none)) = some r := H
                  have A15 := Aside0.mk A150
                  clear A150
                  by_cases c16 : (((((((t264 ++ (⟨#[32, 116, 104, 114, 101, 97, 100, 115, 32]⟩ : ByteArray)) ++ t265) ++ (⟨#[32, 107, 101, 121, 115, 32]⟩ : ByteArray)) ++ t266) ++ (⟨#[32, 99, 97, 112, 97, 99, 105, 116, 121, 32]⟩ : ByteArray)) ++ t267) ++ (⟨#[32, 98, 97, 116, 99, 104, 32]⟩ : ByteArray)).size + t268.size ≤ 9223372036854775807
                  · rw [if_pos c16] at H
                    have c16b0 := eq_true c16
                    have c16b1 : decide ((((((((t264 ++ (⟨#[32, 116, 104, 114, 101, 97, 100, 115, 32]⟩ : ByteArray)) ++ t265) ++ (⟨#[32, 107, 101, 121, 115, 32]⟩ : ByteArray)) ++ t266) ++ (⟨#[32, 99, 97, 112, 97, 99, 105, 116, 121, 32]⟩ : ByteArray)) ++ t267) ++ (⟨#[32, 98, 97, 116, 99, 104, 32]⟩ : ByteArray)).size + t268.size ≤ 9223372036854775807) = true := decide_eq_true c16
                    try have c16b2 : (9223372036854775807 < (((((((t264 ++ (⟨#[32, 116, 104, 114, 101, 97, 100, 115, 32]⟩ : ByteArray)) ++ t265) ++ (⟨#[32, 107, 101, 121, 115, 32]⟩ : ByteArray)) ++ t266) ++ (⟨#[32, 99, 97, 112, 97, 99, 105, 116, 121, 32]⟩ : ByteArray)) ++ t267) ++ (⟨#[32, 98, 97, 116, 99, 104, 32]⟩ : ByteArray)).size + t268.size) = False := eq_false (Nat.not_lt.2 c16)
                    have c16n := c16
                    try simp [go_sem, -Nat.reduceLeDiff] at c16n
                    try have c16b3 := eq_false (Nat.not_lt.2 c16n)
                    by_cases c17 : ((((((((t264 ++ (⟨#[32, 116, 104, 114, 101, 97, 100, 115, 32]⟩ : ByteArray)) ++ t265) ++ (⟨#[32, 107, 101, 121, 115, 32]⟩ : ByteArray)) ++ t266) ++ (⟨#[32, 99, 97, 112, 97, 99, 105, 116, 121, 32]⟩ : ByteArray)) ++ t267) ++ (⟨#[32, 98, 97, 116, 99, 104, 32]⟩ : ByteArray)) ++ t268).size + 7 ≤ 9223372036854775807
                    · rw [if_pos c17] at H
                      have c17b0 := eq_true c17
                      have c17b1 : decide (((((((((t264 ++ (⟨#[32, 116, 104, 114, 101, 97, 100, 115, 32]⟩ : ByteArray)) ++ t265) ++ (⟨#[32, 107, 101, 121, 115, 32]⟩ : ByteArray)) ++ t266) ++ (⟨#[32, 99, 97, 112, 97, 99, 105, 116, 121, 32]⟩ : ByteArray)) ++ t267) ++ (⟨#[32, 98, 97, 116, 99, 104, 32]⟩ : ByteArray)) ++ t268).size + 7 ≤ 9223372036854775807) = true := decide_eq_true c17
                      try have c17b2 : (9223372036854775807 < ((((((((t264 ++ (⟨#[32, 116, 104, 114, 101, 97, 100, 115, 32]⟩ : ByteArray)) ++ t265) ++ (⟨#[32, 107, 101, 121, 115, 32]⟩ : ByteArray)) ++ t266) ++ (⟨#[32, 99, 97, 112, 97, 99, 105, 116, 121, 32]⟩ : ByteArray)) ++ t267) ++ (⟨#[32, 98, 97, 116, 99, 104, 32]⟩ : ByteArray)) ++ t268).size + 7) = False := eq_false (Nat.not_lt.2 c17)
                      have c17n := c17
                      try simp [go_sem, -Nat.reduceLeDiff] at c17n
                      try have c17b3 := eq_false (Nat.not_lt.2 c17n)
                      replace H := Option.bind_eq_some_iff.mp H
                      obtain ⟨t269, A180, H⟩ := H
                      replace H : (if (((((((((t264 ++ (⟨#[32, 116, 104, 114, 101, 97, 100, 115, 32]⟩ : ByteArray)) ++ t265) ++ (⟨#[32, 107, 101, 121, 115, 32]⟩ : ByteArray)) ++ t266) ++ (⟨#[32, 99, 97, 112, 97, 99, 105, 116, 121, 32]⟩ : ByteArray)) ++ t267) ++ (⟨#[32, 98, 97, 116, 99, 104, 32]⟩ : ByteArray)) ++ t268) ++ (⟨#[32, 99, 108, 111, 99, 107, 32]⟩ : ByteArray)).size + t269.size ≤ 9223372036854775807 then (some ((((((((((t264 ++ (⟨#[32, 116, 104, 114, 101, 97, 100, 115, 32]⟩ : ByteArray)) ++ t265) ++ (⟨#[32, 107, 101, 121, 115, 32]⟩ : ByteArray)) ++ t266) ++ (⟨#[32, 99, 97, 112, 97, 99, 105, 116, 121, 32]⟩ : ByteArray)) ++ t267) ++ (⟨#[32, 98, 97, 116, 99, 104, 32]⟩ : ByteArray)) ++ t268) ++ (⟨#[32, 99, 108, 111, 99, 107, 32]⟩ : ByteArray)) ++ t269)) else (none)) = some r := H
                      have A18 := Aside0.mk A180
                      clear A180
                      by_cases c19 : (((((((((t264 ++ (⟨#[32, 116, 104, 114, 101, 97, 100, 115, 32]⟩ : ByteArray)) ++ t265) ++ (⟨#[32, 107, 101, 121, 115, 32]⟩ : ByteArray)) ++ t266) ++ (⟨#[32, 99, 97, 112, 97, 99, 105, 116, 121, 32]⟩ : ByteArray)) ++ t267) ++ (⟨#[32, 98, 97, 116, 99, 104, 32]⟩ : ByteArray)) ++ t268) ++ (⟨#[32, 99, 108, 111, 99, 107, 32]⟩ : ByteArray)).size + t269.size ≤ 9223372036854775807
                      · rw [if_pos c19] at H
                        have c19b0 := eq_true c19
                        have c19b1 : decide ((((((((((t264 ++ (⟨#[32, 116, 104, 114, 101, 97, 100, 115, 32]⟩ : ByteArray)) ++ t265) ++ (⟨#[32, 107, 101, 121, 115, 32]⟩ : ByteArray)) ++ t266) ++ (⟨#[32, 99, 97, 112, 97, 99, 105, 116, 121, 32]⟩ : ByteArray)) ++ t267) ++ (⟨#[32, 98, 97, 116, 99, 104, 32]⟩ : ByteArray)) ++ t268) ++ (⟨#[32, 99, 108, 111, 99, 107, 32]⟩ : ByteArray)).size + t269.size ≤ 9223372036854775807) = true := decide_eq_true c19
                        try have c19b2 : (9223372036854775807 < (((((((((t264 ++ (⟨#[32, 116, 104, 114, 101, 97, 100, 115, 32]⟩ : ByteArray)) ++ t265) ++ (⟨#[32, 107, 101, 121, 115, 32]⟩ : ByteArray)) ++ t266) ++ (⟨#[32, 99, 97, 112, 97, 99, 105, 116, 121, 32]⟩ : ByteArray)) ++ t267) ++ (⟨#[32, 98, 97, 116, 99, 104, 32]⟩ : ByteArray)) ++ t268) ++ (⟨#[32, 99, 108, 111, 99, 107, 32]⟩ : ByteArray)).size + t269.size) = False := eq_false (Nat.not_lt.2 c19)
                        have c19n := c19
                        try simp [go_sem, -Nat.reduceLeDiff] at c19n
                        try have c19b3 := eq_false (Nat.not_lt.2 c19n)
                        obtain rfl := Option.some.inj H
                        go_enter Tryd.func58, Tryd.ntmps58
                        try go_wp2_with (first | ((with_reducible refine gate_dst (N := 1) rfl ?_); refine box_event ?hg (N := 1) ?hd (cs := #[.int .i64 a0_0, .int .i64 a0_1, .int .i64 a0_2, .int .i64 a0_3, .int .i64 a0_4, .int .i64 a0_5]) (t := 47) ?hr ?_; (case hd => rfl); (case hg => rfl); (case hr => first | (go_simp; done) | (go_simp; rfl)); intro gb262 hg w20 hbox hb; have n0_ := Aside0.mk (below_step (by repeat (first | (with_reducible first | exact HB.out | apply below_alloc | apply pw_below_drewN | apply below_drew1) | exact HB.out)) hb); have n1_ := Aside0.mk (hbox); have n2_ := Aside0.mk ((by rw [hg]; exact (below_size (by repeat (first | (with_reducible first | exact HB.out | apply below_alloc | apply pw_below_drewN | apply below_drew1) | exact HB.out))) : w.heap.size ≤ gb262)); have n3_ := Aside0.mk ((by rw [hg]; exact (below_size (by repeat (first | (with_reducible first | exact HB.out | apply below_alloc | apply pw_below_drewN | apply below_drew1) | exact HB.out))) : w.heap.size ≤ gb262)); clear HB; have HB := n0_; have BK262 := n1_; have GW262 := n2_; have GE262 := n3_; clear n0_ n1_ n2_ n3_; clear hb hbox hg; have hcz21_0 : w20.cell? ⟨gb262, 0, none⟩ = some (.int .i64 a0_0) := (blk_cell BK262.out 0).trans rfl; have hcz21_1 : w20.cell? ⟨gb262, 1, none⟩ = some (.int .i64 a0_1) := (blk_cell BK262.out 1).trans rfl; have hcz21_2 : w20.cell? ⟨gb262, 2, none⟩ = some (.int .i64 a0_2) := (blk_cell BK262.out 2).trans rfl; have hcz21_3 : w20.cell? ⟨gb262, 3, none⟩ = some (.int .i64 a0_3) := (blk_cell BK262.out 3).trans rfl; have hcz21_4 : w20.cell? ⟨gb262, 4, none⟩ = some (.int .i64 a0_4) := (blk_cell BK262.out 4).trans rfl; have hcz21_5 : w20.cell? ⟨gb262, 5, none⟩ = some (.int .i64 a0_5) := (blk_cell BK262.out 5).trans rfl; have hfz21_0 := blk_frozen BK262.out 0; have hfz21_1 := blk_frozen BK262.out 1; have hfz21_2 := blk_frozen BK262.out 2; have hfz21_3 := blk_frozen BK262.out 3; have hfz21_4 := blk_frozen BK262.out 4; have hfz21_5 := blk_frozen BK262.out 5) | ((with_reducible refine gate_callee (f := 59) rfl ?_); refine goesL_ (some 4) rfl rfl Tryd.func59 (by kernel_rfl) rfl #[.agg #[.int .i64 a0_0, .int .i64 a0_1, .int .i64 a0_2, .int .i64 a0_3, .int .i64 a0_4, .int .i64 a0_5]] rfl (by (try simp only [List.map_toArray, List.map_cons, List.map_nil]); first | done | rfl | (simp only [List.length_drop, List.length_take]; rfl)) ?_; (with_reducible refine (spec_IsConfig.calls a0_0 a0_1 a0_2 a0_3 a0_4 a0_5 true _ A2.out).mono ?_); rintro e w22 ⟨rfl, hb⟩; refine ⟨_, rfl, ?_⟩; have n0_ := Aside0.mk (blk_below (g := gb262) (o := .cells #[.int .i64 a0_0, .int .i64 a0_1, .int .i64 a0_2, .int .i64 a0_3, .int .i64 a0_4, .int .i64 a0_5] 47 (0, 0)) (by (with_reducible repeat (first | refine blk_drewN ?_ _ | refine blk_drew ?_ | refine blk_alloc ?_ _)); exact BK262.out) hb); have n1_ := Aside0.mk (below_step (by repeat (first | (with_reducible first | exact HB.out | apply below_alloc | apply pw_below_drewN | apply below_drew1 | refine below_set ?_ GE262.out) | exact HB.out)) hb); clear BK262; clear HB; have BK262 := n0_; have HB := n1_; clear n0_ n1_; (try clear hb); (try clear hb2); (try clear hk); (try clear hi)))
                        have n0_ := Aside0.mk (blk_drew BK262.out)
                        have n1_ := Aside0.mk (below_drew1 HB.out)
                        clear BK262
                        clear HB
                        have BK262 := n0_
                        have HB := n1_
                        clear n0_ n1_
                        refine start_ (n := 29) (S := fun w' => w'.cell? ⟨gb262, 0, none⟩ = some (.int .i64 a0_0) ∧ w'.cell? ⟨gb262, 1, none⟩ = some (.int .i64 a0_1) ∧ w'.cell? ⟨gb262, 2, none⟩ = some (.int .i64 a0_2) ∧ w'.cell? ⟨gb262, 3, none⟩ = some (.int .i64 a0_3) ∧ w'.cell? ⟨gb262, 4, none⟩ = some (.int .i64 a0_4) ∧ w'.cell? ⟨gb262, 5, none⟩ = some (.int .i64 a0_5)) (ds := []) #[false, false, false, false, false, false, false, false, false, false, false, false, false, false, false, false, false, false, false, false, false, false, false, false, false, false, false, false, false] (by kernel_rfl) rfl rfl ⟨(blk_cell BK262.out 0).trans rfl, (blk_cell BK262.out 1).trans rfl, (blk_cell BK262.out 2).trans rfl, (blk_cell BK262.out 3).trans rfl, (blk_cell BK262.out 4).trans rfl, (blk_cell BK262.out 5).trans rfl⟩ (fun hHeld => ?_); refine with_tabW spec_FormatConfig.tab3 spec_FormatConfig.bits3 (fun HT_ HW_ => ?_)
                        generalize w22.drew = w23 at BK262 HB hHeld ⊢
                        refine pure_ (i := 0) (N := some 6) (v := ?_) (a' := ?_) #[true, false, false, false, false, false, false, false, false, false, false, false, false, false, false, false, false, false, false, false, false, false, false, false, false, false, false, false, false] rfl rfl (any_of HT_.out (by kernel_rfl)) (fun _ _ _ h => h) (Or.inl ⟨by rfl, ?_⟩) ?_ ?_
                        rotate_left
                        · intro w'
                          go_simp
                          with_reducible rfl
                        rotate_left
                        · simp only [Act.put, List.setIfInBounds_toArray, List.set_cons_zero, List.set_cons_succ, i64_w, i32_w]
                          rfl
                        refine pure_ (i := 4) (N := some 10) (v := ?_) (a' := ?_) #[true, false, false, false, true, false, false, false, false, false, false, false, false, false, false, false, false, false, false, false, false, false, false, false, false, false, false, false, false] rfl rfl (any_of HT_.out (by kernel_rfl)) (fun _ _ _ h => h) (Or.inl ⟨by rfl, ?_⟩) ?_ ?_
                        rotate_left
                        · intro w'
                          go_simp
                          with_reducible rfl
                        rotate_left
                        · simp only [Act.put, List.setIfInBounds_toArray, List.set_cons_zero, List.set_cons_succ, i64_w, i32_w]
                          rfl
                        refine pure_ (i := 9) (N := some 15) (v := ?_) (a' := ?_) #[true, false, false, false, true, false, false, false, false, true, false, false, false, false, false, false, false, false, false, false, false, false, false, false, false, false, false, false, false] rfl rfl (any_of HT_.out (by kernel_rfl)) (fun _ _ _ h => h) (Or.inl ⟨by rfl, ?_⟩) ?_ ?_
                        rotate_left
                        · intro w'
                          go_simp
                          with_reducible rfl
                        rotate_left
                        · simp only [Act.put, List.setIfInBounds_toArray, List.set_cons_zero, List.set_cons_succ, i64_w, i32_w]
                          rfl
                        refine pure_ (i := 14) (N := some 20) (v := ?_) (a' := ?_) #[true, false, false, false, true, false, false, false, false, true, false, false, false, false, true, false, false, false, false, false, false, false, false, false, false, false, false, false, false] rfl rfl (any_of HT_.out (by kernel_rfl)) (fun _ _ _ h => h) (Or.inl ⟨by rfl, ?_⟩) ?_ ?_
                        rotate_left
                        · intro w'
                          go_simp
                          with_reducible rfl
                        rotate_left
                        · simp only [Act.put, List.setIfInBounds_toArray, List.set_cons_zero, List.set_cons_succ, i64_w, i32_w]
                          rfl
                        refine pure_ (i := 19) (N := some 25) (v := ?_) (a' := ?_) #[true, false, false, false, true, false, false, false, false, true, false, false, false, false, true, false, false, false, false, true, false, false, false, false, false, false, false, false, false] rfl rfl (any_of HT_.out (by kernel_rfl)) (fun _ _ _ h => h) (Or.inl ⟨by rfl, ?_⟩) ?_ ?_
                        rotate_left
                        · intro w'
                          go_simp
                          with_reducible rfl
                        rotate_left
                        · simp only [Act.put, List.setIfInBounds_toArray, List.set_cons_zero, List.set_cons_succ, i64_w, i32_w]
                          rfl
                        refine pure_ (i := 24) (N := some 30) (v := ?_) (a' := ?_) #[true, false, false, false, true, false, false, false, false, true, false, false, false, false, true, false, false, false, false, true, false, false, false, false, true, false, false, false, false] rfl rfl (any_of HT_.out (by kernel_rfl)) (fun _ _ _ h => h) (Or.inl ⟨by rfl, ?_⟩) ?_ ?_
                        rotate_left
                        · intro w'
                          go_simp
                          with_reducible rfl
                        rotate_left
                        · simp only [Act.put, List.setIfInBounds_toArray, List.set_cons_zero, List.set_cons_succ, i64_w, i32_w]
                          rfl
                        refine take_ (i := 1) (N := some 7) (v := ?_) (a' := ?_) #[true, true, false, false, true, false, false, false, false, true, false, false, false, false, true, false, false, false, false, true, false, false, false, false, true, false, false, false, false] rfl rfl (take_ofW HT_.out HW_.out (by kernel_rfl)) (fun _ _ _ h => h) (Or.inl ⟨by rfl, ?_⟩) hHeld ?_ ?_
                        rotate_left
                        · rintro w' ⟨s0, s1, s2, s3, s4, s5⟩
                          go_simp
                          with_reducible rfl
                        rotate_left
                        · simp only [Act.put, List.setIfInBounds_toArray, List.set_cons_zero, List.set_cons_succ, i64_w, i32_w]
                          rfl
                        refine take_ (i := 5) (N := some 11) (v := ?_) (a' := ?_) #[true, true, false, false, true, true, false, false, false, true, false, false, false, false, true, false, false, false, false, true, false, false, false, false, true, false, false, false, false] rfl rfl (take_ofW HT_.out HW_.out (by kernel_rfl)) (fun _ _ _ h => h) (Or.inl ⟨by rfl, ?_⟩) hHeld ?_ ?_
                        rotate_left
                        · rintro w' ⟨s0, s1, s2, s3, s4, s5⟩
                          go_simp
                          with_reducible rfl
                        rotate_left
                        · simp only [Act.put, List.setIfInBounds_toArray, List.set_cons_zero, List.set_cons_succ, i64_w, i32_w]
                          rfl
                        refine take_ (i := 10) (N := some 16) (v := ?_) (a' := ?_) #[true, true, false, false, true, true, false, false, false, true, true, false, false, false, true, false, false, false, false, true, false, false, false, false, true, false, false, false, false] rfl rfl (take_ofW HT_.out HW_.out (by kernel_rfl)) (fun _ _ _ h => h) (Or.inl ⟨by rfl, ?_⟩) hHeld ?_ ?_
                        rotate_left
                        · rintro w' ⟨s0, s1, s2, s3, s4, s5⟩
                          go_simp
                          with_reducible rfl
                        rotate_left
                        · simp only [Act.put, List.setIfInBounds_toArray, List.set_cons_zero, List.set_cons_succ, i64_w, i32_w]
                          rfl
                        refine take_ (i := 15) (N := some 21) (v := ?_) (a' := ?_) #[true, true, false, false, true, true, false, false, false, true, true, false, false, false, true, true, false, false, false, true, false, false, false, false, true, false, false, false, false] rfl rfl (take_ofW HT_.out HW_.out (by kernel_rfl)) (fun _ _ _ h => h) (Or.inl ⟨by rfl, ?_⟩) hHeld ?_ ?_
                        rotate_left
                        · rintro w' ⟨s0, s1, s2, s3, s4, s5⟩
                          go_simp
                          with_reducible rfl
                        rotate_left
                        · simp only [Act.put, List.setIfInBounds_toArray, List.set_cons_zero, List.set_cons_succ, i64_w, i32_w]
                          rfl
                        refine take_ (i := 20) (N := some 26) (v := ?_) (a' := ?_) #[true, true, false, false, true, true, false, false, false, true, true, false, false, false, true, true, false, false, false, true, true, false, false, false, true, false, false, false, false] rfl rfl (take_ofW HT_.out HW_.out (by kernel_rfl)) (fun _ _ _ h => h) (Or.inl ⟨by rfl, ?_⟩) hHeld ?_ ?_
                        rotate_left
                        · rintro w' ⟨s0, s1, s2, s3, s4, s5⟩
                          go_simp
                          with_reducible rfl
                        rotate_left
                        · simp only [Act.put, List.setIfInBounds_toArray, List.set_cons_zero, List.set_cons_succ, i64_w, i32_w]
                          rfl
                        refine take_ (i := 25) (N := some 31) (v := ?_) (a' := ?_) #[true, true, false, false, true, true, false, false, false, true, true, false, false, false, true, true, false, false, false, true, true, false, false, false, true, true, false, false, false] rfl rfl (take_ofW HT_.out HW_.out (by kernel_rfl)) (fun _ _ _ h => h) (Or.inl ⟨by rfl, ?_⟩) hHeld ?_ ?_
                        rotate_left
                        · rintro w' ⟨s0, s1, s2, s3, s4, s5⟩
                          go_simp
                          with_reducible rfl
                        rotate_left
                        · simp only [Act.put, List.setIfInBounds_toArray, List.set_cons_zero, List.set_cons_succ, i64_w, i32_w]
                          rfl
                        refine one_ (i := 2) (N := some 8) #[true, true, true, false, true, true, false, false, false, true, true, false, false, false, true, true, false, false, false, true, true, false, false, false, true, true, false, false, false] rfl rfl (one_of HT_.out (by kernel_rfl)) (by decide) (fun K hK => ?_)
                        refine goes_ Tryd.func99 (by kernel_rfl) rfl #[.int .i64 a0_4] (by rfl) rfl rfl (by (try simp only [List.map_toArray, List.map_cons, List.map_nil]); first | done | rfl | (simp only [List.length_drop, List.length_take]; rfl)) ?_
                        with_reducible refine (spec_PolicyName.calls a0_4 t264 _ A4.out).mono ?_
                        rintro e w24 ⟨rfl, hb⟩
                        refine ⟨_, rfl, ?_⟩
                        have n0_ := Aside0.mk (blk_below (g := gb262) (o := .cells #[.int .i64 a0_0, .int .i64 a0_1, .int .i64 a0_2, .int .i64 a0_3, .int .i64 a0_4, .int .i64 a0_5] 47 (0, 0)) (by (with_reducible repeat (first | refine blk_drewN ?_ _ | refine blk_drew ?_ | refine blk_alloc ?_ _)); exact BK262.out) hb)
                        have n1_ := Aside0.mk (below_step (by repeat (first | (with_reducible first | exact HB.out | apply below_alloc | apply pw_below_drewN | apply below_drew1 | refine below_set ?_ GE262.out) | exact HB.out)) hb)
                        clear BK262
                        clear HB
                        have BK262 := n0_
                        have HB := n1_
                        clear n0_ n1_
                        (try clear hb)
                        (try clear hb2)
                        (try clear hk)
                        (try clear hi)
                        refine hK.out _ _ ⟨(blk_cell BK262.out 0).trans rfl, (blk_cell BK262.out 1).trans rfl, (blk_cell BK262.out 2).trans rfl, (blk_cell BK262.out 3).trans rfl, (blk_cell BK262.out 4).trans rfl, (blk_cell BK262.out 5).trans rfl⟩ (fun hHeld => ?_)
                        clear hK K
                        refine norm_ (a' := ?_) ?_ ?_
                        rotate_left
                        · show Act.put _ (some 8) _ = _
                          simp only [Act.put, List.setIfInBounds_toArray, List.set_cons_zero, List.set_cons_succ, i64_w, i32_w]
                          rfl
                        refine pure_ (i := 3) (N := some 9) (v := ?_) (a' := ?_) #[true, true, true, true, true, true, false, false, false, true, true, false, false, false, true, true, false, false, false, true, true, false, false, false, true, true, false, false, false] rfl rfl (any_of HT_.out (by kernel_rfl)) (fun _ _ _ h => h) (Or.inl ⟨by rfl, ?_⟩) ?_ ?_
                        rotate_left
                        · intro w'
                          go_simp
                          with_reducible rfl
                        rotate_left
                        · simp only [Act.put, List.setIfInBounds_toArray, List.set_cons_zero, List.set_cons_succ, i64_w, i32_w]
                          rfl
                        refine one_ (i := 6) (N := some 12) #[true, true, true, true, true, true, true, false, false, true, true, false, false, false, true, true, false, false, false, true, true, false, false, false, true, true, false, false, false] rfl rfl (one_of HT_.out (by kernel_rfl)) (by decide) (fun K hK => ?_)
                        refine goes_ Tryd.func25 (by kernel_rfl) rfl #[.int .i64 a0_0] (by rfl) rfl rfl (by (try simp only [List.map_toArray, List.map_cons, List.map_nil]); first | done | rfl | (simp only [List.length_drop, List.length_take]; rfl)) ?_
                        with_reducible refine (spec_FormatInt.calls k a0_0 t265 _ A6.out).mono ?_
                        rintro e w25 ⟨rfl, hb⟩
                        refine ⟨_, rfl, ?_⟩
                        have n0_ := Aside0.mk (blk_below (g := gb262) (o := .cells #[.int .i64 a0_0, .int .i64 a0_1, .int .i64 a0_2, .int .i64 a0_3, .int .i64 a0_4, .int .i64 a0_5] 47 (0, 0)) (by (with_reducible repeat (first | refine blk_drewN ?_ _ | refine blk_drew ?_ | refine blk_alloc ?_ _)); exact BK262.out) hb)
                        have n1_ := Aside0.mk (below_step (by repeat (first | (with_reducible first | exact HB.out | apply below_alloc | apply pw_below_drewN | apply below_drew1 | refine below_set ?_ GE262.out) | exact HB.out)) hb)
                        clear BK262
                        clear HB
                        have BK262 := n0_
                        have HB := n1_
                        clear n0_ n1_
                        (try clear hb)
                        (try clear hb2)
                        (try clear hk)
                        (try clear hi)
                        refine hK.out _ _ ⟨(blk_cell BK262.out 0).trans rfl, (blk_cell BK262.out 1).trans rfl, (blk_cell BK262.out 2).trans rfl, (blk_cell BK262.out 3).trans rfl, (blk_cell BK262.out 4).trans rfl, (blk_cell BK262.out 5).trans rfl⟩ (fun hHeld => ?_)
                        clear hK K
                        refine norm_ (a' := ?_) ?_ ?_
                        rotate_left
                        · show Act.put _ (some 12) _ = _
                          simp only [Act.put, List.setIfInBounds_toArray, List.set_cons_zero, List.set_cons_succ, i64_w, i32_w]
                          rfl
                        refine pure_ (i := 7) (N := some 13) (v := ?_) (a' := ?_) #[true, true, true, true, true, true, true, true, false, true, true, false, false, false, true, true, false, false, false, true, true, false, false, false, true, true, false, false, false] rfl rfl (any_of HT_.out (by kernel_rfl)) (fun _ _ _ h => h) (Or.inl ⟨by rfl, ?_⟩) ?_ ?_
                        rotate_left
                        · intro w'
                          go_simp
                          with_reducible rfl
                        rotate_left
                        · simp only [Act.put, List.setIfInBounds_toArray, List.set_cons_zero, List.set_cons_succ, i64_w, i32_w]
                          rfl
                        refine pure_ (i := 8) (N := some 14) (v := ?_) (a' := ?_) #[true, true, true, true, true, true, true, true, true, true, true, false, false, false, true, true, false, false, false, true, true, false, false, false, true, true, false, false, false] rfl rfl (any_of HT_.out (by kernel_rfl)) (fun _ _ _ h => h) (Or.inl ⟨by rfl, ?_⟩) ?_ ?_
                        rotate_left
                        · intro w'
                          go_simp
                          with_reducible rfl
                        rotate_left
                        · simp only [Act.put, List.setIfInBounds_toArray, List.set_cons_zero, List.set_cons_succ, i64_w, i32_w]
                          rfl
                        refine one_ (i := 11) (N := some 17) #[true, true, true, true, true, true, true, true, true, true, true, true, false, false, true, true, false, false, false, true, true, false, false, false, true, true, false, false, false] rfl rfl (one_of HT_.out (by kernel_rfl)) (by decide) (fun K hK => ?_)
                        refine goes_ Tryd.func25 (by kernel_rfl) rfl #[.int .i64 a0_1] (by rfl) rfl rfl (by (try simp only [List.map_toArray, List.map_cons, List.map_nil]); first | done | rfl | (simp only [List.length_drop, List.length_take]; rfl)) ?_
                        with_reducible refine (spec_FormatInt.calls k a0_1 t266 _ A9.out).mono ?_
                        rintro e w26 ⟨rfl, hb⟩
                        refine ⟨_, rfl, ?_⟩
                        have n0_ := Aside0.mk (blk_below (g := gb262) (o := .cells #[.int .i64 a0_0, .int .i64 a0_1, .int .i64 a0_2, .int .i64 a0_3, .int .i64 a0_4, .int .i64 a0_5] 47 (0, 0)) (by (with_reducible repeat (first | refine blk_drewN ?_ _ | refine blk_drew ?_ | refine blk_alloc ?_ _)); exact BK262.out) hb)
                        have n1_ := Aside0.mk (below_step (by repeat (first | (with_reducible first | exact HB.out | apply below_alloc | apply pw_below_drewN | apply below_drew1 | refine below_set ?_ GE262.out) | exact HB.out)) hb)
                        clear BK262
                        clear HB
                        have BK262 := n0_
                        have HB := n1_
                        clear n0_ n1_
                        (try clear hb)
                        (try clear hb2)
                        (try clear hk)
                        (try clear hi)
                        refine hK.out _ _ ⟨(blk_cell BK262.out 0).trans rfl, (blk_cell BK262.out 1).trans rfl, (blk_cell BK262.out 2).trans rfl, (blk_cell BK262.out 3).trans rfl, (blk_cell BK262.out 4).trans rfl, (blk_cell BK262.out 5).trans rfl⟩ (fun hHeld => ?_)
                        clear hK K
                        refine norm_ (a' := ?_) ?_ ?_
                        rotate_left
                        · show Act.put _ (some 17) _ = _
                          simp only [Act.put, List.setIfInBounds_toArray, List.set_cons_zero, List.set_cons_succ, i64_w, i32_w]
                          rfl
                        refine pure_ (i := 12) (N := some 18) (v := ?_) (a' := ?_) #[true, true, true, true, true, true, true, true, true, true, true, true, true, false, true, true, false, false, false, true, true, false, false, false, true, true, false, false, false] rfl rfl (any_of HT_.out (by kernel_rfl)) (fun _ _ _ h => h) (Or.inl ⟨by rfl, ?_⟩) ?_ ?_
                        rotate_left
                        · intro w'
                          go_simp
                          with_reducible rfl
                        rotate_left
                        · simp only [Act.put, List.setIfInBounds_toArray, List.set_cons_zero, List.set_cons_succ, i64_w, i32_w]
                          rfl
                        refine pure_ (i := 13) (N := some 19) (v := ?_) (a' := ?_) #[true, true, true, true, true, true, true, true, true, true, true, true, true, true, true, true, false, false, false, true, true, false, false, false, true, true, false, false, false] rfl rfl (any_of HT_.out (by kernel_rfl)) (fun _ _ _ h => h) (Or.inl ⟨by rfl, ?_⟩) ?_ ?_
                        rotate_left
                        · intro w'
                          go_simp
                          with_reducible rfl
                        rotate_left
                        · simp only [Act.put, List.setIfInBounds_toArray, List.set_cons_zero, List.set_cons_succ, i64_w, i32_w]
                          rfl
                        refine one_ (i := 16) (N := some 22) #[true, true, true, true, true, true, true, true, true, true, true, true, true, true, true, true, true, false, false, true, true, false, false, false, true, true, false, false, false] rfl rfl (one_of HT_.out (by kernel_rfl)) (by decide) (fun K hK => ?_)
                        refine goes_ Tryd.func25 (by kernel_rfl) rfl #[.int .i64 a0_2] (by rfl) rfl rfl (by (try simp only [List.map_toArray, List.map_cons, List.map_nil]); first | done | rfl | (simp only [List.length_drop, List.length_take]; rfl)) ?_
                        with_reducible refine (spec_FormatInt.calls k a0_2 t267 _ A12.out).mono ?_
                        rintro e w27 ⟨rfl, hb⟩
                        refine ⟨_, rfl, ?_⟩
                        have n0_ := Aside0.mk (blk_below (g := gb262) (o := .cells #[.int .i64 a0_0, .int .i64 a0_1, .int .i64 a0_2, .int .i64 a0_3, .int .i64 a0_4, .int .i64 a0_5] 47 (0, 0)) (by (with_reducible repeat (first | refine blk_drewN ?_ _ | refine blk_drew ?_ | refine blk_alloc ?_ _)); exact BK262.out) hb)
                        have n1_ := Aside0.mk (below_step (by repeat (first | (with_reducible first | exact HB.out | apply below_alloc | apply pw_below_drewN | apply below_drew1 | refine below_set ?_ GE262.out) | exact HB.out)) hb)
                        clear BK262
                        clear HB
                        have BK262 := n0_
                        have HB := n1_
                        clear n0_ n1_
                        (try clear hb)
                        (try clear hb2)
                        (try clear hk)
                        (try clear hi)
                        refine hK.out _ _ ⟨(blk_cell BK262.out 0).trans rfl, (blk_cell BK262.out 1).trans rfl, (blk_cell BK262.out 2).trans rfl, (blk_cell BK262.out 3).trans rfl, (blk_cell BK262.out 4).trans rfl, (blk_cell BK262.out 5).trans rfl⟩ (fun hHeld => ?_)
                        clear hK K
                        refine norm_ (a' := ?_) ?_ ?_
                        rotate_left
                        · show Act.put _ (some 22) _ = _
                          simp only [Act.put, List.setIfInBounds_toArray, List.set_cons_zero, List.set_cons_succ, i64_w, i32_w]
                          rfl
                        refine pure_ (i := 17) (N := some 23) (v := ?_) (a' := ?_) #[true, true, true, true, true, true, true, true, true, true, true, true, true, true, true, true, true, true, false, true, true, false, false, false, true, true, false, false, false] rfl rfl (any_of HT_.out (by kernel_rfl)) (fun _ _ _ h => h) (Or.inl ⟨by rfl, ?_⟩) ?_ ?_
                        rotate_left
                        · intro w'
                          go_simp
                          with_reducible rfl
                        rotate_left
                        · simp only [Act.put, List.setIfInBounds_toArray, List.set_cons_zero, List.set_cons_succ, i64_w, i32_w]
                          rfl
                        refine pure_ (i := 18) (N := some 24) (v := ?_) (a' := ?_) #[true, true, true, true, true, true, true, true, true, true, true, true, true, true, true, true, true, true, true, true, true, false, false, false, true, true, false, false, false] rfl rfl (any_of HT_.out (by kernel_rfl)) (fun _ _ _ h => h) (Or.inl ⟨by rfl, ?_⟩) ?_ ?_
                        rotate_left
                        · intro w'
                          go_simp
                          with_reducible rfl
                        rotate_left
                        · simp only [Act.put, List.setIfInBounds_toArray, List.set_cons_zero, List.set_cons_succ, i64_w, i32_w]
                          rfl
                        refine one_ (i := 21) (N := some 27) #[true, true, true, true, true, true, true, true, true, true, true, true, true, true, true, true, true, true, true, true, true, true, false, false, true, true, false, false, false] rfl rfl (one_of HT_.out (by kernel_rfl)) (by decide) (fun K hK => ?_)
                        refine goes_ Tryd.func25 (by kernel_rfl) rfl #[.int .i64 a0_3] (by rfl) rfl rfl (by (try simp only [List.map_toArray, List.map_cons, List.map_nil]); first | done | rfl | (simp only [List.length_drop, List.length_take]; rfl)) ?_
                        with_reducible refine (spec_FormatInt.calls k a0_3 t268 _ A15.out).mono ?_
                        rintro e w28 ⟨rfl, hb⟩
                        refine ⟨_, rfl, ?_⟩
                        have n0_ := Aside0.mk (blk_below (g := gb262) (o := .cells #[.int .i64 a0_0, .int .i64 a0_1, .int .i64 a0_2, .int .i64 a0_3, .int .i64 a0_4, .int .i64 a0_5] 47 (0, 0)) (by (with_reducible repeat (first | refine blk_drewN ?_ _ | refine blk_drew ?_ | refine blk_alloc ?_ _)); exact BK262.out) hb)
                        have n1_ := Aside0.mk (below_step (by repeat (first | (with_reducible first | exact HB.out | apply below_alloc | apply pw_below_drewN | apply below_drew1 | refine below_set ?_ GE262.out) | exact HB.out)) hb)
                        clear BK262
                        clear HB
                        have BK262 := n0_
                        have HB := n1_
                        clear n0_ n1_
                        (try clear hb)
                        (try clear hb2)
                        (try clear hk)
                        (try clear hi)
                        refine hK.out _ _ ⟨(blk_cell BK262.out 0).trans rfl, (blk_cell BK262.out 1).trans rfl, (blk_cell BK262.out 2).trans rfl, (blk_cell BK262.out 3).trans rfl, (blk_cell BK262.out 4).trans rfl, (blk_cell BK262.out 5).trans rfl⟩ (fun hHeld => ?_)
                        clear hK K
                        refine norm_ (a' := ?_) ?_ ?_
                        rotate_left
                        · show Act.put _ (some 27) _ = _
                          simp only [Act.put, List.setIfInBounds_toArray, List.set_cons_zero, List.set_cons_succ, i64_w, i32_w]
                          rfl
                        refine pure_ (i := 22) (N := some 28) (v := ?_) (a' := ?_) #[true, true, true, true, true, true, true, true, true, true, true, true, true, true, true, true, true, true, true, true, true, true, true, false, true, true, false, false, false] rfl rfl (any_of HT_.out (by kernel_rfl)) (fun _ _ _ h => h) (Or.inl ⟨by rfl, ?_⟩) ?_ ?_
                        rotate_left
                        · intro w'
                          go_simp
                          with_reducible rfl
                        rotate_left
                        · simp only [Act.put, List.setIfInBounds_toArray, List.set_cons_zero, List.set_cons_succ, i64_w, i32_w]
                          rfl
                        refine pure_ (i := 23) (N := some 29) (v := ?_) (a' := ?_) #[true, true, true, true, true, true, true, true, true, true, true, true, true, true, true, true, true, true, true, true, true, true, true, true, true, true, false, false, false] rfl rfl (any_of HT_.out (by kernel_rfl)) (fun _ _ _ h => h) (Or.inl ⟨by rfl, ?_⟩) ?_ ?_
                        rotate_left
                        · intro w'
                          go_simp
                          with_reducible rfl
                        rotate_left
                        · simp only [Act.put, List.setIfInBounds_toArray, List.set_cons_zero, List.set_cons_succ, i64_w, i32_w]
                          rfl
                        refine one_ (i := 26) (N := some 32) #[true, true, true, true, true, true, true, true, true, true, true, true, true, true, true, true, true, true, true, true, true, true, true, true, true, true, true, false, false] rfl rfl (one_of HT_.out (by kernel_rfl)) (by decide) (fun K hK => ?_)
                        refine goes_ Tryd.func25 (by kernel_rfl) rfl #[.int .i64 a0_5] (by rfl) rfl rfl (by (try simp only [List.map_toArray, List.map_cons, List.map_nil]); first | done | rfl | (simp only [List.length_drop, List.length_take]; rfl)) ?_
                        with_reducible refine (spec_FormatInt.calls k a0_5 t269 _ A18.out).mono ?_
                        rintro e w29 ⟨rfl, hb⟩
                        refine ⟨_, rfl, ?_⟩
                        have n0_ := Aside0.mk (blk_below (g := gb262) (o := .cells #[.int .i64 a0_0, .int .i64 a0_1, .int .i64 a0_2, .int .i64 a0_3, .int .i64 a0_4, .int .i64 a0_5] 47 (0, 0)) (by (with_reducible repeat (first | refine blk_drewN ?_ _ | refine blk_drew ?_ | refine blk_alloc ?_ _)); exact BK262.out) hb)
                        have n1_ := Aside0.mk (below_step (by repeat (first | (with_reducible first | exact HB.out | apply below_alloc | apply pw_below_drewN | apply below_drew1 | refine below_set ?_ GE262.out) | exact HB.out)) hb)
                        clear BK262
                        clear HB
                        have BK262 := n0_
                        have HB := n1_
                        clear n0_ n1_
                        (try clear hb)
                        (try clear hb2)
                        (try clear hk)
                        (try clear hi)
                        refine hK.out _ _ ⟨(blk_cell BK262.out 0).trans rfl, (blk_cell BK262.out 1).trans rfl, (blk_cell BK262.out 2).trans rfl, (blk_cell BK262.out 3).trans rfl, (blk_cell BK262.out 4).trans rfl, (blk_cell BK262.out 5).trans rfl⟩ (fun hHeld => ?_)
                        clear hK K
                        refine norm_ (a' := ?_) ?_ ?_
                        rotate_left
                        · show Act.put _ (some 32) _ = _
                          simp only [Act.put, List.setIfInBounds_toArray, List.set_cons_zero, List.set_cons_succ, i64_w, i32_w]
                          rfl
                        refine pure_ (i := 27) (N := some 33) (v := ?_) (a' := ?_) #[true, true, true, true, true, true, true, true, true, true, true, true, true, true, true, true, true, true, true, true, true, true, true, true, true, true, true, true, false] rfl rfl (any_of HT_.out (by kernel_rfl)) (fun _ _ _ h => h) (Or.inl ⟨by rfl, ?_⟩) ?_ ?_
                        rotate_left
                        · intro w'
                          go_simp
                          with_reducible rfl
                        rotate_left
                        · simp only [Act.put, List.setIfInBounds_toArray, List.set_cons_zero, List.set_cons_succ, i64_w, i32_w]
                          rfl
                        refine pure_ (i := 28) (N := some 2) (v := ?_) (a' := ?_) #[true, true, true, true, true, true, true, true, true, true, true, true, true, true, true, true, true, true, true, true, true, true, true, true, true, true, true, true, true] rfl rfl (any_of HT_.out (by kernel_rfl)) (fun _ _ _ h => h) (Or.inl ⟨by rfl, ?_⟩) ?_ ?_
                        rotate_left
                        · intro w'
                          go_simp
                          with_reducible rfl
                        rotate_left
                        · simp only [Act.put, List.setIfInBounds_toArray, List.set_cons_zero, List.set_cons_succ, i64_w, i32_w]
                          rfl
                        refine done_ (done_of HT_.out (by kernel_rfl)) ?_
                        try go_wp2
                        go_ret
                        exact ⟨by first | rfl | (refine congrArg Ending.returned (congrArg Value.bool ?_); generalize ByteArray.toList _ = l_; cases l_ <;> rfl) | (simp [errW_none, errW_some] <;> rfl) | (simp [*, errW_none, errW_some] <;> rfl), by repeat (first | (with_reducible first | exact HB.out | apply below_alloc | apply pw_below_drewN | apply below_drew1 | refine below_set ?_ GE262.out) | exact HB.out)⟩
                      · rw [if_neg c19] at H
                        exact absurd H (by simp)
                    · rw [if_neg c17] at H
                      exact absurd H (by simp)
                  · rw [if_neg c16] at H
                    exact absurd H (by simp)
                · rw [if_neg c14] at H
                  exact absurd H (by simp)
              · rw [if_neg c13] at H
                exact absurd H (by simp)
            · rw [if_neg c11] at H
              exact absurd H (by simp)
          · rw [if_neg c10] at H
            exact absurd H (by simp)
        · rw [if_neg c8] at H
          exact absurd H (by simp)
      · rw [if_neg c7] at H
        exact absurd H (by simp)
    · rw [if_neg c5] at H
      exact absurd H (by simp)
  · replace c3 := Bool.eq_false_iff.mpr c3
    subst c3
    have H1 : (some (⟨#[]⟩ : ByteArray)) = some r := by rw [if_neg (show ¬ (false = true) by decide)] at H; exact H
    clear H
    have H := H1
    clear H1
    obtain rfl := Option.some.inj H
    go_enter Tryd.func58, Tryd.ntmps58
    go_wp2_with (first | ((with_reducible refine gate_dst (N := 1) rfl ?_); refine box_event ?hg (N := 1) ?hd (cs := #[.int .i64 a0_0, .int .i64 a0_1, .int .i64 a0_2, .int .i64 a0_3, .int .i64 a0_4, .int .i64 a0_5]) (t := 47) ?hr ?_; (case hd => rfl); (case hg => rfl); (case hr => first | (go_simp; done) | (go_simp; rfl)); intro gb262 hg w30 hbox hb; have n0_ := Aside0.mk (below_step (by repeat (first | (with_reducible first | exact HB.out | apply below_alloc | apply pw_below_drewN | apply below_drew1) | exact HB.out)) hb); have n1_ := Aside0.mk (hbox); have n2_ := Aside0.mk ((by rw [hg]; exact (below_size (by repeat (first | (with_reducible first | exact HB.out | apply below_alloc | apply pw_below_drewN | apply below_drew1) | exact HB.out))) : w.heap.size ≤ gb262)); have n3_ := Aside0.mk ((by rw [hg]; exact (below_size (by repeat (first | (with_reducible first | exact HB.out | apply below_alloc | apply pw_below_drewN | apply below_drew1) | exact HB.out))) : w.heap.size ≤ gb262)); clear HB; have HB := n0_; have BK262 := n1_; have GW262 := n2_; have GE262 := n3_; clear n0_ n1_ n2_ n3_; clear hb hbox hg; have hcz31_0 : w30.cell? ⟨gb262, 0, none⟩ = some (.int .i64 a0_0) := (blk_cell BK262.out 0).trans rfl; have hcz31_1 : w30.cell? ⟨gb262, 1, none⟩ = some (.int .i64 a0_1) := (blk_cell BK262.out 1).trans rfl; have hcz31_2 : w30.cell? ⟨gb262, 2, none⟩ = some (.int .i64 a0_2) := (blk_cell BK262.out 2).trans rfl; have hcz31_3 : w30.cell? ⟨gb262, 3, none⟩ = some (.int .i64 a0_3) := (blk_cell BK262.out 3).trans rfl; have hcz31_4 : w30.cell? ⟨gb262, 4, none⟩ = some (.int .i64 a0_4) := (blk_cell BK262.out 4).trans rfl; have hcz31_5 : w30.cell? ⟨gb262, 5, none⟩ = some (.int .i64 a0_5) := (blk_cell BK262.out 5).trans rfl; have hfz31_0 := blk_frozen BK262.out 0; have hfz31_1 := blk_frozen BK262.out 1; have hfz31_2 := blk_frozen BK262.out 2; have hfz31_3 := blk_frozen BK262.out 3; have hfz31_4 := blk_frozen BK262.out 4; have hfz31_5 := blk_frozen BK262.out 5) | ((with_reducible refine gate_callee (f := 59) rfl ?_); refine goesL_ (some 4) rfl rfl Tryd.func59 (by kernel_rfl) rfl #[.agg #[.int .i64 a0_0, .int .i64 a0_1, .int .i64 a0_2, .int .i64 a0_3, .int .i64 a0_4, .int .i64 a0_5]] rfl (by (try simp only [List.map_toArray, List.map_cons, List.map_nil]); first | done | rfl | (simp only [List.length_drop, List.length_take]; rfl)) ?_; (with_reducible refine (spec_IsConfig.calls a0_0 a0_1 a0_2 a0_3 a0_4 a0_5 false _ A2.out).mono ?_); rintro e w32 ⟨rfl, hb⟩; refine ⟨_, rfl, ?_⟩; have n0_ := Aside0.mk (blk_below (g := gb262) (o := .cells #[.int .i64 a0_0, .int .i64 a0_1, .int .i64 a0_2, .int .i64 a0_3, .int .i64 a0_4, .int .i64 a0_5] 47 (0, 0)) (by (with_reducible repeat (first | refine blk_drewN ?_ _ | refine blk_drew ?_ | refine blk_alloc ?_ _)); exact BK262.out) hb); have n1_ := Aside0.mk (below_step (by repeat (first | (with_reducible first | exact HB.out | apply below_alloc | apply pw_below_drewN | apply below_drew1 | refine below_set ?_ GE262.out) | exact HB.out)) hb); clear BK262; clear HB; have BK262 := n0_; have HB := n1_; clear n0_ n1_; (try clear hb); (try clear hb2); (try clear hk); (try clear hi)))
    go_ret
    exact ⟨by first | rfl | (refine congrArg Ending.returned (congrArg Value.bool ?_); generalize ByteArray.toList _ = l_; cases l_ <;> rfl) | (simp [errW_none, errW_some] <;> rfl) | (simp [*, errW_none, errW_some] <;> rfl), by repeat (first | (with_reducible first | exact HB.out | apply below_alloc | apply pw_below_drewN | apply below_drew1 | refine below_set ?_ GE262.out) | exact HB.out)⟩

/-! ### impl_ClockCell: function 60 -/
def impl_ClockCell.f  : Option (Int) := some 0
set_option maxHeartbeats 8000000 in
set_option maxRecDepth 100000 in
theorem impl_ClockCell.calls  (r : Int) (w : World) (h : impl_ClockCell.f  = some r) :
    Calls Tryd.prog 60 #[] w fun e w' => e = .returned (.int .i64 r) ∧ Drawn0 w w' := by
  have H : (some 0) = some r := h
  clear h
  obtain rfl := Option.some.inj H
  go_enter Tryd.func60, Tryd.ntmps60
  go_wp2
  go_ret
  exact ⟨by first | rfl | (refine congrArg Ending.returned (congrArg Value.bool ?_); generalize ByteArray.toList _ = l_; cases l_ <;> rfl) | (simp; done) | (simp [*]; done), by repeat (first | exact Drawn0.refl _ | apply Drawn0.step)⟩

/-! ### impl_ArenaCell: function 61 -/
def impl_ArenaCell.f  : Option (Int) := some 1
set_option maxHeartbeats 8000000 in
set_option maxRecDepth 100000 in
theorem impl_ArenaCell.calls  (r : Int) (w : World) (h : impl_ArenaCell.f  = some r) :
    Calls Tryd.prog 61 #[] w fun e w' => e = .returned (.int .i64 r) ∧ Drawn0 w w' := by
  have H : (some 1) = some r := h
  clear h
  obtain rfl := Option.some.inj H
  go_enter Tryd.func61, Tryd.ntmps61
  go_wp2
  go_ret
  exact ⟨by first | rfl | (refine congrArg Ending.returned (congrArg Value.bool ?_); generalize ByteArray.toList _ = l_; cases l_ <;> rfl) | (simp; done) | (simp [*]; done), by repeat (first | exact Drawn0.refl _ | apply Drawn0.step)⟩

end Go.Proofs.YtbenihcaleiacabDoor.GFnLayout
