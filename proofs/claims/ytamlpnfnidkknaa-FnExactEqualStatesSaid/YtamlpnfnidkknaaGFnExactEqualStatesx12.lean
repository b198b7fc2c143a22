/- Of each Go function that the law FnExactEqualStates reaches: a Lean function, and the proof that the call comes to just its answer; written by a turned copy of the kit's printer, with contracts typed by hand for functions that it does not take. No condition. -/
import Derived.Test.YtamlpnfnidkknaaGFnExactEqualStatesx0
import Derived.Test.YtamlpnfnidkknaaGFnExactEqualStatesx11
namespace Go.Proofs.Ytamlpnfnidkknaa.GFnExactEqualStates
open Go.RowKit Go.Proofs.YtamlpnfnidkknaaW.PrintWords Go.Proofs.YtamlpnfnidkknaaW.PrintLast Go.Proofs.YtamlpnfnidkknaaW.PrintMore
attribute [local go_sem] max2_int min2_int max_two min_two max_three min_three max_four min_four   -- for this text's walks alone
set_option linter.unusedVariables false
set_option linter.unusedSimpArgs false

/-! ### laws_eqThreadS: function 39 -/
def laws_eqThreadS.l0 : Nat → List (S36) → List (S36) → Int → Option (Bool)
  | 0, _, _, _ => none
  | k + 1, x0, x1, x5 => if x5 < (x0.length : Int) then (if 0 ≤ x5 then (if x5 < (x1.length : Int) then ((laws_eqThread.f k ((rd_T36 x0 x5).f0) ((rd_T36 x0 x5).f1.f0) ((rd_T36 x0 x5).f1.f1) ((rd_T36 x0 x5).f1.f2) ((rd_T36 x0 x5).f2.f0) ((rd_T36 x0 x5).f2.f1) ((rd_T36 x0 x5).f3) ((rd_T36 x0 x5).f4) ((rd_T36 x0 x5).f5) ((rd_T36 x0 x5).f6) ((rd_T36 x0 x5).f7) ((rd_T36 x0 x5).f8) ((rd_T36 x0 x5).f9) ((rd_T36 x0 x5).f10) ((rd_T36 x0 x5).f11) ((rd_T36 x0 x5).f12) ((rd_T36 x0 x5).f13) ((rd_T36 x0 x5).f14) ((rd_T36 x0 x5).f15) ((rd_T36 x1 x5).f0) ((rd_T36 x1 x5).f1.f0) ((rd_T36 x1 x5).f1.f1) ((rd_T36 x1 x5).f1.f2) ((rd_T36 x1 x5).f2.f0) ((rd_T36 x1 x5).f2.f1) ((rd_T36 x1 x5).f3) ((rd_T36 x1 x5).f4) ((rd_T36 x1 x5).f5) ((rd_T36 x1 x5).f6) ((rd_T36 x1 x5).f7) ((rd_T36 x1 x5).f8) ((rd_T36 x1 x5).f9) ((rd_T36 x1 x5).f10) ((rd_T36 x1 x5).f11) ((rd_T36 x1 x5).f12) ((rd_T36 x1 x5).f13) ((rd_T36 x1 x5).f14) ((rd_T36 x1 x5).f15)).bind fun t271 => (if t271 = true then (laws_eqThreadS.l0 k x0 x1 (wrap64 (x5 + 1))) else (none))) else (none)) else (none)) else (some true)
def laws_eqThreadS.f (k : Nat) (l0 : List (S36)) (l1 : List (S36)) : Option (Bool) := if (l0.length : Int) = (l1.length : Int) then (laws_eqThreadS.l0 k l0 l1 0) else (none)
theorem laws_eqThreadS.mono_l : ∀ k, (∀ y0 y1 y2, LeO (laws_eqThreadS.l0 k y0 y1 y2) (laws_eqThreadS.l0 (k + 1) y0 y1 y2))
  | 0 => fun _ _ _ r h => by simp [laws_eqThreadS.l0] at h
  | k + 1 => by
    have ih0 := laws_eqThreadS.mono_l k
    · intro y0 y1 y2
      unfold laws_eqThreadS.l0
      repeat' first
      | (with_reducible exact ih0 _ _ _)
      | (with_reducible exact laws_eqThread.mono _ _ _ _ _ _ _ _ _ _ _ _ _ _ _ _ _ _ _ _ _ _ _ _ _ _ _ _ _ _ _ _ _ _ _ _ _ _ _)
      | (with_reducible exact LeO.refl _)
      | (with_reducible exact LeO.none _)
      | (with_reducible refine LeO.ite ?_ ?_)
      | (with_reducible refine LeO.bind ?_ (fun _ => ?_))
      | exact ih0 _ _ _
      | exact laws_eqThread.mono _ _ _ _ _ _ _ _ _ _ _ _ _ _ _ _ _ _ _ _ _ _ _ _ _ _ _ _ _ _ _ _ _ _ _ _ _ _ _
      | exact LeO.none _
      | refine LeO.ite ?_ ?_
      | refine LeO.bind ?_ (fun _ => ?_)
theorem laws_eqThreadS.mono : ∀ a0 a1 k, LeO (laws_eqThreadS.f k a0 a1) (laws_eqThreadS.f (k + 1) a0 a1) := by
  intro a0 a1 k
  have ih0 := laws_eqThreadS.mono_l k
  unfold laws_eqThreadS.f
  repeat' first
      | (with_reducible exact ih0 _ _ _)
      | (with_reducible exact laws_eqThread.mono _ _ _ _ _ _ _ _ _ _ _ _ _ _ _ _ _ _ _ _ _ _ _ _ _ _ _ _ _ _ _ _ _ _ _ _ _ _ _)
      | (with_reducible exact LeO.refl _)
      | (with_reducible exact LeO.none _)
      | (with_reducible refine LeO.ite ?_ ?_)
      | (with_reducible refine LeO.bind ?_ (fun _ => ?_))
      | exact ih0 _ _ _
      | exact laws_eqThread.mono _ _ _ _ _ _ _ _ _ _ _ _ _ _ _ _ _ _ _ _ _ _ _ _ _ _ _ _ _ _ _ _ _ _ _ _ _ _ _
      | exact LeO.none _
      | refine LeO.ite ?_ ?_
      | refine LeO.bind ?_ (fun _ => ?_)
def laws_eqThreadS.T6 : Bool × List (List Nat × List Nat) := (true, [([], []), ([], []), ([0, 1], [0, 1]), ([2], [2]), ([], []), ([], []), ([4, 5], [4, 5]), ([6], [6]), ([3, 7], [3, 7]), ([8], [8])])
def laws_eqThreadS.B6 : List Nat := [0, 0, 3, 7, 0, 0, 48, 112, 255, 511]
theorem laws_eqThreadS.tab6 : rtab .any (opsOf Try.f39 6) = laws_eqThreadS.T6 := by kernel_rfl
theorem laws_eqThreadS.bits6 : waitsOk laws_eqThreadS.T6.2 laws_eqThreadS.B6 = true := by kernel_rfl
set_option maxHeartbeats 8000000 in
set_option maxRecDepth 100000 in
theorem laws_eqThreadS.calls (k : Nat) (A0 : Option Addr) (c0 : Nat) (l0 : List (S36)) (A1 : Option Addr) (c1 : Nat) (l1 : List (S36)) (r : Bool) (w : World) (hr0 : Kd.C k36 w A0 l0.length l0) (hc0 : l0.length ≤ c0) (hr1 : Kd.C k36 w A1 l1.length l1) (hc1 : l1.length ≤ c1) (h : laws_eqThreadS.f k l0 l1 = some r) :
    Calls Try.prog 39 #[.slice A0 l0.length c0, .slice A1 l1.length c1] w fun e w' => e = .returned (.bool r) ∧ Below w.heap.size w w' := by
  have hu36 := Try.underlying36
  have HR0 := Aside0.mk hr0
  have HC0 := Aside0.mk hc0
  clear hr0 hc0
  have HR1 := Aside0.mk hr1
  have HC1 := Aside0.mk hc1
  clear hr1 hc1
  have HB := Aside0.mk (Below.refl w.heap.size w)
  have H : (if (l0.length : Int) = (l1.length : Int) then (laws_eqThreadS.l0 k l0 l1 0) else (none)) = some r := h
  clear h
  by_cases c3 : (l0.length : Int) = (l1.length : Int)
  · rw [if_pos c3] at H
    have c3b0 : ((l0.length : Int) == (l1.length : Int)) = true := beq_iff_eq.mpr c3
    have c3b1 : ((l0.length : Int) != (l1.length : Int)) = false := bne_eq_false_iff_eq.mpr c3
    have c3b2 : (l0.length == l1.length) = true := by first | simpa using c3 | (simp at c3 ⊢; omega)
    clear c3
    have H' := Aside0.mk H
    clear H
    go_enter Try.func39, Try.ntmps39
    go_wp2
    go_loopg [5] k (fun kq v5 w' => ∃ (x5_1 : Int), v5 = .int .i64 x5_1 ∧ Aside0 (laws_eqThreadS.l0 kq l0 l1 x5_1 = some r) ∧ Aside0 (kq ≤ k) ∧ Aside0 (Below w.heap.size w w'))
    case atStart => exact ⟨(0), (by first | rfl | (simp; done) | (simp [*]; done) | (simp [*]; generalize ByteArray.toList _ = l_; cases l_ <;> rfl)), H', ⟨Nat.le_refl _⟩, ⟨by repeat (first | (with_reducible first | exact HB.out | apply below_alloc | apply pw_below_drewN | apply below_drew1) | exact HB.out)⟩⟩
    case round =>
      clear H'
      try clear c1
      try clear p2
      try clear c3
      try clear c3b0
      try clear c3b1
      try clear c3b2
      obtain ⟨x5_1, rfl, HA, HK1, HB⟩ := hrel
      cases gk with
      | zero => exact absurd HA.out (by simp [laws_eqThreadS.l0])
      | succ k1 =>
        have H := HA.out
        clear HA
        simp only [laws_eqThreadS.l0] at H
        by_cases c4 : x5_1 < (l0.length : Int)
        · rw [if_pos c4] at H
          have c4b0 : decide (x5_1 < (l0.length : Int)) = true := decide_eq_true c4
          clear c4
          by_cases c5 : 0 ≤ x5_1
          · rw [if_pos c5] at H
            have c5b0 : decide (0 ≤ x5_1) = true := decide_eq_true c5
            clear c5
            by_cases c6 : x5_1 < (l1.length : Int)
            · rw [if_pos c6] at H
              have c6b0 : decide (x5_1 < (l1.length : Int)) = true := decide_eq_true c6
              clear c6
              replace H := Option.bind_eq_some_iff.mp H
              obtain ⟨t271, A70, H⟩ := H
              replace H : (if t271 = true then (laws_eqThreadS.l0 k1 l0 l1 (wrap64 (x5_1 + 1))) else (none)) = some r := H
              have A7 := Aside0.mk A70
              clear A70
              by_cases c8 : t271 = true
              · subst c8
                have H1 : (laws_eqThreadS.l0 k1 l0 l1 (wrap64 (x5_1 + 1))) = some r := by rw [if_pos rfl] at H; exact H
                clear H
                have H := H1
                clear H1
                have H' := Aside0.mk H
                clear H
                try go_wp2
                have n0_ := Aside0.mk (below_drew1 HB.out)
                clear HB
                have HB := n0_
                clear n0_
                have p269 : 0 ≤ (x5_1 : Int) := of_decide_eq_true (by first | (with_reducible assumption) | assumption)
                have q269 : x5_1 < (l0.length : Int) := of_decide_eq_true (by first | (with_reducible assumption) | assumption)
                obtain ⟨ad269, A269_14, c269_14, A269_15, c269_15, A269_16, c269_16, A269_17, c269_17, A269_18, c269_18, e269, hx269_0, hx269_1, hx269_2, hx269_3, hx269_4, hx269_5, hx269_6, hx269_7, hx269_8, hx269_9, hx269_10, hx269_11, hx269_12, hx269_13, hx269_14, hx269_15, hx269_16, hx269_17, hx269_18, hl269_14, hi269_14, hl269_15, hi269_15, hl269_16, hi269_16, hl269_17, hi269_17, hl269_18, hi269_18⟩ := at_T36 HR0.out x5_1 p269 q269
                have hw269_18 := hx269_18
                have hw269_17 := hx269_17
                have hw269_16 := hx269_16
                have hw269_15 := hx269_15
                have hw269_14 := hx269_14
                have hw269_13 := hx269_13
                have hw269_12 := hx269_12
                have hw269_11 := hx269_11
                have hw269_10 := hx269_10
                have hw269_9 := hx269_9
                have hw269_8 := hx269_8
                have hw269_7 := hx269_7
                have hw269_6 := hx269_6
                have hw269_5 := hx269_5
                have hw269_4 := hx269_4
                have hw269_3 := hx269_3
                have hw269_2 := hx269_2
                have hw269_1 := hx269_1
                have hw269_0 := hx269_0
                cases e269
                replace hx269_0 := (HB.out.cell (World.block_lt_of_cell? w _ hx269_0)).trans hx269_0
                replace hx269_1 := (HB.out.cell (World.block_lt_of_cell? w _ hx269_1)).trans hx269_1
                replace hx269_2 := (HB.out.cell (World.block_lt_of_cell? w _ hx269_2)).trans hx269_2
                replace hx269_3 := (HB.out.cell (World.block_lt_of_cell? w _ hx269_3)).trans hx269_3
                replace hx269_4 := (HB.out.cell (World.block_lt_of_cell? w _ hx269_4)).trans hx269_4
                replace hx269_5 := (HB.out.cell (World.block_lt_of_cell? w _ hx269_5)).trans hx269_5
                replace hx269_6 := (HB.out.cell (World.block_lt_of_cell? w _ hx269_6)).trans hx269_6
                replace hx269_7 := (HB.out.cell (World.block_lt_of_cell? w _ hx269_7)).trans hx269_7
                replace hx269_8 := (HB.out.cell (World.block_lt_of_cell? w _ hx269_8)).trans hx269_8
                replace hx269_9 := (HB.out.cell (World.block_lt_of_cell? w _ hx269_9)).trans hx269_9
                replace hx269_10 := (HB.out.cell (World.block_lt_of_cell? w _ hx269_10)).trans hx269_10
                replace hx269_11 := (HB.out.cell (World.block_lt_of_cell? w _ hx269_11)).trans hx269_11
                replace hx269_12 := (HB.out.cell (World.block_lt_of_cell? w _ hx269_12)).trans hx269_12
                replace hx269_13 := (HB.out.cell (World.block_lt_of_cell? w _ hx269_13)).trans hx269_13
                replace hx269_14 := (HB.out.cell (World.block_lt_of_cell? w _ hx269_14)).trans hx269_14
                replace hx269_15 := (HB.out.cell (World.block_lt_of_cell? w _ hx269_15)).trans hx269_15
                replace hx269_16 := (HB.out.cell (World.block_lt_of_cell? w _ hx269_16)).trans hx269_16
                replace hx269_17 := (HB.out.cell (World.block_lt_of_cell? w _ hx269_17)).trans hx269_17
                replace hx269_18 := (HB.out.cell (World.block_lt_of_cell? w _ hx269_18)).trans hx269_18
                have HR269_14 := Aside0.mk hi269_14
                have HC269_14 := Aside0.mk hl269_14
                clear hi269_14 hl269_14
                have HR269_15 := Aside0.mk hi269_15
                have HC269_15 := Aside0.mk hl269_15
                clear hi269_15 hl269_15
                have HR269_16 := Aside0.mk hi269_16
                have HC269_16 := Aside0.mk hl269_16
                clear hi269_16 hl269_16
                have HR269_17 := Aside0.mk hi269_17
                have HC269_17 := Aside0.mk hl269_17
                clear hi269_17 hl269_17
                have HR269_18 := Aside0.mk hi269_18
                have HC269_18 := Aside0.mk hl269_18
                clear hi269_18 hl269_18
                replace p269 := eq_true p269
                replace q269 := eq_true q269
                have p270 : 0 ≤ (x5_1 : Int) := of_decide_eq_true (by first | (with_reducible assumption) | assumption)
                have q270 : x5_1 < (l1.length : Int) := of_decide_eq_true (by first | (with_reducible assumption) | assumption)
                obtain ⟨ad270, A270_14, c270_14, A270_15, c270_15, A270_16, c270_16, A270_17, c270_17, A270_18, c270_18, e270, hx270_0, hx270_1, hx270_2, hx270_3, hx270_4, hx270_5, hx270_6, hx270_7, hx270_8, hx270_9, hx270_10, hx270_11, hx270_12, hx270_13, hx270_14, hx270_15, hx270_16, hx270_17, hx270_18, hl270_14, hi270_14, hl270_15, hi270_15, hl270_16, hi270_16, hl270_17, hi270_17, hl270_18, hi270_18⟩ := at_T36 HR1.out x5_1 p270 q270
                have hw270_18 := hx270_18
                have hw270_17 := hx270_17
                have hw270_16 := hx270_16
                have hw270_15 := hx270_15
                have hw270_14 := hx270_14
                have hw270_13 := hx270_13
                have hw270_12 := hx270_12
                have hw270_11 := hx270_11
                have hw270_10 := hx270_10
                have hw270_9 := hx270_9
                have hw270_8 := hx270_8
                have hw270_7 := hx270_7
                have hw270_6 := hx270_6
                have hw270_5 := hx270_5
                have hw270_4 := hx270_4
                have hw270_3 := hx270_3
                have hw270_2 := hx270_2
                have hw270_1 := hx270_1
                have hw270_0 := hx270_0
                cases e270
                replace hx270_0 := (HB.out.cell (World.block_lt_of_cell? w _ hx270_0)).trans hx270_0
                replace hx270_1 := (HB.out.cell (World.block_lt_of_cell? w _ hx270_1)).trans hx270_1
                replace hx270_2 := (HB.out.cell (World.block_lt_of_cell? w _ hx270_2)).trans hx270_2
                replace hx270_3 := (HB.out.cell (World.block_lt_of_cell? w _ hx270_3)).trans hx270_3
                replace hx270_4 := (HB.out.cell (World.block_lt_of_cell? w _ hx270_4)).trans hx270_4
                replace hx270_5 := (HB.out.cell (World.block_lt_of_cell? w _ hx270_5)).trans hx270_5
                replace hx270_6 := (HB.out.cell (World.block_lt_of_cell? w _ hx270_6)).trans hx270_6
                replace hx270_7 := (HB.out.cell (World.block_lt_of_cell? w _ hx270_7)).trans hx270_7
                replace hx270_8 := (HB.out.cell (World.block_lt_of_cell? w _ hx270_8)).trans hx270_8
                replace hx270_9 := (HB.out.cell (World.block_lt_of_cell? w _ hx270_9)).trans hx270_9
                replace hx270_10 := (HB.out.cell (World.block_lt_of_cell? w _ hx270_10)).trans hx270_10
                replace hx270_11 := (HB.out.cell (World.block_lt_of_cell? w _ hx270_11)).trans hx270_11
                replace hx270_12 := (HB.out.cell (World.block_lt_of_cell? w _ hx270_12)).trans hx270_12
                replace hx270_13 := (HB.out.cell (World.block_lt_of_cell? w _ hx270_13)).trans hx270_13
                replace hx270_14 := (HB.out.cell (World.block_lt_of_cell? w _ hx270_14)).trans hx270_14
                replace hx270_15 := (HB.out.cell (World.block_lt_of_cell? w _ hx270_15)).trans hx270_15
                replace hx270_16 := (HB.out.cell (World.block_lt_of_cell? w _ hx270_16)).trans hx270_16
                replace hx270_17 := (HB.out.cell (World.block_lt_of_cell? w _ hx270_17)).trans hx270_17
                replace hx270_18 := (HB.out.cell (World.block_lt_of_cell? w _ hx270_18)).trans hx270_18
                have HR270_14 := Aside0.mk hi270_14
                have HC270_14 := Aside0.mk hl270_14
                clear hi270_14 hl270_14
                have HR270_15 := Aside0.mk hi270_15
                have HC270_15 := Aside0.mk hl270_15
                clear hi270_15 hl270_15
                have HR270_16 := Aside0.mk hi270_16
                have HC270_16 := Aside0.mk hl270_16
                clear hi270_16 hl270_16
                have HR270_17 := Aside0.mk hi270_17
                have HC270_17 := Aside0.mk hl270_17
                clear hi270_17 hl270_17
                have HR270_18 := Aside0.mk hi270_18
                have HC270_18 := Aside0.mk hl270_18
                clear hi270_18 hl270_18
                replace p270 := eq_true p270
                replace q270 := eq_true q270
                refine start_ (n := 10) (S := fun w' => w'.cell? (ad269.add ((x5_1).toNat * 19)) = some (.int .i64 ((rd_T36 l0 x5_1).f0)) ∧ w'.cell? ⟨(ad269.add ((x5_1).toNat * 19)).block, (ad269.add ((x5_1).toNat * 19)).off + 1, none⟩ = some (.int .i64 ((rd_T36 l0 x5_1).f1.f0)) ∧ w'.cell? ⟨(ad269.add ((x5_1).toNat * 19)).block, (ad269.add ((x5_1).toNat * 19)).off + 2, none⟩ = some (.int .i64 ((rd_T36 l0 x5_1).f1.f1)) ∧ w'.cell? ⟨(ad269.add ((x5_1).toNat * 19)).block, (ad269.add ((x5_1).toNat * 19)).off + 3, none⟩ = some (.int .i64 ((rd_T36 l0 x5_1).f1.f2)) ∧ w'.cell? ⟨(ad269.add ((x5_1).toNat * 19)).block, (ad269.add ((x5_1).toNat * 19)).off + 4, none⟩ = some (.int .i64 ((rd_T36 l0 x5_1).f2.f0)) ∧ w'.cell? ⟨(ad269.add ((x5_1).toNat * 19)).block, (ad269.add ((x5_1).toNat * 19)).off + 5, none⟩ = some (.int .i64 ((rd_T36 l0 x5_1).f2.f1)) ∧ w'.cell? ⟨(ad269.add ((x5_1).toNat * 19)).block, (ad269.add ((x5_1).toNat * 19)).off + 6, none⟩ = some (.int .i64 ((rd_T36 l0 x5_1).f3)) ∧ w'.cell? ⟨(ad269.add ((x5_1).toNat * 19)).block, (ad269.add ((x5_1).toNat * 19)).off + 7, none⟩ = some (.int .i64 ((rd_T36 l0 x5_1).f4)) ∧ w'.cell? ⟨(ad269.add ((x5_1).toNat * 19)).block, (ad269.add ((x5_1).toNat * 19)).off + 8, none⟩ = some (.int .i64 ((rd_T36 l0 x5_1).f5)) ∧ w'.cell? ⟨(ad269.add ((x5_1).toNat * 19)).block, (ad269.add ((x5_1).toNat * 19)).off + 9, none⟩ = some (.int .i64 ((rd_T36 l0 x5_1).f6)) ∧ w'.cell? ⟨(ad269.add ((x5_1).toNat * 19)).block, (ad269.add ((x5_1).toNat * 19)).off + 10, none⟩ = some (.int .i64 ((rd_T36 l0 x5_1).f7)) ∧ w'.cell? ⟨(ad269.add ((x5_1).toNat * 19)).block, (ad269.add ((x5_1).toNat * 19)).off + 11, none⟩ = some (.int .i64 ((rd_T36 l0 x5_1).f8)) ∧ w'.cell? ⟨(ad269.add ((x5_1).toNat * 19)).block, (ad269.add ((x5_1).toNat * 19)).off + 12, none⟩ = some (.int .i64 ((rd_T36 l0 x5_1).f9)) ∧ w'.cell? ⟨(ad269.add ((x5_1).toNat * 19)).block, (ad269.add ((x5_1).toNat * 19)).off + 13, none⟩ = some (.int .i64 ((rd_T36 l0 x5_1).f10)) ∧ w'.cell? ⟨(ad269.add ((x5_1).toNat * 19)).block, (ad269.add ((x5_1).toNat * 19)).off + 14, none⟩ = some (.slice A269_14 ((rd_T36 l0 x5_1).f11).length c269_14) ∧ w'.cell? ⟨(ad269.add ((x5_1).toNat * 19)).block, (ad269.add ((x5_1).toNat * 19)).off + 15, none⟩ = some (.slice A269_15 ((rd_T36 l0 x5_1).f12).length c269_15) ∧ w'.cell? ⟨(ad269.add ((x5_1).toNat * 19)).block, (ad269.add ((x5_1).toNat * 19)).off + 16, none⟩ = some (.slice A269_16 ((rd_T36 l0 x5_1).f13).length c269_16) ∧ w'.cell? ⟨(ad269.add ((x5_1).toNat * 19)).block, (ad269.add ((x5_1).toNat * 19)).off + 17, none⟩ = some (.slice A269_17 ((rd_T36 l0 x5_1).f14).length c269_17) ∧ w'.cell? ⟨(ad269.add ((x5_1).toNat * 19)).block, (ad269.add ((x5_1).toNat * 19)).off + 18, none⟩ = some (.slice A269_18 ((rd_T36 l0 x5_1).f15).length c269_18) ∧ w'.cell? (ad270.add ((x5_1).toNat * 19)) = some (.int .i64 ((rd_T36 l1 x5_1).f0)) ∧ w'.cell? ⟨(ad270.add ((x5_1).toNat * 19)).block, (ad270.add ((x5_1).toNat * 19)).off + 1, none⟩ = some (.int .i64 ((rd_T36 l1 x5_1).f1.f0)) ∧ w'.cell? ⟨(ad270.add ((x5_1).toNat * 19)).block, (ad270.add ((x5_1).toNat * 19)).off + 2, none⟩ = some (.int .i64 ((rd_T36 l1 x5_1).f1.f1)) ∧ w'.cell? ⟨(ad270.add ((x5_1).toNat * 19)).block, (ad270.add ((x5_1).toNat * 19)).off + 3, none⟩ = some (.int .i64 ((rd_T36 l1 x5_1).f1.f2)) ∧ w'.cell? ⟨(ad270.add ((x5_1).toNat * 19)).block, (ad270.add ((x5_1).toNat * 19)).off + 4, none⟩ = some (.int .i64 ((rd_T36 l1 x5_1).f2.f0)) ∧ w'.cell? ⟨(ad270.add ((x5_1).toNat * 19)).block, (ad270.add ((x5_1).toNat * 19)).off + 5, none⟩ = some (.int .i64 ((rd_T36 l1 x5_1).f2.f1)) ∧ w'.cell? ⟨(ad270.add ((x5_1).toNat * 19)).block, (ad270.add ((x5_1).toNat * 19)).off + 6, none⟩ = some (.int .i64 ((rd_T36 l1 x5_1).f3)) ∧ w'.cell? ⟨(ad270.add ((x5_1).toNat * 19)).block, (ad270.add ((x5_1).toNat * 19)).off + 7, none⟩ = some (.int .i64 ((rd_T36 l1 x5_1).f4)) ∧ w'.cell? ⟨(ad270.add ((x5_1).toNat * 19)).block, (ad270.add ((x5_1).toNat * 19)).off + 8, none⟩ = some (.int .i64 ((rd_T36 l1 x5_1).f5)) ∧ w'.cell? ⟨(ad270.add ((x5_1).toNat * 19)).block, (ad270.add ((x5_1).toNat * 19)).off + 9, none⟩ = some (.int .i64 ((rd_T36 l1 x5_1).f6)) ∧ w'.cell? ⟨(ad270.add ((x5_1).toNat * 19)).block, (ad270.add ((x5_1).toNat * 19)).off + 10, none⟩ = some (.int .i64 ((rd_T36 l1 x5_1).f7)) ∧ w'.cell? ⟨(ad270.add ((x5_1).toNat * 19)).block, (ad270.add ((x5_1).toNat * 19)).off + 11, none⟩ = some (.int .i64 ((rd_T36 l1 x5_1).f8)) ∧ w'.cell? ⟨(ad270.add ((x5_1).toNat * 19)).block, (ad270.add ((x5_1).toNat * 19)).off + 12, none⟩ = some (.int .i64 ((rd_T36 l1 x5_1).f9)) ∧ w'.cell? ⟨(ad270.add ((x5_1).toNat * 19)).block, (ad270.add ((x5_1).toNat * 19)).off + 13, none⟩ = some (.int .i64 ((rd_T36 l1 x5_1).f10)) ∧ w'.cell? ⟨(ad270.add ((x5_1).toNat * 19)).block, (ad270.add ((x5_1).toNat * 19)).off + 14, none⟩ = some (.slice A270_14 ((rd_T36 l1 x5_1).f11).length c270_14) ∧ w'.cell? ⟨(ad270.add ((x5_1).toNat * 19)).block, (ad270.add ((x5_1).toNat * 19)).off + 15, none⟩ = some (.slice A270_15 ((rd_T36 l1 x5_1).f12).length c270_15) ∧ w'.cell? ⟨(ad270.add ((x5_1).toNat * 19)).block, (ad270.add ((x5_1).toNat * 19)).off + 16, none⟩ = some (.slice A270_16 ((rd_T36 l1 x5_1).f13).length c270_16) ∧ w'.cell? ⟨(ad270.add ((x5_1).toNat * 19)).block, (ad270.add ((x5_1).toNat * 19)).off + 17, none⟩ = some (.slice A270_17 ((rd_T36 l1 x5_1).f14).length c270_17) ∧ w'.cell? ⟨(ad270.add ((x5_1).toNat * 19)).block, (ad270.add ((x5_1).toNat * 19)).off + 18, none⟩ = some (.slice A270_18 ((rd_T36 l1 x5_1).f15).length c270_18)) (ds := []) #[false, false, false, false, false, false, false, false, false, false] (by kernel_rfl) rfl rfl ⟨((HB.out.cell (World.block_lt_of_cell? w _ hw269_0)).trans hw269_0), ((HB.out.cell (World.block_lt_of_cell? w _ hw269_1)).trans hw269_1), ((HB.out.cell (World.block_lt_of_cell? w _ hw269_2)).trans hw269_2), ((HB.out.cell (World.block_lt_of_cell? w _ hw269_3)).trans hw269_3), ((HB.out.cell (World.block_lt_of_cell? w _ hw269_4)).trans hw269_4), ((HB.out.cell (World.block_lt_of_cell? w _ hw269_5)).trans hw269_5), ((HB.out.cell (World.block_lt_of_cell? w _ hw269_6)).trans hw269_6), ((HB.out.cell (World.block_lt_of_cell? w _ hw269_7)).trans hw269_7), ((HB.out.cell (World.block_lt_of_cell? w _ hw269_8)).trans hw269_8), ((HB.out.cell (World.block_lt_of_cell? w _ hw269_9)).trans hw269_9), ((HB.out.cell (World.block_lt_of_cell? w _ hw269_10)).trans hw269_10), ((HB.out.cell (World.block_lt_of_cell? w _ hw269_11)).trans hw269_11), ((HB.out.cell (World.block_lt_of_cell? w _ hw269_12)).trans hw269_12), ((HB.out.cell (World.block_lt_of_cell? w _ hw269_13)).trans hw269_13), ((HB.out.cell (World.block_lt_of_cell? w _ hw269_14)).trans hw269_14), ((HB.out.cell (World.block_lt_of_cell? w _ hw269_15)).trans hw269_15), ((HB.out.cell (World.block_lt_of_cell? w _ hw269_16)).trans hw269_16), ((HB.out.cell (World.block_lt_of_cell? w _ hw269_17)).trans hw269_17), ((HB.out.cell (World.block_lt_of_cell? w _ hw269_18)).trans hw269_18), ((HB.out.cell (World.block_lt_of_cell? w _ hw270_0)).trans hw270_0), ((HB.out.cell (World.block_lt_of_cell? w _ hw270_1)).trans hw270_1), ((HB.out.cell (World.block_lt_of_cell? w _ hw270_2)).trans hw270_2), ((HB.out.cell (World.block_lt_of_cell? w _ hw270_3)).trans hw270_3), ((HB.out.cell (World.block_lt_of_cell? w _ hw270_4)).trans hw270_4), ((HB.out.cell (World.block_lt_of_cell? w _ hw270_5)).trans hw270_5), ((HB.out.cell (World.block_lt_of_cell? w _ hw270_6)).trans hw270_6), ((HB.out.cell (World.block_lt_of_cell? w _ hw270_7)).trans hw270_7), ((HB.out.cell (World.block_lt_of_cell? w _ hw270_8)).trans hw270_8), ((HB.out.cell (World.block_lt_of_cell? w _ hw270_9)).trans hw270_9), ((HB.out.cell (World.block_lt_of_cell? w _ hw270_10)).trans hw270_10), ((HB.out.cell (World.block_lt_of_cell? w _ hw270_11)).trans hw270_11), ((HB.out.cell (World.block_lt_of_cell? w _ hw270_12)).trans hw270_12), ((HB.out.cell (World.block_lt_of_cell? w _ hw270_13)).trans hw270_13), ((HB.out.cell (World.block_lt_of_cell? w _ hw270_14)).trans hw270_14), ((HB.out.cell (World.block_lt_of_cell? w _ hw270_15)).trans hw270_15), ((HB.out.cell (World.block_lt_of_cell? w _ hw270_16)).trans hw270_16), ((HB.out.cell (World.block_lt_of_cell? w _ hw270_17)).trans hw270_17), ((HB.out.cell (World.block_lt_of_cell? w _ hw270_18)).trans hw270_18)⟩ (fun hHeld => ?_); refine with_tabW laws_eqThreadS.tab6 laws_eqThreadS.bits6 (fun HT_ HW_ => ?_)
                generalize wr.drew = w9 at HB HR269_14 HR269_15 HR269_16 HR269_17 HR269_18 HR270_14 HR270_15 HR270_16 HR270_17 HR270_18 hx269_0 hx269_1 hx269_10 hx269_11 hx269_12 hx269_13 hx269_14 hx269_15 hx269_16 hx269_17 hx269_18 hx269_2 hx269_3 hx269_4 hx269_5 hx269_6 hx269_7 hx269_8 hx269_9 hx270_0 hx270_1 hx270_10 hx270_11 hx270_12 hx270_13 hx270_14 hx270_15 hx270_16 hx270_17 hx270_18 hx270_2 hx270_3 hx270_4 hx270_5 hx270_6 hx270_7 hx270_8 hx270_9 hHeld ⊢
                refine pure_ (i := 0) (N := some 17) (v := ?_) (a' := ?_) #[true, false, false, false, false, false, false, false, false, false] rfl rfl (any_of HT_.out (by kernel_rfl)) (fun _ _ _ h => h) (Or.inl ⟨by rfl, ?_⟩) ?_ ?_
                rotate_left
                · intro w'
                  go_simp
                  with_reducible rfl
                rotate_left
                · simp only [Act.put, List.setIfInBounds_toArray, List.set_cons_zero, List.set_cons_succ, i64_w, i32_w]
                  rfl
                refine pure_ (i := 1) (N := some 18) (v := ?_) (a' := ?_) #[true, true, false, false, false, false, false, false, false, false] rfl rfl (any_of HT_.out (by kernel_rfl)) (fun _ _ _ h => h) (Or.inl ⟨by rfl, ?_⟩) ?_ ?_
                rotate_left
                · intro w'
                  go_simp
                  with_reducible rfl
                rotate_left
                · simp only [Act.put, List.setIfInBounds_toArray, List.set_cons_zero, List.set_cons_succ, i64_w, i32_w]
                  rfl
                refine pure_ (i := 2) (N := some 19) (v := ?_) (a' := ?_) #[true, true, true, false, false, false, false, false, false, false] rfl rfl (any_of HT_.out (by kernel_rfl)) (fun _ _ _ h => h) (Or.inl ⟨by rfl, ?_⟩) ?_ ?_
                rotate_left
                · intro w'
                  go_simp
                  with_reducible rfl
                rotate_left
                · simp only [Act.put, List.setIfInBounds_toArray, List.set_cons_zero, List.set_cons_succ, i64_w, i32_w]
                  rfl
                refine pure_ (i := 4) (N := some 21) (v := ?_) (a' := ?_) #[true, true, true, false, true, false, false, false, false, false] rfl rfl (any_of HT_.out (by kernel_rfl)) (fun _ _ _ h => h) (Or.inl ⟨by rfl, ?_⟩) ?_ ?_
                rotate_left
                · intro w'
                  go_simp
                  with_reducible rfl
                rotate_left
                · simp only [Act.put, List.setIfInBounds_toArray, List.set_cons_zero, List.set_cons_succ, i64_w, i32_w]
                  rfl
                refine pure_ (i := 5) (N := some 22) (v := ?_) (a' := ?_) #[true, true, true, false, true, true, false, false, false, false] rfl rfl (any_of HT_.out (by kernel_rfl)) (fun _ _ _ h => h) (Or.inl ⟨by rfl, ?_⟩) ?_ ?_
                rotate_left
                · intro w'
                  go_simp
                  with_reducible rfl
                rotate_left
                · simp only [Act.put, List.setIfInBounds_toArray, List.set_cons_zero, List.set_cons_succ, i64_w, i32_w]
                  rfl
                refine pure_ (i := 6) (N := some 23) (v := ?_) (a' := ?_) #[true, true, true, false, true, true, true, false, false, false] rfl rfl (any_of HT_.out (by kernel_rfl)) (fun _ _ _ h => h) (Or.inl ⟨by rfl, ?_⟩) ?_ ?_
                rotate_left
                · intro w'
                  go_simp
                  with_reducible rfl
                rotate_left
                · simp only [Act.put, List.setIfInBounds_toArray, List.set_cons_zero, List.set_cons_succ, i64_w, i32_w]
                  rfl
                refine take_ (i := 3) (N := some 20) (v := ?_) (a' := ?_) #[true, true, true, true, true, true, true, false, false, false] rfl rfl (take_ofW HT_.out HW_.out (by kernel_rfl)) (fun _ _ _ h => h) (Or.inl ⟨by rfl, ?_⟩) hHeld ?_ ?_
                rotate_left
                · rintro w' ⟨s0, s1, s2, s3, s4, s5, s6, s7, s8, s9, s10, s11, s12, s13, s14, s15, s16, s17, s18, s19, s20, s21, s22, s23, s24, s25, s26, s27, s28, s29, s30, s31, s32, s33, s34, s35, s36, s37⟩
                  first | refine (run_load_elem (ad269.add ((x5_1).toNat * 19)) (cs := [.int .i64 ((rd_T36 l0 x5_1).f0), .int .i64 ((rd_T36 l0 x5_1).f1.f0), .int .i64 ((rd_T36 l0 x5_1).f1.f1), .int .i64 ((rd_T36 l0 x5_1).f1.f2), .int .i64 ((rd_T36 l0 x5_1).f2.f0), .int .i64 ((rd_T36 l0 x5_1).f2.f1), .int .i64 ((rd_T36 l0 x5_1).f3), .int .i64 ((rd_T36 l0 x5_1).f4), .int .i64 ((rd_T36 l0 x5_1).f5), .int .i64 ((rd_T36 l0 x5_1).f6), .int .i64 ((rd_T36 l0 x5_1).f7), .int .i64 ((rd_T36 l0 x5_1).f8), .int .i64 ((rd_T36 l0 x5_1).f9), .int .i64 ((rd_T36 l0 x5_1).f10), .slice A269_14 ((rd_T36 l0 x5_1).f11).length c269_14, .slice A269_15 ((rd_T36 l0 x5_1).f12).length c269_15, .slice A269_16 ((rd_T36 l0 x5_1).f13).length c269_16, .slice A269_17 ((rd_T36 l0 x5_1).f14).length c269_17, .slice A269_18 ((rd_T36 l0 x5_1).f15).length c269_18]) ⟨s0, s1, s2, s3, s4, s5, s6, s7, s8, s9, s10, s11, s12, s13, s14, s15, s16, s17, s18, trivial⟩ 36 (.tmp 19) (by rfl) (by rfl) _ Try.underlying36 rfl (by kernel_rfl)).trans ?_ | refine (run_load_elem (ad270.add ((x5_1).toNat * 19)) (cs := [.int .i64 ((rd_T36 l1 x5_1).f0), .int .i64 ((rd_T36 l1 x5_1).f1.f0), .int .i64 ((rd_T36 l1 x5_1).f1.f1), .int .i64 ((rd_T36 l1 x5_1).f1.f2), .int .i64 ((rd_T36 l1 x5_1).f2.f0), .int .i64 ((rd_T36 l1 x5_1).f2.f1), .int .i64 ((rd_T36 l1 x5_1).f3), .int .i64 ((rd_T36 l1 x5_1).f4), .int .i64 ((rd_T36 l1 x5_1).f5), .int .i64 ((rd_T36 l1 x5_1).f6), .int .i64 ((rd_T36 l1 x5_1).f7), .int .i64 ((rd_T36 l1 x5_1).f8), .int .i64 ((rd_T36 l1 x5_1).f9), .int .i64 ((rd_T36 l1 x5_1).f10), .slice A270_14 ((rd_T36 l1 x5_1).f11).length c270_14, .slice A270_15 ((rd_T36 l1 x5_1).f12).length c270_15, .slice A270_16 ((rd_T36 l1 x5_1).f13).length c270_16, .slice A270_17 ((rd_T36 l1 x5_1).f14).length c270_17, .slice A270_18 ((rd_T36 l1 x5_1).f15).length c270_18]) ⟨s19, s20, s21, s22, s23, s24, s25, s26, s27, s28, s29, s30, s31, s32, s33, s34, s35, s36, s37, trivial⟩ 36 (.tmp 19) (by rfl) (by rfl) _ Try.underlying36 rfl (by kernel_rfl)).trans ?_ | go_simp
                  with_reducible rfl
                rotate_left
                · simp only [Act.put, List.setIfInBounds_toArray, List.set_cons_zero, List.set_cons_succ, i64_w, i32_w]
                  rfl
                refine take_ (i := 7) (N := some 24) (v := ?_) (a' := ?_) #[true, true, true, true, true, true, true, true, false, false] rfl rfl (take_ofW HT_.out HW_.out (by kernel_rfl)) (fun _ _ _ h => h) (Or.inl ⟨by rfl, ?_⟩) hHeld ?_ ?_
                rotate_left
                · rintro w' ⟨s0, s1, s2, s3, s4, s5, s6, s7, s8, s9, s10, s11, s12, s13, s14, s15, s16, s17, s18, s19, s20, s21, s22, s23, s24, s25, s26, s27, s28, s29, s30, s31, s32, s33, s34, s35, s36, s37⟩
                  first | refine (run_load_elem (ad269.add ((x5_1).toNat * 19)) (cs := [.int .i64 ((rd_T36 l0 x5_1).f0), .int .i64 ((rd_T36 l0 x5_1).f1.f0), .int .i64 ((rd_T36 l0 x5_1).f1.f1), .int .i64 ((rd_T36 l0 x5_1).f1.f2), .int .i64 ((rd_T36 l0 x5_1).f2.f0), .int .i64 ((rd_T36 l0 x5_1).f2.f1), .int .i64 ((rd_T36 l0 x5_1).f3), .int .i64 ((rd_T36 l0 x5_1).f4), .int .i64 ((rd_T36 l0 x5_1).f5), .int .i64 ((rd_T36 l0 x5_1).f6), .int .i64 ((rd_T36 l0 x5_1).f7), .int .i64 ((rd_T36 l0 x5_1).f8), .int .i64 ((rd_T36 l0 x5_1).f9), .int .i64 ((rd_T36 l0 x5_1).f10), .slice A269_14 ((rd_T36 l0 x5_1).f11).length c269_14, .slice A269_15 ((rd_T36 l0 x5_1).f12).length c269_15, .slice A269_16 ((rd_T36 l0 x5_1).f13).length c269_16, .slice A269_17 ((rd_T36 l0 x5_1).f14).length c269_17, .slice A269_18 ((rd_T36 l0 x5_1).f15).length c269_18]) ⟨s0, s1, s2, s3, s4, s5, s6, s7, s8, s9, s10, s11, s12, s13, s14, s15, s16, s17, s18, trivial⟩ 36 (.tmp 23) (by rfl) (by rfl) _ Try.underlying36 rfl (by kernel_rfl)).trans ?_ | refine (run_load_elem (ad270.add ((x5_1).toNat * 19)) (cs := [.int .i64 ((rd_T36 l1 x5_1).f0), .int .i64 ((rd_T36 l1 x5_1).f1.f0), .int .i64 ((rd_T36 l1 x5_1).f1.f1), .int .i64 ((rd_T36 l1 x5_1).f1.f2), .int .i64 ((rd_T36 l1 x5_1).f2.f0), .int .i64 ((rd_T36 l1 x5_1).f2.f1), .int .i64 ((rd_T36 l1 x5_1).f3), .int .i64 ((rd_T36 l1 x5_1).f4), .int .i64 ((rd_T36 l1 x5_1).f5), .int .i64 ((rd_T36 l1 x5_1).f6), .int .i64 ((rd_T36 l1 x5_1).f7), .int .i64 ((rd_T36 l1 x5_1).f8), .int .i64 ((rd_T36 l1 x5_1).f9), .int .i64 ((rd_T36 l1 x5_1).f10), .slice A270_14 ((rd_T36 l1 x5_1).f11).length c270_14, .slice A270_15 ((rd_T36 l1 x5_1).f12).length c270_15, .slice A270_16 ((rd_T36 l1 x5_1).f13).length c270_16, .slice A270_17 ((rd_T36 l1 x5_1).f14).length c270_17, .slice A270_18 ((rd_T36 l1 x5_1).f15).length c270_18]) ⟨s19, s20, s21, s22, s23, s24, s25, s26, s27, s28, s29, s30, s31, s32, s33, s34, s35, s36, s37, trivial⟩ 36 (.tmp 23) (by rfl) (by rfl) _ Try.underlying36 rfl (by kernel_rfl)).trans ?_ | go_simp
                  with_reducible rfl
                rotate_left
                · simp only [Act.put, List.setIfInBounds_toArray, List.set_cons_zero, List.set_cons_succ, i64_w, i32_w]
                  rfl
                refine one_ (i := 8) (N := some 25) #[true, true, true, true, true, true, true, true, true, false] rfl rfl (one_of HT_.out (by kernel_rfl)) (by decide) (fun K hK => ?_)
                refine goes_ Try.func10 (by kernel_rfl) rfl #[.agg #[.int .i64 ((rd_T36 l0 x5_1).f0), .int .i64 ((rd_T36 l0 x5_1).f1.f0), .int .i64 ((rd_T36 l0 x5_1).f1.f1), .int .i64 ((rd_T36 l0 x5_1).f1.f2), .int .i64 ((rd_T36 l0 x5_1).f2.f0), .int .i64 ((rd_T36 l0 x5_1).f2.f1), .int .i64 ((rd_T36 l0 x5_1).f3), .int .i64 ((rd_T36 l0 x5_1).f4), .int .i64 ((rd_T36 l0 x5_1).f5), .int .i64 ((rd_T36 l0 x5_1).f6), .int .i64 ((rd_T36 l0 x5_1).f7), .int .i64 ((rd_T36 l0 x5_1).f8), .int .i64 ((rd_T36 l0 x5_1).f9), .int .i64 ((rd_T36 l0 x5_1).f10), .slice A269_14 ((rd_T36 l0 x5_1).f11).length c269_14, .slice A269_15 ((rd_T36 l0 x5_1).f12).length c269_15, .slice A269_16 ((rd_T36 l0 x5_1).f13).length c269_16, .slice A269_17 ((rd_T36 l0 x5_1).f14).length c269_17, .slice A269_18 ((rd_T36 l0 x5_1).f15).length c269_18], .agg #[.int .i64 ((rd_T36 l1 x5_1).f0), .int .i64 ((rd_T36 l1 x5_1).f1.f0), .int .i64 ((rd_T36 l1 x5_1).f1.f1), .int .i64 ((rd_T36 l1 x5_1).f1.f2), .int .i64 ((rd_T36 l1 x5_1).f2.f0), .int .i64 ((rd_T36 l1 x5_1).f2.f1), .int .i64 ((rd_T36 l1 x5_1).f3), .int .i64 ((rd_T36 l1 x5_1).f4), .int .i64 ((rd_T36 l1 x5_1).f5), .int .i64 ((rd_T36 l1 x5_1).f6), .int .i64 ((rd_T36 l1 x5_1).f7), .int .i64 ((rd_T36 l1 x5_1).f8), .int .i64 ((rd_T36 l1 x5_1).f9), .int .i64 ((rd_T36 l1 x5_1).f10), .slice A270_14 ((rd_T36 l1 x5_1).f11).length c270_14, .slice A270_15 ((rd_T36 l1 x5_1).f12).length c270_15, .slice A270_16 ((rd_T36 l1 x5_1).f13).length c270_16, .slice A270_17 ((rd_T36 l1 x5_1).f14).length c270_17, .slice A270_18 ((rd_T36 l1 x5_1).f15).length c270_18]] (by rfl) rfl rfl (by (try simp only [List.map_toArray, List.map_cons, List.map_nil]); first | done | rfl | (simp only [List.length_drop, List.length_take]; rfl)) ?_
                with_reducible refine (laws_eqThread.calls k1 ((rd_T36 l0 x5_1).f0) ((rd_T36 l0 x5_1).f1.f0) ((rd_T36 l0 x5_1).f1.f1) ((rd_T36 l0 x5_1).f1.f2) ((rd_T36 l0 x5_1).f2.f0) ((rd_T36 l0 x5_1).f2.f1) ((rd_T36 l0 x5_1).f3) ((rd_T36 l0 x5_1).f4) ((rd_T36 l0 x5_1).f5) ((rd_T36 l0 x5_1).f6) ((rd_T36 l0 x5_1).f7) ((rd_T36 l0 x5_1).f8) ((rd_T36 l0 x5_1).f9) ((rd_T36 l0 x5_1).f10) _ _ ((rd_T36 l0 x5_1).f11) _ _ ((rd_T36 l0 x5_1).f12) _ _ ((rd_T36 l0 x5_1).f13) _ _ ((rd_T36 l0 x5_1).f14) _ _ ((rd_T36 l0 x5_1).f15) ((rd_T36 l1 x5_1).f0) ((rd_T36 l1 x5_1).f1.f0) ((rd_T36 l1 x5_1).f1.f1) ((rd_T36 l1 x5_1).f1.f2) ((rd_T36 l1 x5_1).f2.f0) ((rd_T36 l1 x5_1).f2.f1) ((rd_T36 l1 x5_1).f3) ((rd_T36 l1 x5_1).f4) ((rd_T36 l1 x5_1).f5) ((rd_T36 l1 x5_1).f6) ((rd_T36 l1 x5_1).f7) ((rd_T36 l1 x5_1).f8) ((rd_T36 l1 x5_1).f9) ((rd_T36 l1 x5_1).f10) _ _ ((rd_T36 l1 x5_1).f11) _ _ ((rd_T36 l1 x5_1).f12) _ _ ((rd_T36 l1 x5_1).f13) _ _ ((rd_T36 l1 x5_1).f14) _ _ ((rd_T36 l1 x5_1).f15) true _ ?side1 ?side2 ?side3 ?side4 ?side5 ?side6 ?side7 ?side8 ?side9 ?side10 ?side11 ?side12 ?side13 ?side14 ?side15 ?side16 ?side17 ?side18 ?side19 ?side20 A7.out).mono ?_
                (case side1 => repeat (first | exact (Kd.C_below HR269_14.out HB.out) | (with_reducible refine Kd.C_alloc ?_ _) | (with_reducible refine Kd.C_drewN ?_ _) | (with_reducible refine Kd.C_drew ?_)))
                (case side2 => exact HC269_14.out)
                (case side3 => repeat (first | exact (Kd.C_below HR269_15.out HB.out) | (with_reducible refine Kd.C_alloc ?_ _) | (with_reducible refine Kd.C_drewN ?_ _) | (with_reducible refine Kd.C_drew ?_)))
                (case side4 => exact HC269_15.out)
                (case side5 => repeat (first | exact (Kd.C_below HR269_16.out HB.out) | (with_reducible refine Kd.C_alloc ?_ _) | (with_reducible refine Kd.C_drewN ?_ _) | (with_reducible refine Kd.C_drew ?_)))
                (case side6 => exact HC269_16.out)
                (case side7 => repeat (first | exact (Kd.C_below HR269_17.out HB.out) | (with_reducible refine Kd.C_alloc ?_ _) | (with_reducible refine Kd.C_drewN ?_ _) | (with_reducible refine Kd.C_drew ?_)))
                (case side8 => exact HC269_17.out)
                (case side9 => repeat (first | exact (Kd.C_below HR269_18.out HB.out) | (with_reducible refine Kd.C_alloc ?_ _) | (with_reducible refine Kd.C_drewN ?_ _) | (with_reducible refine Kd.C_drew ?_)))
                (case side10 => exact HC269_18.out)
                (case side11 => repeat (first | exact (Kd.C_below HR270_14.out HB.out) | (with_reducible refine Kd.C_alloc ?_ _) | (with_reducible refine Kd.C_drewN ?_ _) | (with_reducible refine Kd.C_drew ?_)))
                (case side12 => exact HC270_14.out)
                (case side13 => repeat (first | exact (Kd.C_below HR270_15.out HB.out) | (with_reducible refine Kd.C_alloc ?_ _) | (with_reducible refine Kd.C_drewN ?_ _) | (with_reducible refine Kd.C_drew ?_)))
                (case side14 => exact HC270_15.out)
                (case side15 => repeat (first | exact (Kd.C_below HR270_16.out HB.out) | (with_reducible refine Kd.C_alloc ?_ _) | (with_reducible refine Kd.C_drewN ?_ _) | (with_reducible refine Kd.C_drew ?_)))
                (case side16 => exact HC270_16.out)
                (case side17 => repeat (first | exact (Kd.C_below HR270_17.out HB.out) | (with_reducible refine Kd.C_alloc ?_ _) | (with_reducible refine Kd.C_drewN ?_ _) | (with_reducible refine Kd.C_drew ?_)))
                (case side18 => exact HC270_17.out)
                (case side19 => repeat (first | exact (Kd.C_below HR270_18.out HB.out) | (with_reducible refine Kd.C_alloc ?_ _) | (with_reducible refine Kd.C_drewN ?_ _) | (with_reducible refine Kd.C_drew ?_)))
                (case side20 => exact HC270_18.out)
                rintro e w10 ⟨rfl, hb⟩
                refine ⟨_, rfl, ?_⟩
                have n0_ := Aside0.mk (below_step (by repeat (first | (with_reducible first | exact HB.out | apply below_alloc | apply pw_below_drewN | apply below_drew1) | exact HB.out)) hb)
                clear HB
                have HB := n0_
                clear n0_
                (try clear hb)
                (try clear hb2)
                (try clear hk)
                (try clear hi)
                refine hK.out _ _ ⟨((HB.out.cell (World.block_lt_of_cell? w _ hw269_0)).trans hw269_0), ((HB.out.cell (World.block_lt_of_cell? w _ hw269_1)).trans hw269_1), ((HB.out.cell (World.block_lt_of_cell? w _ hw269_2)).trans hw269_2), ((HB.out.cell (World.block_lt_of_cell? w _ hw269_3)).trans hw269_3), ((HB.out.cell (World.block_lt_of_cell? w _ hw269_4)).trans hw269_4), ((HB.out.cell (World.block_lt_of_cell? w _ hw269_5)).trans hw269_5), ((HB.out.cell (World.block_lt_of_cell? w _ hw269_6)).trans hw269_6), ((HB.out.cell (World.block_lt_of_cell? w _ hw269_7)).trans hw269_7), ((HB.out.cell (World.block_lt_of_cell? w _ hw269_8)).trans hw269_8), ((HB.out.cell (World.block_lt_of_cell? w _ hw269_9)).trans hw269_9), ((HB.out.cell (World.block_lt_of_cell? w _ hw269_10)).trans hw269_10), ((HB.out.cell (World.block_lt_of_cell? w _ hw269_11)).trans hw269_11), ((HB.out.cell (World.block_lt_of_cell? w _ hw269_12)).trans hw269_12), ((HB.out.cell (World.block_lt_of_cell? w _ hw269_13)).trans hw269_13), ((HB.out.cell (World.block_lt_of_cell? w _ hw269_14)).trans hw269_14), ((HB.out.cell (World.block_lt_of_cell? w _ hw269_15)).trans hw269_15), ((HB.out.cell (World.block_lt_of_cell? w _ hw269_16)).trans hw269_16), ((HB.out.cell (World.block_lt_of_cell? w _ hw269_17)).trans hw269_17), ((HB.out.cell (World.block_lt_of_cell? w _ hw269_18)).trans hw269_18), ((HB.out.cell (World.block_lt_of_cell? w _ hw270_0)).trans hw270_0), ((HB.out.cell (World.block_lt_of_cell? w _ hw270_1)).trans hw270_1), ((HB.out.cell (World.block_lt_of_cell? w _ hw270_2)).trans hw270_2), ((HB.out.cell (World.block_lt_of_cell? w _ hw270_3)).trans hw270_3), ((HB.out.cell (World.block_lt_of_cell? w _ hw270_4)).trans hw270_4), ((HB.out.cell (World.block_lt_of_cell? w _ hw270_5)).trans hw270_5), ((HB.out.cell (World.block_lt_of_cell? w _ hw270_6)).trans hw270_6), ((HB.out.cell (World.block_lt_of_cell? w _ hw270_7)).trans hw270_7), ((HB.out.cell (World.block_lt_of_cell? w _ hw270_8)).trans hw270_8), ((HB.out.cell (World.block_lt_of_cell? w _ hw270_9)).trans hw270_9), ((HB.out.cell (World.block_lt_of_cell? w _ hw270_10)).trans hw270_10), ((HB.out.cell (World.block_lt_of_cell? w _ hw270_11)).trans hw270_11), ((HB.out.cell (World.block_lt_of_cell? w _ hw270_12)).trans hw270_12), ((HB.out.cell (World.block_lt_of_cell? w _ hw270_13)).trans hw270_13), ((HB.out.cell (World.block_lt_of_cell? w _ hw270_14)).trans hw270_14), ((HB.out.cell (World.block_lt_of_cell? w _ hw270_15)).trans hw270_15), ((HB.out.cell (World.block_lt_of_cell? w _ hw270_16)).trans hw270_16), ((HB.out.cell (World.block_lt_of_cell? w _ hw270_17)).trans hw270_17), ((HB.out.cell (World.block_lt_of_cell? w _ hw270_18)).trans hw270_18)⟩ (fun hHeld => ?_)
                clear hK K
                refine norm_ (a' := ?_) ?_ ?_
                rotate_left
                · show Act.put _ (some 25) _ = _
                  simp only [Act.put, List.setIfInBounds_toArray, List.set_cons_zero, List.set_cons_succ, i64_w, i32_w]
                  rfl
                refine pure_ (i := 9) (N := some 26) (v := ?_) (a' := ?_) #[true, true, true, true, true, true, true, true, true, true] rfl rfl (any_of HT_.out (by kernel_rfl)) (fun _ _ _ h => h) (Or.inl ⟨by rfl, ?_⟩) ?_ ?_
                rotate_left
                · intro w'
                  go_simp
                  with_reducible rfl
                rotate_left
                · simp only [Act.put, List.setIfInBounds_toArray, List.set_cons_zero, List.set_cons_succ, i64_w, i32_w]
                  rfl
                refine done_ (done_of HT_.out (by kernel_rfl)) ?_
                try go_wp2
                go_roundg k1
                case measure => have := HK1.out; omega
                case rel => exact ⟨(wrap64 (x5_1 + 1)), (by first | rfl | (simp; done) | (simp [*]; done) | (simp [*]; generalize ByteArray.toList _ = l_; cases l_ <;> rfl)), H', ⟨by have := HK1.out; omega⟩, ⟨by repeat (first | (with_reducible first | exact HB.out | apply below_alloc | apply pw_below_drewN | apply below_drew1) | exact HB.out)⟩⟩
              · replace c8 := Bool.eq_false_iff.mpr c8
                subst c8
                have H1 : (none) = some r := by rw [if_neg (show ¬ (false = true) by decide)] at H; exact H
                clear H
                have H := H1
                clear H1
                exact absurd H (by simp)
            · rw [if_neg c6] at H
              exact absurd H (by simp)
          · rw [if_neg c5] at H
            exact absurd H (by simp)
        · rw [if_neg c4] at H
          have c4b0 : decide (x5_1 < (l0.length : Int)) = false := decide_eq_false c4
          clear c4
          obtain rfl := Option.some.inj H
          go_wp2
          go_ret
          exact ⟨by first | rfl | (refine congrArg Ending.returned (congrArg Value.bool ?_); generalize ByteArray.toList _ = l_; cases l_ <;> rfl) | (simp [errW_none, errW_some] <;> rfl) | (simp [*, errW_none, errW_some] <;> rfl), by repeat (first | (with_reducible first | exact HB.out | apply below_alloc | apply pw_below_drewN | apply below_drew1) | exact HB.out)⟩
  · rw [if_neg c3] at H
    exact absurd H (by simp)

/-! ### laws_eqState: function 15 -/
def laws_eqState.f (k : Nat) (a0_0 : Int) (a0_1 : Int) (a0_2 : Int) (a0_3 : Int) (a0_4 : Int) (a0_5 : Int) (l0_6 : List Int) (l0_7 : List Int) (l0_8 : List (S36)) (a0_9 : Int) (a0_10 : Int) (a0_11 : Int) (a0_12 : Int) (a1_0 : Int) (a1_1 : Int) (a1_2 : Int) (a1_3 : Int) (a1_4 : Int) (a1_5 : Int) (l1_6 : List Int) (l1_7 : List Int) (l1_8 : List (S36)) (a1_9 : Int) (a1_10 : Int) (a1_11 : Int) (a1_12 : Int) : Option (Bool) := (laws_eqConfig.f a0_0 a0_1 a0_2 a0_3 a0_4 a0_5 a1_0 a1_1 a1_2 a1_3 a1_4 a1_5).bind fun t274 => (if t274 = true then ((laws_eqIntS.f k l0_6 l1_6).bind fun t275 => (if t275 = true then ((laws_eqIntS.f k l0_7 l1_7).bind fun t276 => (if t276 = true then ((laws_eqThreadS.f k l0_8 l1_8).bind fun t277 => (if t277 = true then (if a0_9 = a1_9 then (if a0_10 = a1_10 then (if a0_11 = a1_11 then (if a0_12 = a1_12 then (some true) else (none)) else (none)) else (none)) else (none)) else (none))) else (none))) else (none))) else (none))
theorem laws_eqState.mono : ∀ a0 a1 a2 a3 a4 a5 a6 a7 a8 a9 a10 a11 a12 a13 a14 a15 a16 a17 a18 a19 a20 a21 a22 a23 a24 a25 k, LeO (laws_eqState.f k a0 a1 a2 a3 a4 a5 a6 a7 a8 a9 a10 a11 a12 a13 a14 a15 a16 a17 a18 a19 a20 a21 a22 a23 a24 a25) (laws_eqState.f (k + 1) a0 a1 a2 a3 a4 a5 a6 a7 a8 a9 a10 a11 a12 a13 a14 a15 a16 a17 a18 a19 a20 a21 a22 a23 a24 a25) := by
  intro a0 a1 a2 a3 a4 a5 a6 a7 a8 a9 a10 a11 a12 a13 a14 a15 a16 a17 a18 a19 a20 a21 a22 a23 a24 a25 k
  unfold laws_eqState.f
  repeat' first
      | (with_reducible exact laws_eqIntS.mono _ _ _)
      | (with_reducible exact laws_eqThreadS.mono _ _ _)
      | (with_reducible exact LeO.refl _)
      | (with_reducible exact LeO.none _)
      | (with_reducible refine LeO.ite ?_ ?_)
      | (with_reducible refine LeO.bind ?_ (fun _ => ?_))
      | exact laws_eqIntS.mono _ _ _
      | exact laws_eqThreadS.mono _ _ _
      | exact LeO.none _
      | refine LeO.ite ?_ ?_
      | refine LeO.bind ?_ (fun _ => ?_)
set_option maxHeartbeats 8000000 in
set_option maxRecDepth 100000 in
theorem laws_eqState.calls (k : Nat) (a0_0 : Int) (a0_1 : Int) (a0_2 : Int) (a0_3 : Int) (a0_4 : Int) (a0_5 : Int) (A0_6 : Option Addr) (c0_6 : Nat) (l0_6 : List Int) (A0_7 : Option Addr) (c0_7 : Nat) (l0_7 : List Int) (A0_8 : Option Addr) (c0_8 : Nat) (l0_8 : List (S36)) (a0_9 : Int) (a0_10 : Int) (a0_11 : Int) (a0_12 : Int) (a1_0 : Int) (a1_1 : Int) (a1_2 : Int) (a1_3 : Int) (a1_4 : Int) (a1_5 : Int) (A1_6 : Option Addr) (c1_6 : Nat) (l1_6 : List Int) (A1_7 : Option Addr) (c1_7 : Nat) (l1_7 : List Int) (A1_8 : Option Addr) (c1_8 : Nat) (l1_8 : List (S36)) (a1_9 : Int) (a1_10 : Int) (a1_11 : Int) (a1_12 : Int) (r : Bool) (w : World) (hr0_6 : Kd.C (Kd.int .i64) w A0_6 l0_6.length l0_6) (hc0_6 : l0_6.length ≤ c0_6) (hr0_7 : Kd.C (Kd.int .i64) w A0_7 l0_7.length l0_7) (hc0_7 : l0_7.length ≤ c0_7) (hr0_8 : Kd.C k36 w A0_8 l0_8.length l0_8) (hc0_8 : l0_8.length ≤ c0_8) (hr1_6 : Kd.C (Kd.int .i64) w A1_6 l1_6.length l1_6) (hc1_6 : l1_6.length ≤ c1_6) (hr1_7 : Kd.C (Kd.int .i64) w A1_7 l1_7.length l1_7) (hc1_7 : l1_7.length ≤ c1_7) (hr1_8 : Kd.C k36 w A1_8 l1_8.length l1_8) (hc1_8 : l1_8.length ≤ c1_8) (h : laws_eqState.f k a0_0 a0_1 a0_2 a0_3 a0_4 a0_5 l0_6 l0_7 l0_8 a0_9 a0_10 a0_11 a0_12 a1_0 a1_1 a1_2 a1_3 a1_4 a1_5 l1_6 l1_7 l1_8 a1_9 a1_10 a1_11 a1_12 = some r) :
    Calls Try.prog 15 #[.agg #[.int .i64 a0_0, .int .i64 a0_1, .int .i64 a0_2, .int .i64 a0_3, .int .i64 a0_4, .int .i64 a0_5, .slice A0_6 l0_6.length c0_6, .slice A0_7 l0_7.length c0_7, .slice A0_8 l0_8.length c0_8, .int .i64 a0_9, .int .i64 a0_10, .int .i64 a0_11, .int .i64 a0_12], .agg #[.int .i64 a1_0, .int .i64 a1_1, .int .i64 a1_2, .int .i64 a1_3, .int .i64 a1_4, .int .i64 a1_5, .slice A1_6 l1_6.length c1_6, .slice A1_7 l1_7.length c1_7, .slice A1_8 l1_8.length c1_8, .int .i64 a1_9, .int .i64 a1_10, .int .i64 a1_11, .int .i64 a1_12]] w fun e w' => e = .returned (.bool r) ∧ Below w.heap.size w w' := by
  have hu49 := Try.underlying49
  have hu46 := Try.underlying46
  have HR0_6 := Aside0.mk hr0_6
  have HC0_6 := Aside0.mk hc0_6
  clear hr0_6 hc0_6
  have HR0_7 := Aside0.mk hr0_7
  have HC0_7 := Aside0.mk hc0_7
  clear hr0_7 hc0_7
  have HR0_8 := Aside0.mk hr0_8
  have HC0_8 := Aside0.mk hc0_8
  clear hr0_8 hc0_8
  have HR1_6 := Aside0.mk hr1_6
  have HC1_6 := Aside0.mk hc1_6
  clear hr1_6 hc1_6
  have HR1_7 := Aside0.mk hr1_7
  have HC1_7 := Aside0.mk hc1_7
  clear hr1_7 hc1_7
  have HR1_8 := Aside0.mk hr1_8
  have HC1_8 := Aside0.mk hc1_8
  clear hr1_8 hc1_8
  have HB := Aside0.mk (Below.refl w.heap.size w)
  have H : ((laws_eqConfig.f a0_0 a0_1 a0_2 a0_3 a0_4 a0_5 a1_0 a1_1 a1_2 a1_3 a1_4 a1_5).bind fun t274 => (if t274 = true then ((laws_eqIntS.f k l0_6 l1_6).bind fun t275 => (if t275 = true then ((laws_eqIntS.f k l0_7 l1_7).bind fun t276 => (if t276 = true then ((laws_eqThreadS.f k l0_8 l1_8).bind fun t277 => (if t277 = true then (if a0_9 = a1_9 then (if a0_10 = a1_10 then (if a0_11 = a1_11 then (if a0_12 = a1_12 then (some true) else (none)) else (none)) else (none)) else (none)) else (none))) else (none))) else (none))) else (none))) = some r := h
  clear h
  replace H := Option.bind_eq_some_iff.mp H
  obtain ⟨t274, A30, H⟩ := H
  replace H : (if t274 = true then ((laws_eqIntS.f k l0_6 l1_6).bind fun t275 => (if t275 = true then ((laws_eqIntS.f k l0_7 l1_7).bind fun t276 => (if t276 = true then ((laws_eqThreadS.f k l0_8 l1_8).bind fun t277 => (if t277 = true then (if a0_9 = a1_9 then (if a0_10 = a1_10 then (if a0_11 = a1_11 then (if a0_12 = a1_12 then (some true) else (none)) else (none)) else (none)) else (none)) else (none))) else (none))) else (none))) else (none)) = some r := H
  have A3 := Aside0.mk A30
  clear A30
  by_cases c4 : t274 = true
  · subst c4
    have H1 : ((laws_eqIntS.f k l0_6 l1_6).bind fun t275 => (if t275 = true then ((laws_eqIntS.f k l0_7 l1_7).bind fun t276 => (if t276 = true then ((laws_eqThreadS.f k l0_8 l1_8).bind fun t277 => (if t277 = true then (if a0_9 = a1_9 then (if a0_10 = a1_10 then (if a0_11 = a1_11 then (if a0_12 = a1_12 then (some true) else (none)) else (none)) else (none)) else (none)) else (none))) else (none))) else (none))) = some r := by rw [if_pos rfl] at H; exact H
    clear H
    have H := H1
    clear H1
    replace H := Option.bind_eq_some_iff.mp H
    obtain ⟨t275, A50, H⟩ := H
    replace H : (if t275 = true then ((laws_eqIntS.f k l0_7 l1_7).bind fun t276 => (if t276 = true then ((laws_eqThreadS.f k l0_8 l1_8).bind fun t277 => (if t277 = true then (if a0_9 = a1_9 then (if a0_10 = a1_10 then (if a0_11 = a1_11 then (if a0_12 = a1_12 then (some true) else (none)) else (none)) else (none)) else (none)) else (none))) else (none))) else (none)) = some r := H
    have A5 := Aside0.mk A50
    clear A50
    by_cases c6 : t275 = true
    · subst c6
      have H1 : ((laws_eqIntS.f k l0_7 l1_7).bind fun t276 => (if t276 = true then ((laws_eqThreadS.f k l0_8 l1_8).bind fun t277 => (if t277 = true then (if a0_9 = a1_9 then (if a0_10 = a1_10 then (if a0_11 = a1_11 then (if a0_12 = a1_12 then (some true) else (none)) else (none)) else (none)) else (none)) else (none))) else (none))) = some r := by rw [if_pos rfl] at H; exact H
      clear H
      have H := H1
      clear H1
      replace H := Option.bind_eq_some_iff.mp H
      obtain ⟨t276, A70, H⟩ := H
      replace H : (if t276 = true then ((laws_eqThreadS.f k l0_8 l1_8).bind fun t277 => (if t277 = true then (if a0_9 = a1_9 then (if a0_10 = a1_10 then (if a0_11 = a1_11 then (if a0_12 = a1_12 then (some true) else (none)) else (none)) else (none)) else (none)) else (none))) else (none)) = some r := H
      have A7 := Aside0.mk A70
      clear A70
      by_cases c8 : t276 = true
      · subst c8
        have H1 : ((laws_eqThreadS.f k l0_8 l1_8).bind fun t277 => (if t277 = true then (if a0_9 = a1_9 then (if a0_10 = a1_10 then (if a0_11 = a1_11 then (if a0_12 = a1_12 then (some true) else (none)) else (none)) else (none)) else (none)) else (none))) = some r := by rw [if_pos rfl] at H; exact H
        clear H
        have H := H1
        clear H1
        replace H := Option.bind_eq_some_iff.mp H
        obtain ⟨t277, A90, H⟩ := H
        replace H : (if t277 = true then (if a0_9 = a1_9 then (if a0_10 = a1_10 then (if a0_11 = a1_11 then (if a0_12 = a1_12 then (some true) else (none)) else (none)) else (none)) else (none)) else (none)) = some r := H
        have A9 := Aside0.mk A90
        clear A90
        by_cases c10 : t277 = true
        · subst c10
          have H1 : (if a0_9 = a1_9 then (if a0_10 = a1_10 then (if a0_11 = a1_11 then (if a0_12 = a1_12 then (some true) else (none)) else (none)) else (none)) else (none)) = some r := by rw [if_pos rfl] at H; exact H
          clear H
          have H := H1
          clear H1
          by_cases c11 : a0_9 = a1_9
          · rw [if_pos c11] at H
            have c11b0 : (a0_9 == a1_9) = true := beq_iff_eq.mpr c11
            have c11b1 : (a0_9 != a1_9) = false := bne_eq_false_iff_eq.mpr c11
            clear c11
            by_cases c12 : a0_10 = a1_10
            · rw [if_pos c12] at H
              have c12b0 : (a0_10 == a1_10) = true := beq_iff_eq.mpr c12
              have c12b1 : (a0_10 != a1_10) = false := bne_eq_false_iff_eq.mpr c12
              clear c12
              by_cases c13 : a0_11 = a1_11
              · rw [if_pos c13] at H
                have c13b0 : (a0_11 == a1_11) = true := beq_iff_eq.mpr c13
                have c13b1 : (a0_11 != a1_11) = false := bne_eq_false_iff_eq.mpr c13
                clear c13
                by_cases c14 : a0_12 = a1_12
                · rw [if_pos c14] at H
                  have c14b0 : (a0_12 == a1_12) = true := beq_iff_eq.mpr c14
                  have c14b1 : (a0_12 != a1_12) = false := bne_eq_false_iff_eq.mpr c14
                  clear c14
                  obtain rfl := Option.some.inj H
                  go_enter Try.func15, Try.ntmps15
                  go_wp2_with (first | ((with_reducible refine gate_dst (N := 2) rfl ?_); refine box_event ?hg (N := 2) ?hd (cs := #[.int .i64 a0_0, .int .i64 a0_1, .int .i64 a0_2, .int .i64 a0_3, .int .i64 a0_4, .int .i64 a0_5, .slice A0_6 l0_6.length c0_6, .slice A0_7 l0_7.length c0_7, .slice A0_8 l0_8.length c0_8, .int .i64 a0_9, .int .i64 a0_10, .int .i64 a0_11, .int .i64 a0_12]) (t := 49) ?hr ?_; (case hd => rfl); (case hg => rfl); (case hr => first | (go_simp; done) | (go_simp; rfl)); intro gb272 hg w15 hbox hb; have n0_ := Aside0.mk (below_step (by repeat (first | (with_reducible first | exact HB.out | apply below_alloc | apply pw_below_drewN | apply below_drew1) | exact HB.out)) hb); have n1_ := Aside0.mk (hbox); have n2_ := Aside0.mk ((by rw [hg]; exact (below_size (by repeat (first | (with_reducible first | exact HB.out | apply below_alloc | apply pw_below_drewN | apply below_drew1) | exact HB.out))) : w.heap.size ≤ gb272)); have n3_ := Aside0.mk ((by rw [hg]; exact (below_size (by repeat (first | (with_reducible first | exact HB.out | apply below_alloc | apply pw_below_drewN | apply below_drew1) | exact HB.out))) : w.heap.size ≤ gb272)); clear HB; have HB := n0_; have BK272 := n1_; have GW272 := n2_; have GE272 := n3_; clear n0_ n1_ n2_ n3_; clear hb hbox hg) | ((with_reducible refine gate_dst (N := 3) rfl ?_); refine box_event ?hg (N := 3) ?hd (cs := #[.int .i64 a1_0, .int .i64 a1_1, .int .i64 a1_2, .int .i64 a1_3, .int .i64 a1_4, .int .i64 a1_5, .slice A1_6 l1_6.length c1_6, .slice A1_7 l1_7.length c1_7, .slice A1_8 l1_8.length c1_8, .int .i64 a1_9, .int .i64 a1_10, .int .i64 a1_11, .int .i64 a1_12]) (t := 49) ?hr ?_; (case hd => rfl); (case hg => rfl); (case hr => first | (go_simp; done) | (go_simp; rfl)); intro gb273 hg w16 hbox hb; have n0_ := Aside0.mk (blk_below (g := gb272) (o := .cells #[.int .i64 a0_0, .int .i64 a0_1, .int .i64 a0_2, .int .i64 a0_3, .int .i64 a0_4, .int .i64 a0_5, .slice A0_6 l0_6.length c0_6, .slice A0_7 l0_7.length c0_7, .slice A0_8 l0_8.length c0_8, .int .i64 a0_9, .int .i64 a0_10, .int .i64 a0_11, .int .i64 a0_12] 49 (0, 0)) (by (with_reducible repeat (first | refine blk_drewN ?_ _ | refine blk_drew ?_ | refine blk_alloc ?_ _)); exact BK272.out) hb); have n1_ := Aside0.mk (below_step (by repeat (first | (with_reducible first | exact HB.out | apply below_alloc | apply pw_below_drewN | apply below_drew1 | refine below_set ?_ GE272.out) | exact HB.out)) hb); have n2_ := Aside0.mk (hbox); have n3_ := Aside0.mk ((by rw [hg]; exact (below_size (by repeat (first | (with_reducible first | exact HB.out | apply below_alloc | apply pw_below_drewN | apply below_drew1 | refine below_set ?_ GE272.out) | exact HB.out))) : w.heap.size ≤ gb273)); have n4_ := Aside0.mk ((by rw [hg]; exact (below_size (by repeat (first | (with_reducible first | exact HB.out | apply below_alloc | apply pw_below_drewN | apply below_drew1 | refine below_set ?_ GE272.out) | exact HB.out))) : w.heap.size ≤ gb273)); have n5_ := Aside0.mk ((by rw [hg]; exact Nat.ne_of_lt (blk_lt (g := gb272) (o := .cells #[.int .i64 a0_0, .int .i64 a0_1, .int .i64 a0_2, .int .i64 a0_3, .int .i64 a0_4, .int .i64 a0_5, .slice A0_6 l0_6.length c0_6, .slice A0_7 l0_7.length c0_7, .slice A0_8 l0_8.length c0_8, .int .i64 a0_9, .int .i64 a0_10, .int .i64 a0_11, .int .i64 a0_12] 49 (0, 0)) (by (with_reducible repeat (first | refine blk_drewN ?_ _ | refine blk_drew ?_ | refine blk_alloc ?_ _)); exact BK272.out)) : gb272 ≠ gb273)); have n6_ := Aside0.mk ((by rw [hg]; exact Nat.ne_of_gt (blk_lt (g := gb272) (o := .cells #[.int .i64 a0_0, .int .i64 a0_1, .int .i64 a0_2, .int .i64 a0_3, .int .i64 a0_4, .int .i64 a0_5, .slice A0_6 l0_6.length c0_6, .slice A0_7 l0_7.length c0_7, .slice A0_8 l0_8.length c0_8, .int .i64 a0_9, .int .i64 a0_10, .int .i64 a0_11, .int .i64 a0_12] 49 (0, 0)) (by (with_reducible repeat (first | refine blk_drewN ?_ _ | refine blk_drew ?_ | refine blk_alloc ?_ _)); exact BK272.out)) : gb273 ≠ gb272)); clear BK272; clear HB; have BK272 := n0_; have HB := n1_; have BK273 := n2_; have GW273 := n3_; have GE273 := n4_; have NB272_273 := n5_; have NB273_272 := n6_; clear n0_ n1_ n2_ n3_ n4_ n5_ n6_; clear hb hbox hg; have hnb17 := NB272_273.out; have hnc17 := NB273_272.out; have hcz18_0 : w16.cell? ⟨gb272, 0, none⟩ = some (.int .i64 a0_0) := (blk_cell BK272.out 0).trans rfl; have hcz18_1 : w16.cell? ⟨gb272, 1, none⟩ = some (.int .i64 a0_1) := (blk_cell BK272.out 1).trans rfl; have hcz18_2 : w16.cell? ⟨gb272, 2, none⟩ = some (.int .i64 a0_2) := (blk_cell BK272.out 2).trans rfl; have hcz18_3 : w16.cell? ⟨gb272, 3, none⟩ = some (.int .i64 a0_3) := (blk_cell BK272.out 3).trans rfl; have hcz18_4 : w16.cell? ⟨gb272, 4, none⟩ = some (.int .i64 a0_4) := (blk_cell BK272.out 4).trans rfl; have hcz18_5 : w16.cell? ⟨gb272, 5, none⟩ = some (.int .i64 a0_5) := (blk_cell BK272.out 5).trans rfl; have hcz18_6 : w16.cell? ⟨gb272, 6, none⟩ = some (.slice A0_6 l0_6.length c0_6) := (blk_cell BK272.out 6).trans rfl; have hcz18_7 : w16.cell? ⟨gb272, 7, none⟩ = some (.slice A0_7 l0_7.length c0_7) := (blk_cell BK272.out 7).trans rfl; have hcz18_8 : w16.cell? ⟨gb272, 8, none⟩ = some (.slice A0_8 l0_8.length c0_8) := (blk_cell BK272.out 8).trans rfl; have hcz18_9 : w16.cell? ⟨gb272, 9, none⟩ = some (.int .i64 a0_9) := (blk_cell BK272.out 9).trans rfl; have hcz18_10 : w16.cell? ⟨gb272, 10, none⟩ = some (.int .i64 a0_10) := (blk_cell BK272.out 10).trans rfl; have hcz18_11 : w16.cell? ⟨gb272, 11, none⟩ = some (.int .i64 a0_11) := (blk_cell BK272.out 11).trans rfl; have hcz18_12 : w16.cell? ⟨gb272, 12, none⟩ = some (.int .i64 a0_12) := (blk_cell BK272.out 12).trans rfl; have hfz18_0 := blk_frozen BK272.out 0; have hfz18_1 := blk_frozen BK272.out 1; have hfz18_2 := blk_frozen BK272.out 2; have hfz18_3 := blk_frozen BK272.out 3; have hfz18_4 := blk_frozen BK272.out 4; have hfz18_5 := blk_frozen BK272.out 5; have hfz18_6 := blk_frozen BK272.out 6; have hfz18_7 := blk_frozen BK272.out 7; have hfz18_8 := blk_frozen BK272.out 8; have hfz18_9 := blk_frozen BK272.out 9; have hfz18_10 := blk_frozen BK272.out 10; have hfz18_11 := blk_frozen BK272.out 11; have hfz18_12 := blk_frozen BK272.out 12; have hcz19_0 : w16.cell? ⟨gb273, 0, none⟩ = some (.int .i64 a1_0) := (blk_cell BK273.out 0).trans rfl; have hcz19_1 : w16.cell? ⟨gb273, 1, none⟩ = some (.int .i64 a1_1) := (blk_cell BK273.out 1).trans rfl; have hcz19_2 : w16.cell? ⟨gb273, 2, none⟩ = some (.int .i64 a1_2) := (blk_cell BK273.out 2).trans rfl; have hcz19_3 : w16.cell? ⟨gb273, 3, none⟩ = some (.int .i64 a1_3) := (blk_cell BK273.out 3).trans rfl; have hcz19_4 : w16.cell? ⟨gb273, 4, none⟩ = some (.int .i64 a1_4) := (blk_cell BK273.out 4).trans rfl; have hcz19_5 : w16.cell? ⟨gb273, 5, none⟩ = some (.int .i64 a1_5) := (blk_cell BK273.out 5).trans rfl; have hcz19_6 : w16.cell? ⟨gb273, 6, none⟩ = some (.slice A1_6 l1_6.length c1_6) := (blk_cell BK273.out 6).trans rfl; have hcz19_7 : w16.cell? ⟨gb273, 7, none⟩ = some (.slice A1_7 l1_7.length c1_7) := (blk_cell BK273.out 7).trans rfl; have hcz19_8 : w16.cell? ⟨gb273, 8, none⟩ = some (.slice A1_8 l1_8.length c1_8) := (blk_cell BK273.out 8).trans rfl; have hcz19_9 : w16.cell? ⟨gb273, 9, none⟩ = some (.int .i64 a1_9) := (blk_cell BK273.out 9).trans rfl; have hcz19_10 : w16.cell? ⟨gb273, 10, none⟩ = some (.int .i64 a1_10) := (blk_cell BK273.out 10).trans rfl; have hcz19_11 : w16.cell? ⟨gb273, 11, none⟩ = some (.int .i64 a1_11) := (blk_cell BK273.out 11).trans rfl; have hcz19_12 : w16.cell? ⟨gb273, 12, none⟩ = some (.int .i64 a1_12) := (blk_cell BK273.out 12).trans rfl; have hfz19_0 := blk_frozen BK273.out 0; have hfz19_1 := blk_frozen BK273.out 1; have hfz19_2 := blk_frozen BK273.out 2; have hfz19_3 := blk_frozen BK273.out 3; have hfz19_4 := blk_frozen BK273.out 4; have hfz19_5 := blk_frozen BK273.out 5; have hfz19_6 := blk_frozen BK273.out 6; have hfz19_7 := blk_frozen BK273.out 7; have hfz19_8 := blk_frozen BK273.out 8; have hfz19_9 := blk_frozen BK273.out 9; have hfz19_10 := blk_frozen BK273.out 10; have hfz19_11 := blk_frozen BK273.out 11; have hfz19_12 := blk_frozen BK273.out 12) | ((with_reducible refine gate_callee (f := 38) rfl ?_); refine goesL_ (some 9) rfl rfl Try.func38 (by kernel_rfl) rfl #[.agg #[.int .i64 a0_0, .int .i64 a0_1, .int .i64 a0_2, .int .i64 a0_3, .int .i64 a0_4, .int .i64 a0_5], .agg #[.int .i64 a1_0, .int .i64 a1_1, .int .i64 a1_2, .int .i64 a1_3, .int .i64 a1_4, .int .i64 a1_5]] rfl (by (try simp only [List.map_toArray, List.map_cons, List.map_nil]); first | done | rfl | (simp only [List.length_drop, List.length_take]; rfl)) ?_; (with_reducible refine (laws_eqConfig.calls a0_0 a0_1 a0_2 a0_3 a0_4 a0_5 a1_0 a1_1 a1_2 a1_3 a1_4 a1_5 true _ A3.out).mono ?_); rintro e w20 ⟨rfl, hb⟩; refine ⟨_, rfl, ?_⟩; have n0_ := Aside0.mk (blk_below (g := gb272) (o := .cells #[.int .i64 a0_0, .int .i64 a0_1, .int .i64 a0_2, .int .i64 a0_3, .int .i64 a0_4, .int .i64 a0_5, .slice A0_6 l0_6.length c0_6, .slice A0_7 l0_7.length c0_7, .slice A0_8 l0_8.length c0_8, .int .i64 a0_9, .int .i64 a0_10, .int .i64 a0_11, .int .i64 a0_12] 49 (0, 0)) (by (with_reducible repeat (first | refine blk_drewN ?_ _ | refine blk_drew ?_ | refine blk_alloc ?_ _)); exact BK272.out) hb); have n1_ := Aside0.mk (blk_below (g := gb273) (o := .cells #[.int .i64 a1_0, .int .i64 a1_1, .int .i64 a1_2, .int .i64 a1_3, .int .i64 a1_4, .int .i64 a1_5, .slice A1_6 l1_6.length c1_6, .slice A1_7 l1_7.length c1_7, .slice A1_8 l1_8.length c1_8, .int .i64 a1_9, .int .i64 a1_10, .int .i64 a1_11, .int .i64 a1_12] 49 (0, 0)) (by (with_reducible repeat (first | refine blk_drewN ?_ _ | refine blk_drew ?_ | refine blk_alloc ?_ _)); exact BK273.out) hb); have n2_ := Aside0.mk (below_step (by repeat (first | (with_reducible first | exact HB.out | apply below_alloc | apply pw_below_drewN | apply below_drew1 | refine below_set ?_ GE272.out | refine below_set ?_ GE273.out) | exact HB.out)) hb); clear BK272; clear BK273; clear HB; have BK272 := n0_; have BK273 := n1_; have HB := n2_; clear n0_ n1_ n2_; (try clear hb); (try clear hb2); (try clear hk); (try clear hi); have hcz21_0 : w20.cell? ⟨gb272, 0, none⟩ = some (.int .i64 a0_0) := (blk_cell BK272.out 0).trans rfl; have hcz21_1 : w20.cell? ⟨gb272, 1, none⟩ = some (.int .i64 a0_1) := (blk_cell BK272.out 1).trans rfl; have hcz21_2 : w20.cell? ⟨gb272, 2, none⟩ = some (.int .i64 a0_2) := (blk_cell BK272.out 2).trans rfl; have hcz21_3 : w20.cell? ⟨gb272, 3, none⟩ = some (.int .i64 a0_3) := (blk_cell BK272.out 3).trans rfl; have hcz21_4 : w20.cell? ⟨gb272, 4, none⟩ = some (.int .i64 a0_4) := (blk_cell BK272.out 4).trans rfl; have hcz21_5 : w20.cell? ⟨gb272, 5, none⟩ = some (.int .i64 a0_5) := (blk_cell BK272.out 5).trans rfl; have hcz21_6 : w20.cell? ⟨gb272, 6, none⟩ = some (.slice A0_6 l0_6.length c0_6) := (blk_cell BK272.out 6).trans rfl; have hcz21_7 : w20.cell? ⟨gb272, 7, none⟩ = some (.slice A0_7 l0_7.length c0_7) := (blk_cell BK272.out 7).trans rfl; have hcz21_8 : w20.cell? ⟨gb272, 8, none⟩ = some (.slice A0_8 l0_8.length c0_8) := (blk_cell BK272.out 8).trans rfl; have hcz21_9 : w20.cell? ⟨gb272, 9, none⟩ = some (.int .i64 a0_9) := (blk_cell BK272.out 9).trans rfl; have hcz21_10 : w20.cell? ⟨gb272, 10, none⟩ = some (.int .i64 a0_10) := (blk_cell BK272.out 10).trans rfl; have hcz21_11 : w20.cell? ⟨gb272, 11, none⟩ = some (.int .i64 a0_11) := (blk_cell BK272.out 11).trans rfl; have hcz21_12 : w20.cell? ⟨gb272, 12, none⟩ = some (.int .i64 a0_12) := (blk_cell BK272.out 12).trans rfl; have hfz21_0 := blk_frozen BK272.out 0; have hfz21_1 := blk_frozen BK272.out 1; have hfz21_2 := blk_frozen BK272.out 2; have hfz21_3 := blk_frozen BK272.out 3; have hfz21_4 := blk_frozen BK272.out 4; have hfz21_5 := blk_frozen BK272.out 5; have hfz21_6 := blk_frozen BK272.out 6; have hfz21_7 := blk_frozen BK272.out 7; have hfz21_8 := blk_frozen BK272.out 8; have hfz21_9 := blk_frozen BK272.out 9; have hfz21_10 := blk_frozen BK272.out 10; have hfz21_11 := blk_frozen BK272.out 11; have hfz21_12 := blk_frozen BK272.out 12; have hcz22_0 : w20.cell? ⟨gb273, 0, none⟩ = some (.int .i64 a1_0) := (blk_cell BK273.out 0).trans rfl; have hcz22_1 : w20.cell? ⟨gb273, 1, none⟩ = some (.int .i64 a1_1) := (blk_cell BK273.out 1).trans rfl; have hcz22_2 : w20.cell? ⟨gb273, 2, none⟩ = some (.int .i64 a1_2) := (blk_cell BK273.out 2).trans rfl; have hcz22_3 : w20.cell? ⟨gb273, 3, none⟩ = some (.int .i64 a1_3) := (blk_cell BK273.out 3).trans rfl; have hcz22_4 : w20.cell? ⟨gb273, 4, none⟩ = some (.int .i64 a1_4) := (blk_cell BK273.out 4).trans rfl; have hcz22_5 : w20.cell? ⟨gb273, 5, none⟩ = some (.int .i64 a1_5) := (blk_cell BK273.out 5).trans rfl; have hcz22_6 : w20.cell? ⟨gb273, 6, none⟩ = some (.slice A1_6 l1_6.length c1_6) := (blk_cell BK273.out 6).trans rfl; have hcz22_7 : w20.cell? ⟨gb273, 7, none⟩ = some (.slice A1_7 l1_7.length c1_7) := (blk_cell BK273.out 7).trans rfl; have hcz22_8 : w20.cell? ⟨gb273, 8, none⟩ = some (.slice A1_8 l1_8.length c1_8) := (blk_cell BK273.out 8).trans rfl; have hcz22_9 : w20.cell? ⟨gb273, 9, none⟩ = some (.int .i64 a1_9) := (blk_cell BK273.out 9).trans rfl; have hcz22_10 : w20.cell? ⟨gb273, 10, none⟩ = some (.int .i64 a1_10) := (blk_cell BK273.out 10).trans rfl; have hcz22_11 : w20.cell? ⟨gb273, 11, none⟩ = some (.int .i64 a1_11) := (blk_cell BK273.out 11).trans rfl; have hcz22_12 : w20.cell? ⟨gb273, 12, none⟩ = some (.int .i64 a1_12) := (blk_cell BK273.out 12).trans rfl; have hfz22_0 := blk_frozen BK273.out 0; have hfz22_1 := blk_frozen BK273.out 1; have hfz22_2 := blk_frozen BK273.out 2; have hfz22_3 := blk_frozen BK273.out 3; have hfz22_4 := blk_frozen BK273.out 4; have hfz22_5 := blk_frozen BK273.out 5; have hfz22_6 := blk_frozen BK273.out 6; have hfz22_7 := blk_frozen BK273.out 7; have hfz22_8 := blk_frozen BK273.out 8; have hfz22_9 := blk_frozen BK273.out 9; have hfz22_10 := blk_frozen BK273.out 10; have hfz22_11 := blk_frozen BK273.out 11; have hfz22_12 := blk_frozen BK273.out 12) | ((with_reducible refine gate_callee (f := 33) rfl ?_); refine goesL_ (some 15) rfl rfl Try.func33 (by kernel_rfl) rfl #[.slice A0_6 l0_6.length c0_6, .slice A1_6 l1_6.length c1_6] rfl (by (try simp only [List.map_toArray, List.map_cons, List.map_nil]); first | done | rfl | (simp only [List.length_drop, List.length_take]; rfl)) ?_; (with_reducible refine (laws_eqIntS.calls k _ _ l0_6 _ _ l1_6 true _ ?side1 ?side2 ?side3 ?side4 A5.out).mono ?_); (case side1 => repeat (first | exact (Kd.C_below HR0_6.out HB.out) | (with_reducible refine Kd.C_alloc ?_ _) | (with_reducible refine Kd.C_drewN ?_ _) | (with_reducible refine Kd.C_drew ?_))); (case side2 => exact HC0_6.out); (case side3 => repeat (first | exact (Kd.C_below HR1_6.out HB.out) | (with_reducible refine Kd.C_alloc ?_ _) | (with_reducible refine Kd.C_drewN ?_ _) | (with_reducible refine Kd.C_drew ?_))); (case side4 => exact HC1_6.out); rintro e w' ⟨rfl, ⟨nd, rfl⟩⟩; refine ⟨_, rfl, ?_⟩) | ((with_reducible refine gate_callee (f := 33) rfl ?_); refine goesL_ (some 21) rfl rfl Try.func33 (by kernel_rfl) rfl #[.slice A0_7 l0_7.length c0_7, .slice A1_7 l1_7.length c1_7] rfl (by (try simp only [List.map_toArray, List.map_cons, List.map_nil]); first | done | rfl | (simp only [List.length_drop, List.length_take]; rfl)) ?_; (with_reducible refine (laws_eqIntS.calls k _ _ l0_7 _ _ l1_7 true _ ?side1 ?side2 ?side3 ?side4 A7.out).mono ?_); (case side1 => repeat (first | exact (Kd.C_below HR0_7.out (by repeat (first | (with_reducible first | exact HB.out | apply below_alloc | apply pw_below_drewN | apply below_drew1 | refine below_set ?_ GE272.out | refine below_set ?_ GE273.out) | exact HB.out))) | (with_reducible refine Kd.C_alloc ?_ _) | (with_reducible refine Kd.C_drewN ?_ _) | (with_reducible refine Kd.C_drew ?_))); (case side2 => exact HC0_7.out); (case side3 => repeat (first | exact (Kd.C_below HR1_7.out (by repeat (first | (with_reducible first | exact HB.out | apply below_alloc | apply pw_below_drewN | apply below_drew1 | refine below_set ?_ GE272.out | refine below_set ?_ GE273.out) | exact HB.out))) | (with_reducible refine Kd.C_alloc ?_ _) | (with_reducible refine Kd.C_drewN ?_ _) | (with_reducible refine Kd.C_drew ?_))); (case side4 => exact HC1_7.out); rintro e w' ⟨rfl, ⟨nd, rfl⟩⟩; refine ⟨_, rfl, ?_⟩) | ((with_reducible refine gate_callee (f := 39) rfl ?_); refine goesL_ (some 27) rfl rfl Try.func39 (by kernel_rfl) rfl #[.slice A0_8 l0_8.length c0_8, .slice A1_8 l1_8.length c1_8] rfl (by (try simp only [List.map_toArray, List.map_cons, List.map_nil]); first | done | rfl | (simp only [List.length_drop, List.length_take]; rfl)) ?_; (with_reducible refine (laws_eqThreadS.calls k _ _ l0_8 _ _ l1_8 true _ ?side1 ?side2 ?side3 ?side4 A9.out).mono ?_); (case side1 => repeat (first | exact (Kd.C_below HR0_8.out (by repeat (first | (with_reducible first | exact HB.out | apply below_alloc | apply pw_below_drewN | apply below_drew1 | refine below_set ?_ GE272.out | refine below_set ?_ GE273.out) | exact HB.out))) | (with_reducible refine Kd.C_alloc ?_ _) | (with_reducible refine Kd.C_drewN ?_ _) | (with_reducible refine Kd.C_drew ?_))); (case side2 => exact HC0_8.out); (case side3 => repeat (first | exact (Kd.C_below HR1_8.out (by repeat (first | (with_reducible first | exact HB.out | apply below_alloc | apply pw_below_drewN | apply below_drew1 | refine below_set ?_ GE272.out | refine below_set ?_ GE273.out) | exact HB.out))) | (with_reducible refine Kd.C_alloc ?_ _) | (with_reducible refine Kd.C_drewN ?_ _) | (with_reducible refine Kd.C_drew ?_))); (case side4 => exact HC1_8.out); rintro e w23 ⟨rfl, hb⟩; refine ⟨_, rfl, ?_⟩; have n0_ := Aside0.mk (blk_below (g := gb272) (o := .cells #[.int .i64 a0_0, .int .i64 a0_1, .int .i64 a0_2, .int .i64 a0_3, .int .i64 a0_4, .int .i64 a0_5, .slice A0_6 l0_6.length c0_6, .slice A0_7 l0_7.length c0_7, .slice A0_8 l0_8.length c0_8, .int .i64 a0_9, .int .i64 a0_10, .int .i64 a0_11, .int .i64 a0_12] 49 (0, 0)) (by (with_reducible repeat (first | refine blk_drewN ?_ _ | refine blk_drew ?_ | refine blk_alloc ?_ _)); exact BK272.out) hb); have n1_ := Aside0.mk (blk_below (g := gb273) (o := .cells #[.int .i64 a1_0, .int .i64 a1_1, .int .i64 a1_2, .int .i64 a1_3, .int .i64 a1_4, .int .i64 a1_5, .slice A1_6 l1_6.length c1_6, .slice A1_7 l1_7.length c1_7, .slice A1_8 l1_8.length c1_8, .int .i64 a1_9, .int .i64 a1_10, .int .i64 a1_11, .int .i64 a1_12] 49 (0, 0)) (by (with_reducible repeat (first | refine blk_drewN ?_ _ | refine blk_drew ?_ | refine blk_alloc ?_ _)); exact BK273.out) hb); have n2_ := Aside0.mk (below_step (by repeat (first | (with_reducible first | exact HB.out | apply below_alloc | apply pw_below_drewN | apply below_drew1 | refine below_set ?_ GE272.out | refine below_set ?_ GE273.out) | exact HB.out)) hb); clear BK272; clear BK273; clear HB; have BK272 := n0_; have BK273 := n1_; have HB := n2_; clear n0_ n1_ n2_; (try clear hb); (try clear hb2); (try clear hk); (try clear hi); have hcz24_0 : w23.cell? ⟨gb272, 0, none⟩ = some (.int .i64 a0_0) := (blk_cell BK272.out 0).trans rfl; have hcz24_1 : w23.cell? ⟨gb272, 1, none⟩ = some (.int .i64 a0_1) := (blk_cell BK272.out 1).trans rfl; have hcz24_2 : w23.cell? ⟨gb272, 2, none⟩ = some (.int .i64 a0_2) := (blk_cell BK272.out 2).trans rfl; have hcz24_3 : w23.cell? ⟨gb272, 3, none⟩ = some (.int .i64 a0_3) := (blk_cell BK272.out 3).trans rfl; have hcz24_4 : w23.cell? ⟨gb272, 4, none⟩ = some (.int .i64 a0_4) := (blk_cell BK272.out 4).trans rfl; have hcz24_5 : w23.cell? ⟨gb272, 5, none⟩ = some (.int .i64 a0_5) := (blk_cell BK272.out 5).trans rfl; have hcz24_6 : w23.cell? ⟨gb272, 6, none⟩ = some (.slice A0_6 l0_6.length c0_6) := (blk_cell BK272.out 6).trans rfl; have hcz24_7 : w23.cell? ⟨gb272, 7, none⟩ = some (.slice A0_7 l0_7.length c0_7) := (blk_cell BK272.out 7).trans rfl; have hcz24_8 : w23.cell? ⟨gb272, 8, none⟩ = some (.slice A0_8 l0_8.length c0_8) := (blk_cell BK272.out 8).trans rfl; have hcz24_9 : w23.cell? ⟨gb272, 9, none⟩ = some (.int .i64 a0_9) := (blk_cell BK272.out 9).trans rfl; have hcz24_10 : w23.cell? ⟨gb272, 10, none⟩ = some (.int .i64 a0_10) := (blk_cell BK272.out 10).trans rfl; have hcz24_11 : w23.cell? ⟨gb272, 11, none⟩ = some (.int .i64 a0_11) := (blk_cell BK272.out 11).trans rfl; have hcz24_12 : w23.cell? ⟨gb272, 12, none⟩ = some (.int .i64 a0_12) := (blk_cell BK272.out 12).trans rfl; have hfz24_0 := blk_frozen BK272.out 0; have hfz24_1 := blk_frozen BK272.out 1; have hfz24_2 := blk_frozen BK272.out 2; have hfz24_3 := blk_frozen BK272.out 3; have hfz24_4 := blk_frozen BK272.out 4; have hfz24_5 := blk_frozen BK272.out 5; have hfz24_6 := blk_frozen BK272.out 6; have hfz24_7 := blk_frozen BK272.out 7; have hfz24_8 := blk_frozen BK272.out 8; have hfz24_9 := blk_frozen BK272.out 9; have hfz24_10 := blk_frozen BK272.out 10; have hfz24_11 := blk_frozen BK272.out 11; have hfz24_12 := blk_frozen BK272.out 12; have hcz25_0 : w23.cell? ⟨gb273, 0, none⟩ = some (.int .i64 a1_0) := (blk_cell BK273.out 0).trans rfl; have hcz25_1 : w23.cell? ⟨gb273, 1, none⟩ = some (.int .i64 a1_1) := (blk_cell BK273.out 1).trans rfl; have hcz25_2 : w23.cell? ⟨gb273, 2, none⟩ = some (.int .i64 a1_2) := (blk_cell BK273.out 2).trans rfl; have hcz25_3 : w23.cell? ⟨gb273, 3, none⟩ = some (.int .i64 a1_3) := (blk_cell BK273.out 3).trans rfl; have hcz25_4 : w23.cell? ⟨gb273, 4, none⟩ = some (.int .i64 a1_4) := (blk_cell BK273.out 4).trans rfl; have hcz25_5 : w23.cell? ⟨gb273, 5, none⟩ = some (.int .i64 a1_5) := (blk_cell BK273.out 5).trans rfl; have hcz25_6 : w23.cell? ⟨gb273, 6, none⟩ = some (.slice A1_6 l1_6.length c1_6) := (blk_cell BK273.out 6).trans rfl; have hcz25_7 : w23.cell? ⟨gb273, 7, none⟩ = some (.slice A1_7 l1_7.length c1_7) := (blk_cell BK273.out 7).trans rfl; have hcz25_8 : w23.cell? ⟨gb273, 8, none⟩ = some (.slice A1_8 l1_8.length c1_8) := (blk_cell BK273.out 8).trans rfl; have hcz25_9 : w23.cell? ⟨gb273, 9, none⟩ = some (.int .i64 a1_9) := (blk_cell BK273.out 9).trans rfl; have hcz25_10 : w23.cell? ⟨gb273, 10, none⟩ = some (.int .i64 a1_10) := (blk_cell BK273.out 10).trans rfl; have hcz25_11 : w23.cell? ⟨gb273, 11, none⟩ = some (.int .i64 a1_11) := (blk_cell BK273.out 11).trans rfl; have hcz25_12 : w23.cell? ⟨gb273, 12, none⟩ = some (.int .i64 a1_12) := (blk_cell BK273.out 12).trans rfl; have hfz25_0 := blk_frozen BK273.out 0; have hfz25_1 := blk_frozen BK273.out 1; have hfz25_2 := blk_frozen BK273.out 2; have hfz25_3 := blk_frozen BK273.out 3; have hfz25_4 := blk_frozen BK273.out 4; have hfz25_5 := blk_frozen BK273.out 5; have hfz25_6 := blk_frozen BK273.out 6; have hfz25_7 := blk_frozen BK273.out 7; have hfz25_8 := blk_frozen BK273.out 8; have hfz25_9 := blk_frozen BK273.out 9; have hfz25_10 := blk_frozen BK273.out 10; have hfz25_11 := blk_frozen BK273.out 11; have hfz25_12 := blk_frozen BK273.out 12))
                  go_ret
                  exact ⟨by first | rfl | (refine congrArg Ending.returned (congrArg Value.bool ?_); generalize ByteArray.toList _ = l_; cases l_ <;> rfl) | (simp [errW_none, errW_some] <;> rfl) | (simp [*, errW_none, errW_some] <;> rfl), by repeat (first | (with_reducible first | exact HB.out | apply below_alloc | apply pw_below_drewN | apply below_drew1 | refine below_set ?_ GE272.out | refine below_set ?_ GE273.out) | exact HB.out)⟩
                · rw [if_neg c14] at H
                  exact absurd H (by simp)
              · rw [if_neg c13] at H
                exact absurd H (by simp)
            · rw [if_neg c12] at H
              exact absurd H (by simp)
          · rw [if_neg c11] at H
            exact absurd H (by simp)
        · replace c10 := Bool.eq_false_iff.mpr c10
          subst c10
          have H1 : (none) = some r := by rw [if_neg (show ¬ (false = true) by decide)] at H; exact H
          clear H
          have H := H1
          clear H1
          exact absurd H (by simp)
      · replace c8 := Bool.eq_false_iff.mpr c8
        subst c8
        have H1 : (none) = some r := by rw [if_neg (show ¬ (false = true) by decide)] at H; exact H
        clear H
        have H := H1
        clear H1
        exact absurd H (by simp)
    · replace c6 := Bool.eq_false_iff.mpr c6
      subst c6
      have H1 : (none) = some r := by rw [if_neg (show ¬ (false = true) by decide)] at H; exact H
      clear H
      have H := H1
      clear H1
      exact absurd H (by simp)
  · replace c4 := Bool.eq_false_iff.mpr c4
    subst c4
    have H1 : (none) = some r := by rw [if_neg (show ¬ (false = true) by decide)] at H; exact H
    clear H
    have H := H1
    clear H1
    exact absurd H (by simp)

-- NOT PRINTED: function 4 (laws_FnExactEqualStates)

end Go.Proofs.Ytamlpnfnidkknaa.GFnExactEqualStates
