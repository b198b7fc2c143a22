/- Of each Go function that the law FnExactIsPc reaches: a Lean function, and the proof that the call comes to just its answer; written by a turned copy of the kit's printer, with contracts typed by hand for functions that it does not take. No condition. -/
import Derived.Test.YtlbbnepkdhlgmabGFnExactIsPcx0
namespace Go.Proofs.Ytlbbnepkdhlgmab.GFnExactIsPc
open Go.RowKit Go.Proofs.YtlbbnepkdhlgmabW.PrintWords Go.Proofs.YtlbbnepkdhlgmabW.PrintLast Go.Proofs.YtlbbnepkdhlgmabW.PrintMore
attribute [local go_sem] max2_int min2_int max_two min_two max_three min_three max_four min_four   -- for this text's walks alone
set_option linter.unusedVariables false
set_option linter.unusedSimpArgs false

/-! ### spec_l7Pcs: function 73 -/
def spec_l7Pcs.f  : Option (List Int) := some (([0, 1, 2, 3, 4, 5, 10, 11, 12, 13, 14, 15, 16, 17, 18, 19, 20, 21, 30, 31, 32, 33, 34, 35, 36, 37, 38, 39, 40, 41, 42, 43, 44, 45, 46, 47, 50, 60, 61, 62, 63, 70, 80] : List Int))
set_option maxHeartbeats 8000000 in
set_option maxRecDepth 100000 in
theorem spec_l7Pcs.calls  (r : List Int) (w : World) (h : spec_l7Pcs.f  = some r) :
    Calls Try.prog 73 #[] w fun e w' => ∃ v0_ : Value, e = .returned (v0_) ∧ Kd.R (Kd.int .i64) 3 w' w.heap.size (fun _ => True) v0_ r ∧ Below w.heap.size w w' := by
  have HB := Aside0.mk (Below.refl w.heap.size w)
  have H : (some (([0, 1, 2, 3, 4, 5, 10, 11, 12, 13, 14, 15, 16, 17, 18, 19, 20, 21, 30, 31, 32, 33, 34, 35, 36, 37, 38, 39, 40, 41, 42, 43, 44, 45, 46, 47, 50, 60, 61, 62, 63, 70, 80] : List Int))) = some r := h
  clear h
  obtain ⟨y101, hy101⟩ : ∃ y_ : List Int, y_ = (([0, 1, 2, 3, 4, 5, 10, 11, 12, 13, 14, 15, 16, 17, 18, 19, 20, 21, 30, 31, 32, 33, 34, 35, 36, 37, 38, 39, 40, 41, 42, 43, 44, 45, 46, 47, 50, 60, 61, 62, 63, 70, 80] : List Int)) := ⟨_, rfl⟩
  replace H : (some y101) = some r := by first | (rw [hy101]; with_reducible exact H) | (have H2_ := (Option.bind_some _ _).symm.trans H; rw [hy101]; with_reducible exact H2_) | (have H2_ := (Option.bind_some _ _).symm.trans H; with_reducible exact H2_) | with_reducible exact H | (rw [hy101]; exact H) | exact H
  have Ny101 := Aside0.mk hy101
  clear hy101
  obtain rfl := Option.some.inj H
  go_enter Try.func73, Try.ntmps73
  go_wp2_with (first | ((with_reducible refine gate_dst (N := 1) rfl ?_); refine Kd.R_lit (Kd.int .i64) _ 3 ?hg (N := 1) ?hd (xs := ([0, 1, 2, 3, 4, 5, 10, 11, 12, 13, 14, 15, 16, 17, 18, 19, 20, 21, 30, 31, 32, 33, 34, 35, 36, 37, 38, 39, 40, 41, 42, 43, 44, 45, 46, 47, 50, 60, 61, 62, 63, 70, 80] : List Int)) (inner := [.int .i64 0, .int .i64 1, .int .i64 2, .int .i64 3, .int .i64 4, .int .i64 5, .int .i64 10, .int .i64 11, .int .i64 12, .int .i64 13, .int .i64 14, .int .i64 15, .int .i64 16, .int .i64 17, .int .i64 18, .int .i64 19, .int .i64 20, .int .i64 21, .int .i64 30, .int .i64 31, .int .i64 32, .int .i64 33, .int .i64 34, .int .i64 35, .int .i64 36, .int .i64 37, .int .i64 38, .int .i64 39, .int .i64 40, .int .i64 41, .int .i64 42, .int .i64 43, .int .i64 44, .int .i64 45, .int .i64 46, .int .i64 47, .int .i64 50, .int .i64 60, .int .i64 61, .int .i64 62, .int .i64 63, .int .i64 70, .int .i64 80]) (ok := fun _ => True) (okp := fun _ => True) ?hr ?hp (fun _ hk => hk) trivial (Below.refl _ _) (Nat.le_refl _) (by simp) ?_; (case hd => rfl); (case hg => rfl); (case hr => first | (go_simp; done) | (go_simp; rfl)); (case hp => exact (Reps.one (show Kd.M (Kd.int .i64) _ _ _ 0 [.int .i64 0] from rfl) (Reps.one (show Kd.M (Kd.int .i64) _ _ _ 1 [.int .i64 1] from rfl) (Reps.one (show Kd.M (Kd.int .i64) _ _ _ 2 [.int .i64 2] from rfl) (Reps.one (show Kd.M (Kd.int .i64) _ _ _ 3 [.int .i64 3] from rfl) (Reps.one (show Kd.M (Kd.int .i64) _ _ _ 4 [.int .i64 4] from rfl) (Reps.one (show Kd.M (Kd.int .i64) _ _ _ 5 [.int .i64 5] from rfl) (Reps.one (show Kd.M (Kd.int .i64) _ _ _ 10 [.int .i64 10] from rfl) (Reps.one (show Kd.M (Kd.int .i64) _ _ _ 11 [.int .i64 11] from rfl) (Reps.one (show Kd.M (Kd.int .i64) _ _ _ 12 [.int .i64 12] from rfl) (Reps.one (show Kd.M (Kd.int .i64) _ _ _ 13 [.int .i64 13] from rfl) (Reps.one (show Kd.M (Kd.int .i64) _ _ _ 14 [.int .i64 14] from rfl) (Reps.one (show Kd.M (Kd.int .i64) _ _ _ 15 [.int .i64 15] from rfl) (Reps.one (show Kd.M (Kd.int .i64) _ _ _ 16 [.int .i64 16] from rfl) (Reps.one (show Kd.M (Kd.int .i64) _ _ _ 17 [.int .i64 17] from rfl) (Reps.one (show Kd.M (Kd.int .i64) _ _ _ 18 [.int .i64 18] from rfl) (Reps.one (show Kd.M (Kd.int .i64) _ _ _ 19 [.int .i64 19] from rfl) (Reps.one (show Kd.M (Kd.int .i64) _ _ _ 20 [.int .i64 20] from rfl) (Reps.one (show Kd.M (Kd.int .i64) _ _ _ 21 [.int .i64 21] from rfl) (Reps.one (show Kd.M (Kd.int .i64) _ _ _ 30 [.int .i64 30] from rfl) (Reps.one (show Kd.M (Kd.int .i64) _ _ _ 31 [.int .i64 31] from rfl) (Reps.one (show Kd.M (Kd.int .i64) _ _ _ 32 [.int .i64 32] from rfl) (Reps.one (show Kd.M (Kd.int .i64) _ _ _ 33 [.int .i64 33] from rfl) (Reps.one (show Kd.M (Kd.int .i64) _ _ _ 34 [.int .i64 34] from rfl) (Reps.one (show Kd.M (Kd.int .i64) _ _ _ 35 [.int .i64 35] from rfl) (Reps.one (show Kd.M (Kd.int .i64) _ _ _ 36 [.int .i64 36] from rfl) (Reps.one (show Kd.M (Kd.int .i64) _ _ _ 37 [.int .i64 37] from rfl) (Reps.one (show Kd.M (Kd.int .i64) _ _ _ 38 [.int .i64 38] from rfl) (Reps.one (show Kd.M (Kd.int .i64) _ _ _ 39 [.int .i64 39] from rfl) (Reps.one (show Kd.M (Kd.int .i64) _ _ _ 40 [.int .i64 40] from rfl) (Reps.one (show Kd.M (Kd.int .i64) _ _ _ 41 [.int .i64 41] from rfl) (Reps.one (show Kd.M (Kd.int .i64) _ _ _ 42 [.int .i64 42] from rfl) (Reps.one (show Kd.M (Kd.int .i64) _ _ _ 43 [.int .i64 43] from rfl) (Reps.one (show Kd.M (Kd.int .i64) _ _ _ 44 [.int .i64 44] from rfl) (Reps.one (show Kd.M (Kd.int .i64) _ _ _ 45 [.int .i64 45] from rfl) (Reps.one (show Kd.M (Kd.int .i64) _ _ _ 46 [.int .i64 46] from rfl) (Reps.one (show Kd.M (Kd.int .i64) _ _ _ 47 [.int .i64 47] from rfl) (Reps.one (show Kd.M (Kd.int .i64) _ _ _ 50 [.int .i64 50] from rfl) (Reps.one (show Kd.M (Kd.int .i64) _ _ _ 60 [.int .i64 60] from rfl) (Reps.one (show Kd.M (Kd.int .i64) _ _ _ 61 [.int .i64 61] from rfl) (Reps.one (show Kd.M (Kd.int .i64) _ _ _ 62 [.int .i64 62] from rfl) (Reps.one (show Kd.M (Kd.int .i64) _ _ _ 63 [.int .i64 63] from rfl) (Reps.one (show Kd.M (Kd.int .i64) _ _ _ 70 [.int .i64 70] from rfl) (Reps.one (show Kd.M (Kd.int .i64) _ _ _ 80 [.int .i64 80] from rfl) (Reps.none _ _))))))))))))))))))))))))))))))))))))))))))))); intro v102 w1 ho2 hb hg_ hnew_; clear hg_ hnew_; (first | rw [← Ny101.out] at ho2 | (simp only [Int.reduceToNat] at ho2; rw [← Ny101.out] at ho2)); have n0_ := Aside0.mk (Kd.R_lower ho2 (below_size (by repeat (first | (with_reducible first | exact HB.out | apply below_alloc | apply pw_below_drewN | apply below_drew1) | exact HB.out)))); have n1_ := Aside0.mk (below_step (by repeat (first | (with_reducible first | exact HB.out | apply below_alloc | apply pw_below_drewN | apply below_drew1) | exact HB.out)) hb); clear HB; have HO103 := n0_; have HB := n1_; clear n0_ n1_; clear hb ho2))
  go_ret
  exact ⟨_, by first | rfl | (refine congrArg Ending.returned (congrArg Value.bool ?_); generalize ByteArray.toList _ = l_; cases l_ <;> rfl) | (simp [errW_none, errW_some] <;> rfl) | (simp [*, errW_none, errW_some] <;> rfl), by (with_reducible repeat (first | apply Kd.R_alloc | apply Kd.R_drewN | apply Kd.R_drew)); exact HO103.out, by repeat (first | (with_reducible first | exact HB.out | apply below_alloc | apply pw_below_drewN | apply below_drew1) | exact HB.out)⟩

/-! ### spec_l7Names: function 74 -/
def spec_l7Names.f  : Option (List ByteArray) := some (([(⟨#[105, 100, 108, 101]⟩ : ByteArray), (⟨#[98, 101, 103, 105, 110, 32, 108, 111, 97, 100]⟩ : ByteArray), (⟨#[98, 101, 103, 105, 110, 32, 97, 110, 110, 111, 117, 110, 99, 101]⟩ : ByteArray), (⟨#[98, 101, 103, 105, 110, 32, 99, 104, 101, 99, 107]⟩ : ByteArray), (⟨#[98, 101, 103, 105, 110, 32, 116, 105, 99, 107]⟩ : ByteArray), (⟨#[98, 101, 103, 105, 110, 32, 99, 108, 101, 97, 114]⟩ : ByteArray), (⟨#[119, 97, 108, 107, 32, 104, 101, 97, 100]⟩ : ByteArray), (⟨#[119, 97, 108, 107, 32, 103, 117, 97, 114, 100]⟩ : ByteArray), (⟨#[119, 97, 108, 107, 32, 99, 104, 101, 99, 107]⟩ : ByteArray), (⟨#[119, 97, 108, 107, 32, 110, 101, 120, 116]⟩ : ByteArray), (⟨#[119, 97, 108, 107, 32, 117, 110, 108, 105, 110, 107]⟩ : ByteArray), (⟨#[119, 97, 108, 107, 32, 115, 104, 105, 102, 116]⟩ : ByteArray), (⟨#[114, 101, 97, 100, 32, 115, 116, 97, 109, 112]⟩ : ByteArray), (⟨#[114, 101, 97, 100, 32, 99, 108, 111, 99, 107]⟩ : ByteArray), (⟨#[114, 101, 97, 100, 32, 104, 101, 108, 112]⟩ : ByteArray), (⟨#[114, 101, 97, 100, 32, 118, 97, 108, 117, 101]⟩ : ByteArray), (⟨#[114, 101, 97, 100, 32, 99, 108, 101, 97, 114]⟩ : ByteArray), (⟨#[114, 101, 97, 100, 32, 100, 111, 110, 101]⟩ : ByteArray), (⟨#[119, 114, 105, 116, 101, 32, 97, 114, 101, 110, 97]⟩ : ByteArray), (⟨#[119, 114, 105, 116, 101, 32, 116, 97, 107, 101]⟩ : ByteArray), (⟨#[119, 114, 105, 116, 101, 32, 118, 97, 108, 117, 101]⟩ : ByteArray), (⟨#[119, 114, 105, 116, 101, 32, 114, 101, 115, 101, 116]⟩ : ByteArray), (⟨#[119, 114, 105, 116, 101, 32, 103, 117, 97, 114, 100]⟩ : ByteArray), (⟨#[119, 114, 105, 116, 101, 32, 104, 101, 97, 100]⟩ : ByteArray), (⟨#[119, 114, 105, 116, 101, 32, 104, 97, 122, 97, 114, 100]⟩ : ByteArray), (⟨#[119, 114, 105, 116, 101, 32, 99, 104, 101, 99, 107]⟩ : ByteArray), (⟨#[119, 114, 105, 116, 101, 32, 115, 116, 97, 109, 112]⟩ : ByteArray), (⟨#[119, 114, 105, 116, 101, 32, 99, 108, 111, 99, 107]⟩ : ByteArray), (⟨#[119, 114, 105, 116, 101, 32, 104, 101, 108, 112]⟩ : ByteArray), (⟨#[119, 114, 105, 116, 101, 32, 108, 105, 110, 107]⟩ : ByteArray), (⟨#[119, 114, 105, 116, 101, 32, 112, 117, 98, 108, 105, 115, 104]⟩ : ByteArray), (⟨#[119, 114, 105, 116, 101, 32, 111, 119, 110, 32, 99, 108, 111, 99, 107]⟩ : ByteArray), (⟨#[119, 114, 105, 116, 101, 32, 111, 119, 110, 32, 115, 116, 97, 109, 112]⟩ : ByteArray), (⟨#[119, 114, 105, 116, 101, 32, 114, 101, 116, 105, 114, 101]⟩ : ByteArray), (⟨#[119, 114, 105, 116, 101, 32, 99, 108, 101, 97, 114]⟩ : ByteArray), (⟨#[119, 114, 105, 116, 101, 32, 100, 111, 110, 101]⟩ : ByteArray), (⟨#[115, 99, 97, 110, 32, 97, 110, 110, 111, 117, 110, 99, 101, 100]⟩ : ByteArray), (⟨#[109, 97, 114, 107, 32, 108, 111, 97, 100]⟩ : ByteArray), (⟨#[109, 97, 114, 107, 32, 115, 119, 97, 112]⟩ : ByteArray), (⟨#[102, 108, 117, 115, 104, 32, 99, 108, 101, 97, 114]⟩ : ByteArray), (⟨#[102, 108, 117, 115, 104, 32, 100, 111, 110, 101]⟩ : ByteArray), (⟨#[115, 99, 97, 110, 32, 104, 97, 122, 97, 114, 100, 115]⟩ : ByteArray), (⟨#[101, 110, 100, 32, 99, 108, 101, 97, 114]⟩ : ByteArray)] : List ByteArray))
set_option maxHeartbeats 8000000 in
set_option maxRecDepth 100000 in
theorem spec_l7Names.calls  (r : List ByteArray) (w : World) (h : spec_l7Names.f  = some r) :
    Calls Try.prog 74 #[] w fun e w' => ∃ v0_ : Value, e = .returned (v0_) ∧ Kd.R Kd.string 9 w' w.heap.size (fun _ => True) v0_ r ∧ Below w.heap.size w w' := by
  have HB := Aside0.mk (Below.refl w.heap.size w)
  have H : (some (([(⟨#[105, 100, 108, 101]⟩ : ByteArray), (⟨#[98, 101, 103, 105, 110, 32, 108, 111, 97, 100]⟩ : ByteArray), (⟨#[98, 101, 103, 105, 110, 32, 97, 110, 110, 111, 117, 110, 99, 101]⟩ : ByteArray), (⟨#[98, 101, 103, 105, 110, 32, 99, 104, 101, 99, 107]⟩ : ByteArray), (⟨#[98, 101, 103, 105, 110, 32, 116, 105, 99, 107]⟩ : ByteArray), (⟨#[98, 101, 103, 105, 110, 32, 99, 108, 101, 97, 114]⟩ : ByteArray), (⟨#[119, 97, 108, 107, 32, 104, 101, 97, 100]⟩ : ByteArray), (⟨#[119, 97, 108, 107, 32, 103, 117, 97, 114, 100]⟩ : ByteArray), (⟨#[119, 97, 108, 107, 32, 99, 104, 101, 99, 107]⟩ : ByteArray), (⟨#[119, 97, 108, 107, 32, 110, 101, 120, 116]⟩ : ByteArray), (⟨#[119, 97, 108, 107, 32, 117, 110, 108, 105, 110, 107]⟩ : ByteArray), (⟨#[119, 97, 108, 107, 32, 115, 104, 105, 102, 116]⟩ : ByteArray), (⟨#[114, 101, 97, 100, 32, 115, 116, 97, 109, 112]⟩ : ByteArray), (⟨#[114, 101, 97, 100, 32, 99, 108, 111, 99, 107]⟩ : ByteArray), (⟨#[114, 101, 97, 100, 32, 104, 101, 108, 112]⟩ : ByteArray), (⟨#[114, 101, 97, 100, 32, 118, 97, 108, 117, 101]⟩ : ByteArray), (⟨#[114, 101, 97, 100, 32, 99, 108, 101, 97, 114]⟩ : ByteArray), (⟨#[114, 101, 97, 100, 32, 100, 111, 110, 101]⟩ : ByteArray), (⟨#[119, 114, 105, 116, 101, 32, 97, 114, 101, 110, 97]⟩ : ByteArray), (⟨#[119, 114, 105, 116, 101, 32, 116, 97, 107, 101]⟩ : ByteArray), (⟨#[119, 114, 105, 116, 101, 32, 118, 97, 108, 117, 101]⟩ : ByteArray), (⟨#[119, 114, 105, 116, 101, 32, 114, 101, 115, 101, 116]⟩ : ByteArray), (⟨#[119, 114, 105, 116, 101, 32, 103, 117, 97, 114, 100]⟩ : ByteArray), (⟨#[119, 114, 105, 116, 101, 32, 104, 101, 97, 100]⟩ : ByteArray), (⟨#[119, 114, 105, 116, 101, 32, 104, 97, 122, 97, 114, 100]⟩ : ByteArray), (⟨#[119, 114, 105, 116, 101, 32, 99, 104, 101, 99, 107]⟩ : ByteArray), (⟨#[119, 114, 105, 116, 101, 32, 115, 116, 97, 109, 112]⟩ : ByteArray), (⟨#[119, 114, 105, 116, 101, 32, 99, 108, 111, 99, 107]⟩ : ByteArray), (⟨#[119, 114, 105, 116, 101, 32, 104, 101, 108, 112]⟩ : ByteArray), (⟨#[119, 114, 105, 116, 101, 32, 108, 105, 110, 107]⟩ : ByteArray), (⟨#[119, 114, 105, 116, 101, 32, 112, 117, 98, 108, 105, 115, 104]⟩ : ByteArray), (⟨#[119, 114, 105, 116, 101, 32, 111, 119, 110, 32, 99, 108, 111, 99, 107]⟩ : ByteArray), (⟨#[119, 114, 105, 116, 101, 32, 111, 119, 110, 32, 115, 116, 97, 109, 112]⟩ : ByteArray), (⟨#[119, 114, 105, 116, 101, 32, 114, 101, 116, 105, 114, 101]⟩ : ByteArray), (⟨#[119, 114, 105, 116, 101, 32, 99, 108, 101, 97, 114]⟩ : ByteArray), (⟨#[119, 114, 105, 116, 101, 32, 100, 111, 110, 101]⟩ : ByteArray), (⟨#[115, 99, 97, 110, 32, 97, 110, 110, 111, 117, 110, 99, 101, 100]⟩ : ByteArray), (⟨#[109, 97, 114, 107, 32, 108, 111, 97, 100]⟩ : ByteArray), (⟨#[109, 97, 114, 107, 32, 115, 119, 97, 112]⟩ : ByteArray), (⟨#[102, 108, 117, 115, 104, 32, 99, 108, 101, 97, 114]⟩ : ByteArray), (⟨#[102, 108, 117, 115, 104, 32, 100, 111, 110, 101]⟩ : ByteArray), (⟨#[115, 99, 97, 110, 32, 104, 97, 122, 97, 114, 100, 115]⟩ : ByteArray), (⟨#[101, 110, 100, 32, 99, 108, 101, 97, 114]⟩ : ByteArray)] : List ByteArray))) = some r := h
  clear h
  obtain ⟨y104, hy104⟩ : ∃ y_ : List ByteArray, y_ = (([(⟨#[105, 100, 108, 101]⟩ : ByteArray), (⟨#[98, 101, 103, 105, 110, 32, 108, 111, 97, 100]⟩ : ByteArray), (⟨#[98, 101, 103, 105, 110, 32, 97, 110, 110, 111, 117, 110, 99, 101]⟩ : ByteArray), (⟨#[98, 101, 103, 105, 110, 32, 99, 104, 101, 99, 107]⟩ : ByteArray), (⟨#[98, 101, 103, 105, 110, 32, 116, 105, 99, 107]⟩ : ByteArray), (⟨#[98, 101, 103, 105, 110, 32, 99, 108, 101, 97, 114]⟩ : ByteArray), (⟨#[119, 97, 108, 107, 32, 104, 101, 97, 100]⟩ : ByteArray), (⟨#[119, 97, 108, 107, 32, 103, 117, 97, 114, 100]⟩ : ByteArray), (⟨#[119, 97, 108, 107, 32, 99, 104, 101, 99, 107]⟩ : ByteArray), (⟨#[119, 97, 108, 107, 32, 110, 101, 120, 116]⟩ : ByteArray), (⟨#[119, 97, 108, 107, 32, 117, 110, 108, 105, 110, 107]⟩ : ByteArray), (⟨#[119, 97, 108, 107, 32, 115, 104, 105, 102, 116]⟩ : ByteArray), (⟨#[114, 101, 97, 100, 32, 115, 116, 97, 109, 112]⟩ : ByteArray), (⟨#[114, 101, 97, 100, 32, 99, 108, 111, 99, 107]⟩ : ByteArray), (⟨#[114, 101, 97, 100, 32, 104, 101, 108, 112]⟩ : ByteArray), (⟨#[114, 101, 97, 100, 32, 118, 97, 108, 117, 101]⟩ : ByteArray), (⟨#[114, 101, 97, 100, 32, 99, 108, 101, 97, 114]⟩ : ByteArray), (⟨#[114, 101, 97, 100, 32, 100, 111, 110, 101]⟩ : ByteArray), (⟨#[119, 114, 105, 116, 101, 32, 97, 114, 101, 110, 97]⟩ : ByteArray), (⟨#[119, 114, 105, 116, 101, 32, 116, 97, 107, 101]⟩ : ByteArray), (⟨#[119, 114, 105, 116, 101, 32, 118, 97, 108, 117, 101]⟩ : ByteArray), (⟨#[119, 114, 105, 116, 101, 32, 114, 101, 115, 101, 116]⟩ : ByteArray), (⟨#[119, 114, 105, 116, 101, 32, 103, 117, 97, 114, 100]⟩ : ByteArray), (⟨#[119, 114, 105, 116, 101, 32, 104, 101, 97, 100]⟩ : ByteArray), (⟨#[119, 114, 105, 116, 101, 32, 104, 97, 122, 97, 114, 100]⟩ : ByteArray), (⟨#[119, 114, 105, 116, 101, 32, 99, 104, 101, 99, 107]⟩ : ByteArray), (⟨#[119, 114, 105, 116, 101, 32, 115, 116, 97, 109, 112]⟩ : ByteArray), (⟨#[119, 114, 105, 116, 101, 32, 99, 108, 111, 99, 107]⟩ : ByteArray), (⟨#[119, 114, 105, 116, 101, 32, 104, 101, 108, 112]⟩ : ByteArray), (⟨#[119, 114, 105, 116, 101, 32, 108, 105, 110, 107]⟩ : ByteArray), (⟨#[119, 114, 105, 116, 101, 32, 112, 117, 98, 108, 105, 115, 104]⟩ : ByteArray), (⟨#[119, 114, 105, 116, 101, 32, 111, 119, 110, 32, 99, 108, 111, 99, 107]⟩ : ByteArray), (⟨#[119, 114, 105, 116, 101, 32, 111, 119, 110, 32, 115, 116, 97, 109, 112]⟩ : ByteArray), (⟨#[119, 114, 105, 116, 101, 32, 114, 101, 116, 105, 114, 101]⟩ : ByteArray), (⟨#[119, 114, 105, 116, 101, 32, 99, 108, 101, 97, 114]⟩ : ByteArray), (⟨#[119, 114, 105, 116, 101, 32, 100, 111, 110, 101]⟩ : ByteArray), (⟨#[115, 99, 97, 110, 32, 97, 110, 110, 111, 117, 110, 99, 101, 100]⟩ : ByteArray), (⟨#[109, 97, 114, 107, 32, 108, 111, 97, 100]⟩ : ByteArray), (⟨#[109, 97, 114, 107, 32, 115, 119, 97, 112]⟩ : ByteArray), (⟨#[102, 108, 117, 115, 104, 32, 99, 108, 101, 97, 114]⟩ : ByteArray), (⟨#[102, 108, 117, 115, 104, 32, 100, 111, 110, 101]⟩ : ByteArray), (⟨#[115, 99, 97, 110, 32, 104, 97, 122, 97, 114, 100, 115]⟩ : ByteArray), (⟨#[101, 110, 100, 32, 99, 108, 101, 97, 114]⟩ : ByteArray)] : List ByteArray)) := ⟨_, rfl⟩
  replace H : (some y104) = some r := by first | (rw [hy104]; with_reducible exact H) | (have H2_ := (Option.bind_some _ _).symm.trans H; rw [hy104]; with_reducible exact H2_) | (have H2_ := (Option.bind_some _ _).symm.trans H; with_reducible exact H2_) | with_reducible exact H | (rw [hy104]; exact H) | exact H
  have Ny104 := Aside0.mk hy104
  clear hy104
  obtain rfl := Option.some.inj H
  go_enter Try.func74, Try.ntmps74
  go_wp2_with (first | ((with_reducible refine gate_dst (N := 1) rfl ?_); refine Kd.R_lit Kd.string _ 9 ?hg (N := 1) ?hd (xs := ([(⟨#[105, 100, 108, 101]⟩ : ByteArray), (⟨#[98, 101, 103, 105, 110, 32, 108, 111, 97, 100]⟩ : ByteArray), (⟨#[98, 101, 103, 105, 110, 32, 97, 110, 110, 111, 117, 110, 99, 101]⟩ : ByteArray), (⟨#[98, 101, 103, 105, 110, 32, 99, 104, 101, 99, 107]⟩ : ByteArray), (⟨#[98, 101, 103, 105, 110, 32, 116, 105, 99, 107]⟩ : ByteArray), (⟨#[98, 101, 103, 105, 110, 32, 99, 108, 101, 97, 114]⟩ : ByteArray), (⟨#[119, 97, 108, 107, 32, 104, 101, 97, 100]⟩ : ByteArray), (⟨#[119, 97, 108, 107, 32, 103, 117, 97, 114, 100]⟩ : ByteArray), (⟨#[119, 97, 108, 107, 32, 99, 104, 101, 99, 107]⟩ : ByteArray), (⟨#[119, 97, 108, 107, 32, 110, 101, 120, 116]⟩ : ByteArray), (⟨#[119, 97, 108, 107, 32, 117, 110, 108, 105, 110, 107]⟩ : ByteArray), (⟨#[119, 97, 108, 107, 32, 115, 104, 105, 102, 116]⟩ : ByteArray), (⟨#[114, 101, 97, 100, 32, 115, 116, 97, 109, 112]⟩ : ByteArray), (⟨#[114, 101, 97, 100, 32, 99, 108, 111, 99, 107]⟩ : ByteArray), (⟨#[114, 101, 97, 100, 32, 104, 101, 108, 112]⟩ : ByteArray), (⟨#[114, 101, 97, 100, 32, 118, 97, 108, 117, 101]⟩ : ByteArray), (⟨#[114, 101, 97, 100, 32, 99, 108, 101, 97, 114]⟩ : ByteArray), (⟨#[114, 101, 97, 100, 32, 100, 111, 110, 101]⟩ : ByteArray), (⟨#[119, 114, 105, 116, 101, 32, 97, 114, 101, 110, 97]⟩ : ByteArray), (⟨#[119, 114, 105, 116, 101, 32, 116, 97, 107, 101]⟩ : ByteArray), (⟨#[119, 114, 105, 116, 101, 32, 118, 97, 108, 117, 101]⟩ : ByteArray), (⟨#[119, 114, 105, 116, 101, 32, 114, 101, 115, 101, 116]⟩ : ByteArray), (⟨#[119, 114, 105, 116, 101, 32, 103, 117, 97, 114, 100]⟩ : ByteArray), (⟨#[119, 114, 105, 116, 101, 32, 104, 101, 97, 100]⟩ : ByteArray), (⟨#[119, 114, 105, 116, 101, 32, 104, 97, 122, 97, 114, 100]⟩ : ByteArray), (⟨#[119, 114, 105, 116, 101, 32, 99, 104, 101, 99, 107]⟩ : ByteArray), (⟨#[119, 114, 105, 116, 101, 32, 115, 116, 97, 109, 112]⟩ : ByteArray), (⟨#[119, 114, 105, 116, 101, 32, 99, 108, 111, 99, 107]⟩ : ByteArray), (⟨#[119, 114, 105, 116, 101, 32, 104, 101, 108, 112]⟩ : ByteArray), (⟨#[119, 114, 105, 116, 101, 32, 108, 105, 110, 107]⟩ : ByteArray), (⟨#[119, 114, 105, 116, 101, 32, 112, 117, 98, 108, 105, 115, 104]⟩ : ByteArray), (⟨#[119, 114, 105, 116, 101, 32, 111, 119, 110, 32, 99, 108, 111, 99, 107]⟩ : ByteArray), (⟨#[119, 114, 105, 116, 101, 32, 111, 119, 110, 32, 115, 116, 97, 109, 112]⟩ : ByteArray), (⟨#[119, 114, 105, 116, 101, 32, 114, 101, 116, 105, 114, 101]⟩ : ByteArray), (⟨#[119, 114, 105, 116, 101, 32, 99, 108, 101, 97, 114]⟩ : ByteArray), (⟨#[119, 114, 105, 116, 101, 32, 100, 111, 110, 101]⟩ : ByteArray), (⟨#[115, 99, 97, 110, 32, 97, 110, 110, 111, 117, 110, 99, 101, 100]⟩ : ByteArray), (⟨#[109, 97, 114, 107, 32, 108, 111, 97, 100]⟩ : ByteArray), (⟨#[109, 97, 114, 107, 32, 115, 119, 97, 112]⟩ : ByteArray), (⟨#[102, 108, 117, 115, 104, 32, 99, 108, 101, 97, 114]⟩ : ByteArray), (⟨#[102, 108, 117, 115, 104, 32, 100, 111, 110, 101]⟩ : ByteArray), (⟨#[115, 99, 97, 110, 32, 104, 97, 122, 97, 114, 100, 115]⟩ : ByteArray), (⟨#[101, 110, 100, 32, 99, 108, 101, 97, 114]⟩ : ByteArray)] : List ByteArray)) (inner := [.string (⟨#[105, 100, 108, 101]⟩ : ByteArray), .string (⟨#[98, 101, 103, 105, 110, 32, 108, 111, 97, 100]⟩ : ByteArray), .string (⟨#[98, 101, 103, 105, 110, 32, 97, 110, 110, 111, 117, 110, 99, 101]⟩ : ByteArray), .string (⟨#[98, 101, 103, 105, 110, 32, 99, 104, 101, 99, 107]⟩ : ByteArray), .string (⟨#[98, 101, 103, 105, 110, 32, 116, 105, 99, 107]⟩ : ByteArray), .string (⟨#[98, 101, 103, 105, 110, 32, 99, 108, 101, 97, 114]⟩ : ByteArray), .string (⟨#[119, 97, 108, 107, 32, 104, 101, 97, 100]⟩ : ByteArray), .string (⟨#[119, 97, 108, 107, 32, 103, 117, 97, 114, 100]⟩ : ByteArray), .string (⟨#[119, 97, 108, 107, 32, 99, 104, 101, 99, 107]⟩ : ByteArray), .string (⟨#[119, 97, 108, 107, 32, 110, 101, 120, 116]⟩ : ByteArray), .string (⟨#[119, 97, 108, 107, 32, 117, 110, 108, 105, 110, 107]⟩ : ByteArray), .string (⟨#[119, 97, 108, 107, 32, 115, 104, 105, 102, 116]⟩ : ByteArray), .string (⟨#[114, 101, 97, 100, 32, 115, 116, 97, 109, 112]⟩ : ByteArray), .string (⟨#[114, 101, 97, 100, 32, 99, 108, 111, 99, 107]⟩ : ByteArray), .string (⟨#[114, 101, 97, 100, 32, 104, 101, 108, 112]⟩ : ByteArray), .string (⟨#[114, 101, 97, 100, 32, 118, 97, 108, 117, 101]⟩ : ByteArray), .string (⟨#[114, 101, 97, 100, 32, 99, 108, 101, 97, 114]⟩ : ByteArray), .string (⟨#[114, 101, 97, 100, 32, 100, 111, 110, 101]⟩ : ByteArray), .string (⟨#[119, 114, 105, 116, 101, 32, 97, 114, 101, 110, 97]⟩ : ByteArray), .string (⟨#[119, 114, 105, 116, 101, 32, 116, 97, 107, 101]⟩ : ByteArray), .string (⟨#[119, 114, 105, 116, 101, 32, 118, 97, 108, 117, 101]⟩ : ByteArray), .string (⟨#[119, 114, 105, 116, 101, 32, 114, 101, 115, 101, 116]⟩ : ByteArray), .string (⟨#[119, 114, 105, 116, 101, 32, 103, 117, 97, 114, 100]⟩ : ByteArray), .string (⟨#[119, 114, 105, 116, 101, 32, 104, 101, 97, 100]⟩ : ByteArray), .string (⟨#[119, 114, 105, 116, 101, 32, 104, 97, 122, 97, 114, 100]⟩ : ByteArray), .string (⟨#[119, 114, 105, 116, 101, 32, 99, 104, 101, 99, 107]⟩ : ByteArray), .string (⟨#[119, 114, 105, 116, 101, 32, 115, 116, 97, 109, 112]⟩ : ByteArray), .string (⟨#[119, 114, 105, 116, 101, 32, 99, 108, 111, 99, 107]⟩ : ByteArray), .string (⟨#[119, 114, 105, 116, 101, 32, 104, 101, 108, 112]⟩ : ByteArray), .string (⟨#[119, 114, 105, 116, 101, 32, 108, 105, 110, 107]⟩ : ByteArray), .string (⟨#[119, 114, 105, 116, 101, 32, 112, 117, 98, 108, 105, 115, 104]⟩ : ByteArray), .string (⟨#[119, 114, 105, 116, 101, 32, 111, 119, 110, 32, 99, 108, 111, 99, 107]⟩ : ByteArray), .string (⟨#[119, 114, 105, 116, 101, 32, 111, 119, 110, 32, 115, 116, 97, 109, 112]⟩ : ByteArray), .string (⟨#[119, 114, 105, 116, 101, 32, 114, 101, 116, 105, 114, 101]⟩ : ByteArray), .string (⟨#[119, 114, 105, 116, 101, 32, 99, 108, 101, 97, 114]⟩ : ByteArray), .string (⟨#[119, 114, 105, 116, 101, 32, 100, 111, 110, 101]⟩ : ByteArray), .string (⟨#[115, 99, 97, 110, 32, 97, 110, 110, 111, 117, 110, 99, 101, 100]⟩ : ByteArray), .string (⟨#[109, 97, 114, 107, 32, 108, 111, 97, 100]⟩ : ByteArray), .string (⟨#[109, 97, 114, 107, 32, 115, 119, 97, 112]⟩ : ByteArray), .string (⟨#[102, 108, 117, 115, 104, 32, 99, 108, 101, 97, 114]⟩ : ByteArray), .string (⟨#[102, 108, 117, 115, 104, 32, 100, 111, 110, 101]⟩ : ByteArray), .string (⟨#[115, 99, 97, 110, 32, 104, 97, 122, 97, 114, 100, 115]⟩ : ByteArray), .string (⟨#[101, 110, 100, 32, 99, 108, 101, 97, 114]⟩ : ByteArray)]) (ok := fun _ => True) (okp := fun _ => True) ?hr ?hp (fun _ hk => hk) trivial (Below.refl _ _) (Nat.le_refl _) (by simp) ?_; (case hd => rfl); (case hg => rfl); (case hr => first | (go_simp; done) | (go_simp; rfl)); (case hp => exact (Reps.one (show Kd.M Kd.string _ _ _ (⟨#[105, 100, 108, 101]⟩ : ByteArray) [.string (⟨#[105, 100, 108, 101]⟩ : ByteArray)] from rfl) (Reps.one (show Kd.M Kd.string _ _ _ (⟨#[98, 101, 103, 105, 110, 32, 108, 111, 97, 100]⟩ : ByteArray) [.string (⟨#[98, 101, 103, 105, 110, 32, 108, 111, 97, 100]⟩ : ByteArray)] from rfl) (Reps.one (show Kd.M Kd.string _ _ _ (⟨#[98, 101, 103, 105, 110, 32, 97, 110, 110, 111, 117, 110, 99, 101]⟩ : ByteArray) [.string (⟨#[98, 101, 103, 105, 110, 32, 97, 110, 110, 111, 117, 110, 99, 101]⟩ : ByteArray)] from rfl) (Reps.one (show Kd.M Kd.string _ _ _ (⟨#[98, 101, 103, 105, 110, 32, 99, 104, 101, 99, 107]⟩ : ByteArray) [.string (⟨#[98, 101, 103, 105, 110, 32, 99, 104, 101, 99, 107]⟩ : ByteArray)] from rfl) (Reps.one (show Kd.M Kd.string _ _ _ (⟨#[98, 101, 103, 105, 110, 32, 116, 105, 99, 107]⟩ : ByteArray) [.string (⟨#[98, 101, 103, 105, 110, 32, 116, 105, 99, 107]⟩ : ByteArray)] from rfl) (Reps.one (show Kd.M Kd.string _ _ _ (⟨#[98, 101, 103, 105, 110, 32, 99, 108, 101, 97, 114]⟩ : ByteArray) [.string (⟨#[98, 101, 103, 105, 110, 32, 99, 108, 101, 97, 114]⟩ : ByteArray)] from rfl) (Reps.one (show Kd.M Kd.string _ _ _ (⟨#[119, 97, 108, 107, 32, 104, 101, 97, 100]⟩ : ByteArray) [.string (⟨#[119, 97, 108, 107, 32, 104, 101, 97, 100]⟩ : ByteArray)] from rfl) (Reps.one (show Kd.M Kd.string _ _ _ (⟨#[119, 97, 108, 107, 32, 103, 117, 97, 114, 100]⟩ : ByteArray) [.string (⟨#[119, 97, 108, 107, 32, 103, 117, 97, 114, 100]⟩ : ByteArray)] from rfl) (Reps.one (show Kd.M Kd.string _ _ _ (⟨#[119, 97, 108, 107, 32, 99, 104, 101, 99, 107]⟩ : ByteArray) [.string (⟨#[119, 97, 108, 107, 32, 99, 104, 101, 99, 107]⟩ : ByteArray)] from rfl) (Reps.one (show Kd.M Kd.string _ _ _ (⟨#[119, 97, 108, 107, 32, 110, 101, 120, 116]⟩ : ByteArray) [.string (⟨#[119, 97, 108, 107, 32, 110, 101, 120, 116]⟩ : ByteArray)] from rfl) (Reps.one (show Kd.M Kd.string _ _ _ (⟨#[119, 97, 108, 107, 32, 117, 110, 108, 105, 110, 107]⟩ : ByteArray) [.string (⟨#[119, 97, 108, 107, 32, 117, 110, 108, 105, 110, 107]⟩ : ByteArray)] from rfl) (Reps.one (show Kd.M Kd.string _ _ _ (⟨#[119, 97, 108, 107, 32, 115, 104, 105, 102, 116]⟩ : ByteArray) [.string (⟨#[119, 97, 108, 107, 32, 115, 104, 105, 102, 116]⟩ : ByteArray)] from rfl) (Reps.one (show Kd.M Kd.string _ _ _ (⟨#[114, 101, 97, 100, 32, 115, 116, 97, 109, 112]⟩ : ByteArray) [.string (⟨#[114, 101, 97, 100, 32, 115, 116, 97, 109, 112]⟩ : ByteArray)] from rfl) (Reps.one (show Kd.M Kd.string _ _ _ (⟨#[114, 101, 97, 100, 32, 99, 108, 111, 99, 107]⟩ : ByteArray) [.string (⟨#[114, 101, 97, 100, 32, 99, 108, 111, 99, 107]⟩ : ByteArray)] from rfl) (Reps.one (show Kd.M Kd.string _ _ _ (⟨#[114, 101, 97, 100, 32, 104, 101, 108, 112]⟩ : ByteArray) [.string (⟨#[114, 101, 97, 100, 32, 104, 101, 108, 112]⟩ : ByteArray)] from rfl) (Reps.one (show Kd.M Kd.string _ _ _ (⟨#[114, 101, 97, 100, 32, 118, 97, 108, 117, 101]⟩ : ByteArray) [.string (⟨#[114, 101, 97, 100, 32, 118, 97, 108, 117, 101]⟩ : ByteArray)] from rfl) (Reps.one (show Kd.M Kd.string _ _ _ (⟨#[114, 101, 97, 100, 32, 99, 108, 101, 97, 114]⟩ : ByteArray) [.string (⟨#[114, 101, 97, 100, 32, 99, 108, 101, 97, 114]⟩ : ByteArray)] from rfl) (Reps.one (show Kd.M Kd.string _ _ _ (⟨#[114, 101, 97, 100, 32, 100, 111, 110, 101]⟩ : ByteArray) [.string (⟨#[114, 101, 97, 100, 32, 100, 111, 110, 101]⟩ : ByteArray)] from rfl) (Reps.one (show Kd.M Kd.string _ _ _ (⟨#[119, 114, 105, 116, 101, 32, 97, 114, 101, 110, 97]⟩ : ByteArray) [.string (⟨#[119, 114, 105, 116, 101, 32, 97, 114, 101, 110, 97]⟩ : ByteArray)] from rfl) (Reps.one (show Kd.M Kd.string _ _ _ (⟨#[119, 114, 105, 116, 101, 32, 116, 97, 107, 101]⟩ : ByteArray) [.string (⟨#[119, 114, 105, 116, 101, 32, 116, 97, 107, 101]⟩ : ByteArray)] from rfl) (Reps.one (show Kd.M Kd.string _ _ _ (⟨#[119, 114, 105, 116, 101, 32, 118, 97, 108, 117, 101]⟩ : ByteArray) [.string (⟨#[119, 114, 105, 116, 101, 32, 118, 97, 108, 117, 101]⟩ : ByteArray)] from rfl) (Reps.one (show Kd.M Kd.string _ _ _ (⟨#[119, 114, 105, 116, 101, 32, 114, 101, 115, 101, 116]⟩ : ByteArray) [.string (⟨#[119, 114, 105, 116, 101, 32, 114, 101, 115, 101, 116]⟩ : ByteArray)] from rfl) (Reps.one (show Kd.M Kd.string _ _ _ (⟨#[119, 114, 105, 116, 101, 32, 103, 117, 97, 114, 100]⟩ : ByteArray) [.string (⟨#[119, 114, 105, 116, 101, 32, 103, 117, 97, 114, 100]⟩ : ByteArray)] from rfl) (Reps.one (show Kd.M Kd.string _ _ _ (⟨#[119, 114, 105, 116, 101, 32, 104, 101, 97, 100]⟩ : ByteArray) [.string (⟨#[119, 114, 105, 116, 101, 32, 104, 101, 97, 100]⟩ : ByteArray)] from rfl) (Reps.one (show Kd.M Kd.string _ _ _ (⟨#[119, 114, 105, 116, 101, 32, 104, 97, 122, 97, 114, 100]⟩ : ByteArray) [.string (⟨#[119, 114, 105, 116, 101, 32, 104, 97, 122, 97, 114, 100]⟩ : ByteArray)] from rfl) (Reps.one (show Kd.M Kd.string _ _ _ (⟨#[119, 114, 105, 116, 101, 32, 99, 104, 101, 99, 107]⟩ : ByteArray) [.string (⟨#[119, 114, 105, 116, 101, 32, 99, 104, 101, 99, 107]⟩ : ByteArray)] from rfl) (Reps.one (show Kd.M Kd.string _ _ _ (⟨#[119, 114, 105, 116, 101, 32, 115, 116, 97, 109, 112]⟩ : ByteArray) [.string (⟨#[119, 114, 105, 116, 101, 32, 115, 116, 97, 109, 112]⟩ : ByteArray)] from rfl) (Reps.one (show Kd.M Kd.string _ _ _ (⟨#[119, 114, 105, 116, 101, 32, 99, 108, 111, 99, 107]⟩ : ByteArray) [.string (⟨#[119, 114, 105, 116, 101, 32, 99, 108, 111, 99, 107]⟩ : ByteArray)] from rfl) (Reps.one (show Kd.M Kd.string _ _ _ (⟨#[119, 114, 105, 116, 101, 32, 104, 101, 108, 112]⟩ : ByteArray) [.string (⟨#[119, 114, 105, 116, 101, 32, 104, 101, 108, 112]⟩ : ByteArray)] from rfl) (Reps.one (show Kd.M Kd.string _ _ _ (⟨#[119, 114, 105, 116, 101, 32, 108, 105, 110, 107]⟩ : ByteArray) [.string (⟨#[119, 114, 105, 116, 101, 32, 108, 105, 110, 107]⟩ : ByteArray)] from rfl) (Reps.one (show Kd.M Kd.string _ _ _ (⟨#[119, 114, 105, 116, 101, 32, 112, 117, 98, 108, 105, 115, 104]⟩ : ByteArray) [.string (⟨#[119, 114, 105, 116, 101, 32, 112, 117, 98, 108, 105, 115, 104]⟩ : ByteArray)] from rfl) (Reps.one (show Kd.M Kd.string _ _ _ (⟨#[119, 114, 105, 116, 101, 32, 111, 119, 110, 32, 99, 108, 111, 99, 107]⟩ : ByteArray) [.string (⟨#[119, 114, 105, 116, 101, 32, 111, 119, 110, 32, 99, 108, 111, 99, 107]⟩ : ByteArray)] from rfl) (Reps.one (show Kd.M Kd.string _ _ _ (⟨#[119, 114, 105, 116, 101, 32, 111, 119, 110, 32, 115, 116, 97, 109, 112]⟩ : ByteArray) [.string (⟨#[119, 114, 105, 116, 101, 32, 111, 119, 110, 32, 115, 116, 97, 109, 112]⟩ : ByteArray)] from rfl) (Reps.one (show Kd.M Kd.string _ _ _ (⟨#[119, 114, 105, 116, 101, 32, 114, 101, 116, 105, 114, 101]⟩ : ByteArray) [.string (⟨#[119, 114, 105, 116, 101, 32, 114, 101, 116, 105, 114, 101]⟩ : ByteArray)] from rfl) (Reps.one (show Kd.M Kd.string _ _ _ (⟨#[119, 114, 105, 116, 101, 32, 99, 108, 101, 97, 114]⟩ : ByteArray) [.string (⟨#[119, 114, 105, 116, 101, 32, 99, 108, 101, 97, 114]⟩ : ByteArray)] from rfl) (Reps.one (show Kd.M Kd.string _ _ _ (⟨#[119, 114, 105, 116, 101, 32, 100, 111, 110, 101]⟩ : ByteArray) [.string (⟨#[119, 114, 105, 116, 101, 32, 100, 111, 110, 101]⟩ : ByteArray)] from rfl) (Reps.one (show Kd.M Kd.string _ _ _ (⟨#[115, 99, 97, 110, 32, 97, 110, 110, 111, 117, 110, 99, 101, 100]⟩ : ByteArray) [.string (⟨#[115, 99, 97, 110, 32, 97, 110, 110, 111, 117, 110, 99, 101, 100]⟩ : ByteArray)] from rfl) (Reps.one (show Kd.M Kd.string _ _ _ (⟨#[109, 97, 114, 107, 32, 108, 111, 97, 100]⟩ : ByteArray) [.string (⟨#[109, 97, 114, 107, 32, 108, 111, 97, 100]⟩ : ByteArray)] from rfl) (Reps.one (show Kd.M Kd.string _ _ _ (⟨#[109, 97, 114, 107, 32, 115, 119, 97, 112]⟩ : ByteArray) [.string (⟨#[109, 97, 114, 107, 32, 115, 119, 97, 112]⟩ : ByteArray)] from rfl) (Reps.one (show Kd.M Kd.string _ _ _ (⟨#[102, 108, 117, 115, 104, 32, 99, 108, 101, 97, 114]⟩ : ByteArray) [.string (⟨#[102, 108, 117, 115, 104, 32, 99, 108, 101, 97, 114]⟩ : ByteArray)] from rfl) (Reps.one (show Kd.M Kd.string _ _ _ (⟨#[102, 108, 117, 115, 104, 32, 100, 111, 110, 101]⟩ : ByteArray) [.string (⟨#[102, 108, 117, 115, 104, 32, 100, 111, 110, 101]⟩ : ByteArray)] from rfl) (Reps.one (show Kd.M Kd.string _ _ _ (⟨#[115, 99, 97, 110, 32, 104, 97, 122, 97, 114, 100, 115]⟩ : ByteArray) [.string (⟨#[115, 99, 97, 110, 32, 104, 97, 122, 97, 114, 100, 115]⟩ : ByteArray)] from rfl) (Reps.one (show Kd.M Kd.string _ _ _ (⟨#[101, 110, 100, 32, 99, 108, 101, 97, 114]⟩ : ByteArray) [.string (⟨#[101, 110, 100, 32, 99, 108, 101, 97, 114]⟩ : ByteArray)] from rfl) (Reps.none _ _))))))))))))))))))))))))))))))))))))))))))))); intro v105 w1 ho2 hb hg_ hnew_; clear hg_ hnew_; (first | rw [← Ny104.out] at ho2 | (simp only [Int.reduceToNat] at ho2; rw [← Ny104.out] at ho2)); have n0_ := Aside0.mk (Kd.R_lower ho2 (below_size (by repeat (first | (with_reducible first | exact HB.out | apply below_alloc | apply pw_below_drewN | apply below_drew1) | exact HB.out)))); have n1_ := Aside0.mk (below_step (by repeat (first | (with_reducible first | exact HB.out | apply below_alloc | apply pw_below_drewN | apply below_drew1) | exact HB.out)) hb); clear HB; have HO106 := n0_; have HB := n1_; clear n0_ n1_; clear hb ho2))
  go_ret
  exact ⟨_, by first | rfl | (refine congrArg Ending.returned (congrArg Value.bool ?_); generalize ByteArray.toList _ = l_; cases l_ <;> rfl) | (simp [errW_none, errW_some] <;> rfl) | (simp [*, errW_none, errW_some] <;> rfl), by (with_reducible repeat (first | apply Kd.R_alloc | apply Kd.R_drewN | apply Kd.R_drew)); exact HO106.out, by repeat (first | (with_reducible first | exact HB.out | apply below_alloc | apply pw_below_drewN | apply below_drew1) | exact HB.out)⟩

/-! ### spec_PcName: function 37 -/
def spec_PcName.l0 : Nat → Int → List Int → Int → Option (ByteArray)
  | 0, _, _, _ => none
  | k + 1, x0, x3, x4 => if x4 < (x3.length : Int) then (if 0 ≤ x4 then (if (rd x3 x4) = x0 then ((spec_l7Names.f).bind fun t111 => (if x4 < (t111.length : Int) then (some (rdOf ByteArray.empty t111 x4)) else (none))) else (spec_PcName.l0 k x0 x3 (wrap64 (x4 + 1)))) else (none)) else (some (⟨#[]⟩ : ByteArray))
def spec_PcName.f (k : Nat) (a0 : Int) : Option (ByteArray) := (spec_l7Pcs.f).bind fun t107 => (spec_PcName.l0 k a0 t107 0)
theorem spec_PcName.mono_l : ∀ k, (∀ y0 y1 y2, LeO (spec_PcName.l0 k y0 y1 y2) (spec_PcName.l0 (k + 1) y0 y1 y2))
  | 0 => fun _ _ _ r h => by simp [spec_PcName.l0] at h
  | k + 1 => by
    have ih0 := spec_PcName.mono_l k
    · intro y0 y1 y2
      unfold spec_PcName.l0
      repeat' first
      | (with_reducible exact ih0 _ _ _)
      | (with_reducible exact LeO.refl _)
      | (with_reducible exact LeO.none _)
      | (with_reducible refine LeO.ite ?_ ?_)
      | (with_reducible refine LeO.bind ?_ (fun _ => ?_))
      | exact ih0 _ _ _
      | exact LeO.none _
      | refine LeO.ite ?_ ?_
      | refine LeO.bind ?_ (fun _ => ?_)
theorem spec_PcName.mono : ∀ a0 k, LeO (spec_PcName.f k a0) (spec_PcName.f (k + 1) a0) := by
  intro a0 k
  have ih0 := spec_PcName.mono_l k
  unfold spec_PcName.f
  repeat' first
      | (with_reducible exact ih0 _ _ _)
      | (with_reducible exact LeO.refl _)
      | (with_reducible exact LeO.none _)
      | (with_reducible refine LeO.ite ?_ ?_)
      | (with_reducible refine LeO.bind ?_ (fun _ => ?_))
      | exact ih0 _ _ _
      | exact LeO.none _
      | refine LeO.ite ?_ ?_
      | refine LeO.bind ?_ (fun _ => ?_)
set_option maxHeartbeats 8000000 in
set_option maxRecDepth 100000 in
theorem spec_PcName.calls (k : Nat) (a0 : Int) (r : ByteArray) (w : World) (h : spec_PcName.f k a0 = some r) :
    Calls Try.prog 37 #[.int .i64 a0] w fun e w' => e = .returned (.string r) ∧ Below w.heap.size w w' := by
  have HB := Aside0.mk (Below.refl w.heap.size w)
  have H : ((spec_l7Pcs.f).bind fun t107 => (spec_PcName.l0 k a0 t107 0)) = some r := h
  clear h
  replace H := Option.bind_eq_some_iff.mp H
  obtain ⟨t107, A20, H⟩ := H
  replace H : (spec_PcName.l0 k a0 t107 0) = some r := H
  have A2 := Aside0.mk A20
  clear A20
  have H' := Aside0.mk H
  clear H
  go_enter Try.func37, Try.ntmps37
  go_wp2_with (first | ((with_reducible refine gate_callee (f := 73) rfl ?_); refine goesL_ (some 5) rfl rfl Try.func73 (by kernel_rfl) rfl #[] rfl (by (try simp only [List.map_toArray, List.map_cons, List.map_nil]); first | done | rfl | (simp only [List.length_drop, List.length_take]; rfl)) ?_; (with_reducible refine (spec_l7Pcs.calls  t107 _ A2.out).mono ?_); rintro e w3 ⟨v108, rfl, ho0, hb⟩; refine ⟨_, rfl, ?_⟩; have n0_ := Aside0.mk (Kd.R_lower ho0 (below_size (by repeat (first | (with_reducible first | exact HB.out | apply below_alloc | apply pw_below_drewN | apply below_drew1) | exact HB.out)))); have n1_ := Aside0.mk (below_step (by repeat (first | (with_reducible first | exact HB.out | apply below_alloc | apply pw_below_drewN | apply below_drew1) | exact HB.out)) hb); clear HB; have HO109 := n0_; have HB := n1_; clear n0_ n1_; (try clear hb); (try clear hb2); (try clear hk); (try clear hi); (try clear ho0)))
  go_loopg [4] k (fun kq v4 w' => ∃ (x4_1 : Int), v4 = .int .i64 x4_1 ∧ Aside0 (spec_PcName.l0 kq a0 t107 x4_1 = some r) ∧ Aside0 (kq ≤ k) ∧ Aside0 (Kd.R (Kd.int .i64) 3 w' w.heap.size (fun _ => True) v108 t107) ∧ Aside0 (Below w.heap.size w w'))
  case atStart => exact ⟨(0), (by first | rfl | (simp; done) | (simp [*]; done)), H', ⟨Nat.le_refl _⟩, ⟨by (with_reducible repeat (first | apply Kd.R_alloc | apply Kd.R_drewN | apply Kd.R_drew)); exact HO109.out⟩, ⟨by repeat (first | (with_reducible first | exact HB.out | apply below_alloc | apply pw_below_drewN | apply below_drew1) | exact HB.out)⟩⟩
  case round =>
    clear H'
    try clear p2
    try clear c3
    obtain ⟨x4_1, rfl, HA, HK1, HO_3, HB⟩ := hrel
    cases gk with
    | zero => exact absurd HA.out (by simp [spec_PcName.l0])
    | succ k1 =>
      have H := HA.out
      clear HA
      simp only [spec_PcName.l0] at H
      by_cases c4 : x4_1 < (t107.length : Int)
      · rw [if_pos c4] at H
        have c4b0 : decide (x4_1 < (t107.length : Int)) = true := decide_eq_true c4
        clear c4
        by_cases c5 : 0 ≤ x4_1
        · rw [if_pos c5] at H
          have c5b0 : decide (0 ≤ x4_1) = true := decide_eq_true c5
          clear c5
          by_cases c6 : (rd t107 x4_1) = a0
          · rw [if_pos c6] at H
            have c6b0 : ((rd t107 x4_1) == a0) = true := beq_iff_eq.mpr c6
            have c6b1 : ((rd t107 x4_1) != a0) = false := bne_eq_false_iff_eq.mpr c6
            clear c6
            replace H := Option.bind_eq_some_iff.mp H
            obtain ⟨t111, A70, H⟩ := H
            replace H : (if x4_1 < (t111.length : Int) then (some (rdOf ByteArray.empty t111 x4_1)) else (none)) = some r := H
            have A7 := Aside0.mk A70
            clear A70
            by_cases c8 : x4_1 < (t111.length : Int)
            · rw [if_pos c8] at H
              have c8b0 : decide (x4_1 < (t111.length : Int)) = true := decide_eq_true c8
              clear c8
              obtain rfl := Option.some.inj H
              obtain ⟨Ao9, co9, eo9⟩ := Kd.R_slice HO_3.out
              subst eo9
              have p110 : 0 ≤ (x4_1 : Int) := of_decide_eq_true (by first | (with_reducible assumption) | assumption)
              have q110 : x4_1 < (t107.length : Int) := of_decide_eq_true (by first | (with_reducible assumption) | assumption)
              obtain ⟨ad110, e110, hx110_0⟩ := Kd.at_int (Kd.R_reads' HO_3.out).2.2 x4_1 p110 q110
              cases e110
              replace p110 := eq_true p110
              replace q110 := eq_true q110
              go_wp2_with (first | ((with_reducible refine gate_callee (f := 74) rfl ?_); refine goesL_ (some 18) rfl rfl Try.func74 (by kernel_rfl) rfl #[] rfl (by (try simp only [List.map_toArray, List.map_cons, List.map_nil]); first | done | rfl | (simp only [List.length_drop, List.length_take]; rfl)) ?_; (with_reducible refine (spec_l7Names.calls  t111 _ A7.out).mono ?_); rintro e w10 ⟨v112, rfl, ho0, hb⟩; refine ⟨_, rfl, ?_⟩; have n0_ := Aside0.mk (Kd.R_below (by (with_reducible repeat (first | apply Kd.R_alloc | apply Kd.R_drewN | apply Kd.R_drew)); exact HO_3.out) hb); have n1_ := Aside0.mk (Kd.R_lower ho0 (below_size (by repeat (first | (with_reducible first | exact HB.out | apply below_alloc | apply pw_below_drewN | apply below_drew1) | exact HB.out)))); have n2_ := Aside0.mk (below_step (by repeat (first | (with_reducible first | exact HB.out | apply below_alloc | apply pw_below_drewN | apply below_drew1) | exact HB.out)) hb); clear HO_3; clear HB; have HO_3 := n0_; have HO113 := n1_; have HB := n2_; clear n0_ n1_ n2_; (try clear hb); (try clear hb2); (try clear hk); (try clear hi); (try clear ho0); obtain ⟨Ao11, co11, eo11⟩ := Kd.R_slice HO113.out; subst eo11; have p114 : 0 ≤ (x4_1 : Int) := of_decide_eq_true (by first | (with_reducible assumption) | assumption); have q114 : x4_1 < (t111.length : Int) := of_decide_eq_true (by first | (with_reducible assumption) | assumption); obtain ⟨ad114, e114, hx114_0⟩ := Kd.at_string (Kd.R_reads' HO113.out).2.2 x4_1 p114 q114; cases e114; replace p114 := eq_true p114; replace q114 := eq_true q114))
              go_ret
              exact ⟨by first | rfl | (refine congrArg Ending.returned (congrArg Value.bool ?_); generalize ByteArray.toList _ = l_; cases l_ <;> rfl) | (simp [errW_none, errW_some] <;> rfl) | (simp [*, errW_none, errW_some] <;> rfl), by repeat (first | (with_reducible first | exact HB.out | apply below_alloc | apply pw_below_drewN | apply below_drew1) | exact HB.out)⟩
            · rw [if_neg c8] at H
              exact absurd H (by simp)
          · rw [if_neg c6] at H
            have c6b0 : ((rd t107 x4_1) == a0) = false := beq_eq_false_iff_ne.mpr c6
            have c6b1 : ((rd t107 x4_1) != a0) = true := bne_iff_ne.mpr c6
            have H' := Aside0.mk H
            clear H
            obtain ⟨Ao12, co12, eo12⟩ := Kd.R_slice HO_3.out
            subst eo12
            have p110 : 0 ≤ (x4_1 : Int) := of_decide_eq_true (by first | (with_reducible assumption) | assumption)
            have q110 : x4_1 < (t107.length : Int) := of_decide_eq_true (by first | (with_reducible assumption) | assumption)
            obtain ⟨ad110, e110, hx110_0⟩ := Kd.at_int (Kd.R_reads' HO_3.out).2.2 x4_1 p110 q110
            cases e110
            replace p110 := eq_true p110
            replace q110 := eq_true q110
            go_wp2
            go_roundg k1
            case measure => have := HK1.out; omega
            case rel => exact ⟨(wrap64 (x4_1 + 1)), (by first | rfl | (simp; done) | (simp [*]; done)), H', ⟨by have := HK1.out; omega⟩, ⟨by (with_reducible repeat (first | apply Kd.R_alloc | apply Kd.R_drewN | apply Kd.R_drew)); exact HO_3.out⟩, ⟨by repeat (first | (with_reducible first | exact HB.out | apply below_alloc | apply pw_below_drewN | apply below_drew1) | exact HB.out)⟩⟩
        · rw [if_neg c5] at H
          exact absurd H (by simp)
      · rw [if_neg c4] at H
        have c4b0 : decide (x4_1 < (t107.length : Int)) = false := decide_eq_false c4
        clear c4
        obtain rfl := Option.some.inj H
        obtain ⟨Ao13, co13, eo13⟩ := Kd.R_slice HO_3.out
        subst eo13
        go_wp2
        go_ret
        exact ⟨by first | rfl | (refine congrArg Ending.returned (congrArg Value.bool ?_); generalize ByteArray.toList _ = l_; cases l_ <;> rfl) | (simp [errW_none, errW_some] <;> rfl) | (simp [*, errW_none, errW_some] <;> rfl), by repeat (first | (with_reducible first | exact HB.out | apply below_alloc | apply pw_below_drewN | apply below_drew1) | exact HB.out)⟩

/-! ### spec_IsPc: function 39 -/
def spec_IsPc.f (k : Nat) (a0 : Int) : Option (Bool) := (spec_PcName.f k a0).bind fun t115 => (some (t115.toList != ([] : List UInt8)))
theorem spec_IsPc.mono : ∀ a0 k, LeO (spec_IsPc.f k a0) (spec_IsPc.f (k + 1) a0) := by
  intro a0 k
  unfold spec_IsPc.f
  repeat' first
      | (with_reducible exact spec_PcName.mono _ _)
      | (with_reducible exact LeO.refl _)
      | (with_reducible exact LeO.none _)
      | (with_reducible refine LeO.ite ?_ ?_)
      | (with_reducible refine LeO.bind ?_ (fun _ => ?_))
      | exact spec_PcName.mono _ _
      | exact LeO.none _
      | refine LeO.ite ?_ ?_
      | refine LeO.bind ?_ (fun _ => ?_)
set_option maxHeartbeats 8000000 in
set_option maxRecDepth 100000 in
theorem spec_IsPc.calls (k : Nat) (a0 : Int) (r : Bool) (w : World) (h : spec_IsPc.f k a0 = some r) :
    Calls Try.prog 39 #[.int .i64 a0] w fun e w' => e = .returned (.bool r) ∧ Below w.heap.size w w' := by
  have HB := Aside0.mk (Below.refl w.heap.size w)
  have H : ((spec_PcName.f k a0).bind fun t115 => (some (t115.toList != ([] : List UInt8)))) = some r := h
  clear h
  replace H := Option.bind_eq_some_iff.mp H
  obtain ⟨t115, A20, H⟩ := H
  replace H : (some (t115.toList != ([] : List UInt8))) = some r := H
  have A2 := Aside0.mk A20
  clear A20
  obtain rfl := Option.some.inj H
  go_enter Try.func39, Try.ntmps39
  go_wp2_with (first | ((with_reducible refine gate_callee (f := 37) rfl ?_); refine goesL_ (some 4) rfl rfl Try.func37 (by kernel_rfl) rfl #[.int .i64 a0] rfl (by (try simp only [List.map_toArray, List.map_cons, List.map_nil]); first | done | rfl | (simp only [List.length_drop, List.length_take]; rfl)) ?_; (with_reducible refine (spec_PcName.calls k a0 t115 _ A2.out).mono ?_); rintro e w3 ⟨rfl, hb⟩; refine ⟨_, rfl, ?_⟩; have n0_ := Aside0.mk (below_step (by repeat (first | (with_reducible first | exact HB.out | apply below_alloc | apply pw_below_drewN | apply below_drew1) | exact HB.out)) hb); clear HB; have HB := n0_; clear n0_; (try clear hb); (try clear hb2); (try clear hk); (try clear hi)))
  go_ret
  exact ⟨by first | rfl | (refine congrArg Ending.returned (congrArg Value.bool ?_); generalize ByteArray.toList _ = l_; cases l_ <;> rfl) | (simp [errW_none, errW_some] <;> rfl) | (simp [*, errW_none, errW_some] <;> rfl), by repeat (first | (with_reducible first | exact HB.out | apply below_alloc | apply pw_below_drewN | apply below_drew1) | exact HB.out)⟩

/-! ### impl_PcName: function 38 -/
def impl_PcName.f (a0 : Int) : Option (ByteArray) := if a0 = 0 then (some (⟨#[105, 100, 108, 101]⟩ : ByteArray)) else (if a0 = 1 then (some (⟨#[98, 101, 103, 105, 110, 32, 108, 111, 97, 100]⟩ : ByteArray)) else (if a0 = 2 then (some (⟨#[98, 101, 103, 105, 110, 32, 97, 110, 110, 111, 117, 110, 99, 101]⟩ : ByteArray)) else (if a0 = 3 then (some (⟨#[98, 101, 103, 105, 110, 32, 99, 104, 101, 99, 107]⟩ : ByteArray)) else (if a0 = 4 then (some (⟨#[98, 101, 103, 105, 110, 32, 116, 105, 99, 107]⟩ : ByteArray)) else (if a0 = 5 then (some (⟨#[98, 101, 103, 105, 110, 32, 99, 108, 101, 97, 114]⟩ : ByteArray)) else (if a0 = 10 then (some (⟨#[119, 97, 108, 107, 32, 104, 101, 97, 100]⟩ : ByteArray)) else (if a0 = 11 then (some (⟨#[119, 97, 108, 107, 32, 103, 117, 97, 114, 100]⟩ : ByteArray)) else (if a0 = 12 then (some (⟨#[119, 97, 108, 107, 32, 99, 104, 101, 99, 107]⟩ : ByteArray)) else (if a0 = 13 then (some (⟨#[119, 97, 108, 107, 32, 110, 101, 120, 116]⟩ : ByteArray)) else (if a0 = 14 then (some (⟨#[119, 97, 108, 107, 32, 117, 110, 108, 105, 110, 107]⟩ : ByteArray)) else (if a0 = 15 then (some (⟨#[119, 97, 108, 107, 32, 115, 104, 105, 102, 116]⟩ : ByteArray)) else (if a0 = 16 then (some (⟨#[114, 101, 97, 100, 32, 115, 116, 97, 109, 112]⟩ : ByteArray)) else (if a0 = 17 then (some (⟨#[114, 101, 97, 100, 32, 99, 108, 111, 99, 107]⟩ : ByteArray)) else (if a0 = 18 then (some (⟨#[114, 101, 97, 100, 32, 104, 101, 108, 112]⟩ : ByteArray)) else (if a0 = 19 then (some (⟨#[114, 101, 97, 100, 32, 118, 97, 108, 117, 101]⟩ : ByteArray)) else (if a0 = 20 then (some (⟨#[114, 101, 97, 100, 32, 99, 108, 101, 97, 114]⟩ : ByteArray)) else (if a0 = 21 then (some (⟨#[114, 101, 97, 100, 32, 100, 111, 110, 101]⟩ : ByteArray)) else (if a0 = 30 then (some (⟨#[119, 114, 105, 116, 101, 32, 97, 114, 101, 110, 97]⟩ : ByteArray)) else (if a0 = 31 then (some (⟨#[119, 114, 105, 116, 101, 32, 116, 97, 107, 101]⟩ : ByteArray)) else (if a0 = 32 then (some (⟨#[119, 114, 105, 116, 101, 32, 118, 97, 108, 117, 101]⟩ : ByteArray)) else (if a0 = 33 then (some (⟨#[119, 114, 105, 116, 101, 32, 114, 101, 115, 101, 116]⟩ : ByteArray)) else (if a0 = 34 then (some (⟨#[119, 114, 105, 116, 101, 32, 103, 117, 97, 114, 100]⟩ : ByteArray)) else (if a0 = 35 then (some (⟨#[119, 114, 105, 116, 101, 32, 104, 101, 97, 100]⟩ : ByteArray)) else (if a0 = 36 then (some (⟨#[119, 114, 105, 116, 101, 32, 104, 97, 122, 97, 114, 100]⟩ : ByteArray)) else (if a0 = 37 then (some (⟨#[119, 114, 105, 116, 101, 32, 99, 104, 101, 99, 107]⟩ : ByteArray)) else (if a0 = 38 then (some (⟨#[119, 114, 105, 116, 101, 32, 115, 116, 97, 109, 112]⟩ : ByteArray)) else (if a0 = 39 then (some (⟨#[119, 114, 105, 116, 101, 32, 99, 108, 111, 99, 107]⟩ : ByteArray)) else (if a0 = 40 then (some (⟨#[119, 114, 105, 116, 101, 32, 104, 101, 108, 112]⟩ : ByteArray)) else (if a0 = 41 then (some (⟨#[119, 114, 105, 116, 101, 32, 108, 105, 110, 107]⟩ : ByteArray)) else (if a0 = 42 then (some (⟨#[119, 114, 105, 116, 101, 32, 112, 117, 98, 108, 105, 115, 104]⟩ : ByteArray)) else (if a0 = 43 then (some (⟨#[119, 114, 105, 116, 101, 32, 111, 119, 110, 32, 99, 108, 111, 99, 107]⟩ : ByteArray)) else (if a0 = 44 then (some (⟨#[119, 114, 105, 116, 101, 32, 111, 119, 110, 32, 115, 116, 97, 109, 112]⟩ : ByteArray)) else (if a0 = 45 then (some (⟨#[119, 114, 105, 116, 101, 32, 114, 101, 116, 105, 114, 101]⟩ : ByteArray)) else (if a0 = 46 then (some (⟨#[119, 114, 105, 116, 101, 32, 99, 108, 101, 97, 114]⟩ : ByteArray)) else (if a0 = 47 then (some (⟨#[119, 114, 105, 116, 101, 32, 100, 111, 110, 101]⟩ : ByteArray)) else (if a0 = 50 then (some (⟨#[115, 99, 97, 110, 32, 97, 110, 110, 111, 117, 110, 99, 101, 100]⟩ : ByteArray)) else (if a0 = 60 then (some (⟨#[109, 97, 114, 107, 32, 108, 111, 97, 100]⟩ : ByteArray)) else (if a0 = 61 then (some (⟨#[109, 97, 114, 107, 32, 115, 119, 97, 112]⟩ : ByteArray)) else (if a0 = 62 then (some (⟨#[102, 108, 117, 115, 104, 32, 99, 108, 101, 97, 114]⟩ : ByteArray)) else (if a0 = 63 then (some (⟨#[102, 108, 117, 115, 104, 32, 100, 111, 110, 101]⟩ : ByteArray)) else (if a0 = 70 then (some (⟨#[115, 99, 97, 110, 32, 104, 97, 122, 97, 114, 100, 115]⟩ : ByteArray)) else (if a0 = 80 then (some (⟨#[101, 110, 100, 32, 99, 108, 101, 97, 114]⟩ : ByteArray)) else (some (⟨#[]⟩ : ByteArray))))))))))))))))))))))))))))))))))))))))))))
set_option maxHeartbeats 8000000 in
set_option maxRecDepth 100000 in
theorem impl_PcName.calls (a0 : Int) (r : ByteArray) (w : World) (h : impl_PcName.f a0 = some r) :
    Calls Try.prog 38 #[.int .i64 a0] w fun e w' => e = .returned (.string r) ∧ Drawn0 w w' := by
  have H : (if a0 = 0 then (some (⟨#[105, 100, 108, 101]⟩ : ByteArray)) else (if a0 = 1 then (some (⟨#[98, 101, 103, 105, 110, 32, 108, 111, 97, 100]⟩ : ByteArray)) else (if a0 = 2 then (some (⟨#[98, 101, 103, 105, 110, 32, 97, 110, 110, 111, 117, 110, 99, 101]⟩ : ByteArray)) else (if a0 = 3 then (some (⟨#[98, 101, 103, 105, 110, 32, 99, 104, 101, 99, 107]⟩ : ByteArray)) else (if a0 = 4 then (some (⟨#[98, 101, 103, 105, 110, 32, 116, 105, 99, 107]⟩ : ByteArray)) else (if a0 = 5 then (some (⟨#[98, 101, 103, 105, 110, 32, 99, 108, 101, 97, 114]⟩ : ByteArray)) else (if a0 = 10 then (some (⟨#[119, 97, 108, 107, 32, 104, 101, 97, 100]⟩ : ByteArray)) else (if a0 = 11 then (some (⟨#[119, 97, 108, 107, 32, 103, 117, 97, 114, 100]⟩ : ByteArray)) else (if a0 = 12 then (some (⟨#[119, 97, 108, 107, 32, 99, 104, 101, 99, 107]⟩ : ByteArray)) else (if a0 = 13 then (some (⟨#[119, 97, 108, 107, 32, 110, 101, 120, 116]⟩ : ByteArray)) else (if a0 = 14 then (some (⟨#[119, 97, 108, 107, 32, 117, 110, 108, 105, 110, 107]⟩ : ByteArray)) else (if a0 = 15 then (some (⟨#[119, 97, 108, 107, 32, 115, 104, 105, 102, 116]⟩ : ByteArray)) else (if a0 = 16 then (some (⟨#[114, 101, 97, 100, 32, 115, 116, 97, 109, 112]⟩ : ByteArray)) else (if a0 = 17 then (some (⟨#[114, 101, 97, 100, 32, 99, 108, 111, 99, 107]⟩ : ByteArray)) else (if a0 = 18 then (some (⟨#[114, 101, 97, 100, 32, 104, 101, 108, 112]⟩ : ByteArray)) else (if a0 = 19 then (some (⟨#[114, 101, 97, 100, 32, 118, 97, 108, 117, 101]⟩ : ByteArray)) else (if a0 = 20 then (some (⟨#[114, 101, 97, 100, 32, 99, 108, 101, 97, 114]⟩ : ByteArray)) else (if a0 = 21 then (some (⟨#[114, 101, 97, 100, 32, 100, 111, 110, 101]⟩ : ByteArray)) else (if a0 = 30 then (some (⟨#[119, 114, 105, 116, 101, 32, 97, 114, 101, 110, 97]⟩ : ByteArray)) else (if a0 = 31 then (some (⟨#[119, 114, 105, 116, 101, 32, 116, 97, 107, 101]⟩ : ByteArray)) else (if a0 = 32 then (some (⟨#[119, 114, 105, 116, 101, 32, 118, 97, 108, 117, 101]⟩ : ByteArray)) else (if a0 = 33 then (some (⟨#[119, 114, 105, 116, 101, 32, 114, 101, 115, 101, 116]⟩ : ByteArray)) else (if a0 = 34 then (some (⟨#[119, 114, 105, 116, 101, 32, 103, 117, 97, 114, 100]⟩ : ByteArray)) else (if a0 = 35 then (some (⟨#[119, 114, 105, 116, 101, 32, 104, 101, 97, 100]⟩ : ByteArray)) else (if a0 = 36 then (some (⟨#[119, 114, 105, 116, 101, 32, 104, 97, 122, 97, 114, 100]⟩ : ByteArray)) else (if a0 = 37 then (some (⟨#[119, 114, 105, 116, 101, 32, 99, 104, 101, 99, 107]⟩ : ByteArray)) else (if a0 = 38 then (some (⟨#[119, 114, 105, 116, 101, 32, 115, 116, 97, 109, 112]⟩ : ByteArray)) else (if a0 = 39 then (some (⟨#[119, 114, 105, 116, 101, 32, 99, 108, 111, 99, 107]⟩ : ByteArray)) else (if a0 = 40 then (some (⟨#[119, 114, 105, 116, 101, 32, 104, 101, 108, 112]⟩ : ByteArray)) else (if a0 = 41 then (some (⟨#[119, 114, 105, 116, 101, 32, 108, 105, 110, 107]⟩ : ByteArray)) else (if a0 = 42 then (some (⟨#[119, 114, 105, 116, 101, 32, 112, 117, 98, 108, 105, 115, 104]⟩ : ByteArray)) else (if a0 = 43 then (some (⟨#[119, 114, 105, 116, 101, 32, 111, 119, 110, 32, 99, 108, 111, 99, 107]⟩ : ByteArray)) else (if a0 = 44 then (some (⟨#[119, 114, 105, 116, 101, 32, 111, 119, 110, 32, 115, 116, 97, 109, 112]⟩ : ByteArray)) else (if a0 = 45 then (some (⟨#[119, 114, 105, 116, 101, 32, 114, 101, 116, 105, 114, 101]⟩ : ByteArray)) else (if a0 = 46 then (some (⟨#[119, 114, 105, 116, 101, 32, 99, 108, 101, 97, 114]⟩ : ByteArray)) else (if a0 = 47 then (some (⟨#[119, 114, 105, 116, 101, 32, 100, 111, 110, 101]⟩ : ByteArray)) else (if a0 = 50 then (some (⟨#[115, 99, 97, 110, 32, 97, 110, 110, 111, 117, 110, 99, 101, 100]⟩ : ByteArray)) else (if a0 = 60 then (some (⟨#[109, 97, 114, 107, 32, 108, 111, 97, 100]⟩ : ByteArray)) else (if a0 = 61 then (some (⟨#[109, 97, 114, 107, 32, 115, 119, 97, 112]⟩ : ByteArray)) else (if a0 = 62 then (some (⟨#[102, 108, 117, 115, 104, 32, 99, 108, 101, 97, 114]⟩ : ByteArray)) else (if a0 = 63 then (some (⟨#[102, 108, 117, 115, 104, 32, 100, 111, 110, 101]⟩ : ByteArray)) else (if a0 = 70 then (some (⟨#[115, 99, 97, 110, 32, 104, 97, 122, 97, 114, 100, 115]⟩ : ByteArray)) else (if a0 = 80 then (some (⟨#[101, 110, 100, 32, 99, 108, 101, 97, 114]⟩ : ByteArray)) else (some (⟨#[]⟩ : ByteArray))))))))))))))))))))))))))))))))))))))))))))) = some r := h
  clear h
  by_cases c2 : a0 = 0
  · rw [if_pos c2] at H
    have c2b0 : (a0 == 0) = true := beq_iff_eq.mpr c2
    have c2b1 : (a0 != 0) = false := bne_eq_false_iff_eq.mpr c2
    clear c2
    obtain rfl := Option.some.inj H
    go_enter Try.func38, Try.ntmps38
    go_wp2
    go_ret
    exact ⟨by first | rfl | (refine congrArg Ending.returned (congrArg Value.bool ?_); generalize ByteArray.toList _ = l_; cases l_ <;> rfl) | (simp; done) | (simp [*]; done), by repeat (first | exact Drawn0.refl _ | apply Drawn0.step)⟩
  · rw [if_neg c2] at H
    have c2b0 : (a0 == 0) = false := beq_eq_false_iff_ne.mpr c2
    have c2b1 : (a0 != 0) = true := bne_iff_ne.mpr c2
    by_cases c3 : a0 = 1
    · rw [if_pos c3] at H
      have c3b0 : (a0 == 1) = true := beq_iff_eq.mpr c3
      have c3b1 : (a0 != 1) = false := bne_eq_false_iff_eq.mpr c3
      clear c3
      obtain rfl := Option.some.inj H
      go_enter Try.func38, Try.ntmps38
      go_wp2
      go_ret
      exact ⟨by first | rfl | (refine congrArg Ending.returned (congrArg Value.bool ?_); generalize ByteArray.toList _ = l_; cases l_ <;> rfl) | (simp; done) | (simp [*]; done), by repeat (first | exact Drawn0.refl _ | apply Drawn0.step)⟩
    · rw [if_neg c3] at H
      have c3b0 : (a0 == 1) = false := beq_eq_false_iff_ne.mpr c3
      have c3b1 : (a0 != 1) = true := bne_iff_ne.mpr c3
      by_cases c4 : a0 = 2
      · rw [if_pos c4] at H
        have c4b0 : (a0 == 2) = true := beq_iff_eq.mpr c4
        have c4b1 : (a0 != 2) = false := bne_eq_false_iff_eq.mpr c4
        clear c4
        obtain rfl := Option.some.inj H
        go_enter Try.func38, Try.ntmps38
        go_wp2
        go_ret
        exact ⟨by first | rfl | (refine congrArg Ending.returned (congrArg Value.bool ?_); generalize ByteArray.toList _ = l_; cases l_ <;> rfl) | (simp; done) | (simp [*]; done), by repeat (first | exact Drawn0.refl _ | apply Drawn0.step)⟩
      · rw [if_neg c4] at H
        have c4b0 : (a0 == 2) = false := beq_eq_false_iff_ne.mpr c4
        have c4b1 : (a0 != 2) = true := bne_iff_ne.mpr c4
        by_cases c5 : a0 = 3
        · rw [if_pos c5] at H
          have c5b0 : (a0 == 3) = true := beq_iff_eq.mpr c5
          have c5b1 : (a0 != 3) = false := bne_eq_false_iff_eq.mpr c5
          clear c5
          obtain rfl := Option.some.inj H
          go_enter Try.func38, Try.ntmps38
          go_wp2
          go_ret
          exact ⟨by first | rfl | (refine congrArg Ending.returned (congrArg Value.bool ?_); generalize ByteArray.toList _ = l_; cases l_ <;> rfl) | (simp; done) | (simp [*]; done), by repeat (first | exact Drawn0.refl _ | apply Drawn0.step)⟩
        · rw [if_neg c5] at H
          have c5b0 : (a0 == 3) = false := beq_eq_false_iff_ne.mpr c5
          have c5b1 : (a0 != 3) = true := bne_iff_ne.mpr c5
          by_cases c6 : a0 = 4
          · rw [if_pos c6] at H
            have c6b0 : (a0 == 4) = true := beq_iff_eq.mpr c6
            have c6b1 : (a0 != 4) = false := bne_eq_false_iff_eq.mpr c6
            clear c6
            obtain rfl := Option.some.inj H
            go_enter Try.func38, Try.ntmps38
            go_wp2
            go_ret
            exact ⟨by first | rfl | (refine congrArg Ending.returned (congrArg Value.bool ?_); generalize ByteArray.toList _ = l_; cases l_ <;> rfl) | (simp; done) | (simp [*]; done), by repeat (first | exact Drawn0.refl _ | apply Drawn0.step)⟩
          · rw [if_neg c6] at H
            have c6b0 : (a0 == 4) = false := beq_eq_false_iff_ne.mpr c6
            have c6b1 : (a0 != 4) = true := bne_iff_ne.mpr c6
            by_cases c7 : a0 = 5
            · rw [if_pos c7] at H
              have c7b0 : (a0 == 5) = true := beq_iff_eq.mpr c7
              have c7b1 : (a0 != 5) = false := bne_eq_false_iff_eq.mpr c7
              clear c7
              obtain rfl := Option.some.inj H
              go_enter Try.func38, Try.ntmps38
              go_wp2
              go_ret
              exact ⟨by first | rfl | (refine congrArg Ending.returned (congrArg Value.bool ?_); generalize ByteArray.toList _ = l_; cases l_ <;> rfl) | (simp; done) | (simp [*]; done), by repeat (first | exact Drawn0.refl _ | apply Drawn0.step)⟩
            · rw [if_neg c7] at H
              have c7b0 : (a0 == 5) = false := beq_eq_false_iff_ne.mpr c7
              have c7b1 : (a0 != 5) = true := bne_iff_ne.mpr c7
              by_cases c8 : a0 = 10
              · rw [if_pos c8] at H
                have c8b0 : (a0 == 10) = true := beq_iff_eq.mpr c8
                have c8b1 : (a0 != 10) = false := bne_eq_false_iff_eq.mpr c8
                clear c8
                obtain rfl := Option.some.inj H
                go_enter Try.func38, Try.ntmps38
                go_wp2
                go_ret
                exact ⟨by first | rfl | (refine congrArg Ending.returned (congrArg Value.bool ?_); generalize ByteArray.toList _ = l_; cases l_ <;> rfl) | (simp; done) | (simp [*]; done), by repeat (first | exact Drawn0.refl _ | apply Drawn0.step)⟩
              · rw [if_neg c8] at H
                have c8b0 : (a0 == 10) = false := beq_eq_false_iff_ne.mpr c8
                have c8b1 : (a0 != 10) = true := bne_iff_ne.mpr c8
                by_cases c9 : a0 = 11
                · rw [if_pos c9] at H
                  have c9b0 : (a0 == 11) = true := beq_iff_eq.mpr c9
                  have c9b1 : (a0 != 11) = false := bne_eq_false_iff_eq.mpr c9
                  clear c9
                  obtain rfl := Option.some.inj H
                  go_enter Try.func38, Try.ntmps38
                  go_wp2
                  go_ret
                  exact ⟨by first | rfl | (refine congrArg Ending.returned (congrArg Value.bool ?_); generalize ByteArray.toList _ = l_; cases l_ <;> rfl) | (simp; done) | (simp [*]; done), by repeat (first | exact Drawn0.refl _ | apply Drawn0.step)⟩
                · rw [if_neg c9] at H
                  have c9b0 : (a0 == 11) = false := beq_eq_false_iff_ne.mpr c9
                  have c9b1 : (a0 != 11) = true := bne_iff_ne.mpr c9
                  by_cases c10 : a0 = 12
                  · rw [if_pos c10] at H
                    have c10b0 : (a0 == 12) = true := beq_iff_eq.mpr c10
                    have c10b1 : (a0 != 12) = false := bne_eq_false_iff_eq.mpr c10
                    clear c10
                    obtain rfl := Option.some.inj H
                    go_enter Try.func38, Try.ntmps38
                    go_wp2
                    go_ret
                    exact ⟨by first | rfl | (refine congrArg Ending.returned (congrArg Value.bool ?_); generalize ByteArray.toList _ = l_; cases l_ <;> rfl) | (simp; done) | (simp [*]; done), by repeat (first | exact Drawn0.refl _ | apply Drawn0.step)⟩
                  · rw [if_neg c10] at H
                    have c10b0 : (a0 == 12) = false := beq_eq_false_iff_ne.mpr c10
                    have c10b1 : (a0 != 12) = true := bne_iff_ne.mpr c10
                    by_cases c11 : a0 = 13
                    · rw [if_pos c11] at H
                      have c11b0 : (a0 == 13) = true := beq_iff_eq.mpr c11
                      have c11b1 : (a0 != 13) = false := bne_eq_false_iff_eq.mpr c11
                      clear c11
                      obtain rfl := Option.some.inj H
                      go_enter Try.func38, Try.ntmps38
                      go_wp2
                      go_ret
                      exact ⟨by first | rfl | (refine congrArg Ending.returned (congrArg Value.bool ?_); generalize ByteArray.toList _ = l_; cases l_ <;> rfl) | (simp; done) | (simp [*]; done), by repeat (first | exact Drawn0.refl _ | apply Drawn0.step)⟩
                    · rw [if_neg c11] at H
                      have c11b0 : (a0 == 13) = false := beq_eq_false_iff_ne.mpr c11
                      have c11b1 : (a0 != 13) = true := bne_iff_ne.mpr c11
                      by_cases c12 : a0 = 14
                      · rw [if_pos c12] at H
                        have c12b0 : (a0 == 14) = true := beq_iff_eq.mpr c12
                        have c12b1 : (a0 != 14) = false := bne_eq_false_iff_eq.mpr c12
                        clear c12
                        obtain rfl := Option.some.inj H
                        go_enter Try.func38, Try.ntmps38
                        go_wp2
                        go_ret
                        exact ⟨by first | rfl | (refine congrArg Ending.returned (congrArg Value.bool ?_); generalize ByteArray.toList _ = l_; cases l_ <;> rfl) | (simp; done) | (simp [*]; done), by repeat (first | exact Drawn0.refl _ | apply Drawn0.step)⟩
                      · rw [if_neg c12] at H
                        have c12b0 : (a0 == 14) = false := beq_eq_false_iff_ne.mpr c12
                        have c12b1 : (a0 != 14) = true := bne_iff_ne.mpr c12
                        by_cases c13 : a0 = 15
                        · rw [if_pos c13] at H
                          have c13b0 : (a0 == 15) = true := beq_iff_eq.mpr c13
                          have c13b1 : (a0 != 15) = false := bne_eq_false_iff_eq.mpr c13
                          clear c13
                          obtain rfl := Option.some.inj H
                          go_enter Try.func38, Try.ntmps38
                          go_wp2
                          go_ret
                          exact ⟨by first | rfl | (refine congrArg Ending.returned (congrArg Value.bool ?_); generalize ByteArray.toList _ = l_; cases l_ <;> rfl) | (simp; done) | (simp [*]; done), by repeat (first | exact Drawn0.refl _ | apply Drawn0.step)⟩
                        · rw [if_neg c13] at H
                          have c13b0 : (a0 == 15) = false := beq_eq_false_iff_ne.mpr c13
                          have c13b1 : (a0 != 15) = true := bne_iff_ne.mpr c13
                          by_cases c14 : a0 = 16
                          · rw [if_pos c14] at H
                            have c14b0 : (a0 == 16) = true := beq_iff_eq.mpr c14
                            have c14b1 : (a0 != 16) = false := bne_eq_false_iff_eq.mpr c14
                            clear c14
                            obtain rfl := Option.some.inj H
                            go_enter Try.func38, Try.ntmps38
                            go_wp2
                            go_ret
                            exact ⟨by first | rfl | (refine congrArg Ending.returned (congrArg Value.bool ?_); generalize ByteArray.toList _ = l_; cases l_ <;> rfl) | (simp; done) | (simp [*]; done), by repeat (first | exact Drawn0.refl _ | apply Drawn0.step)⟩
                          · rw [if_neg c14] at H
                            have c14b0 : (a0 == 16) = false := beq_eq_false_iff_ne.mpr c14
                            have c14b1 : (a0 != 16) = true := bne_iff_ne.mpr c14
                            by_cases c15 : a0 = 17
                            · rw [if_pos c15] at H
                              have c15b0 : (a0 == 17) = true := beq_iff_eq.mpr c15
                              have c15b1 : (a0 != 17) = false := bne_eq_false_iff_eq.mpr c15
                              clear c15
                              obtain rfl := Option.some.inj H
                              go_enter Try.func38, Try.ntmps38
                              go_wp2
                              go_ret
                              exact ⟨by first | rfl | (refine congrArg Ending.returned (congrArg Value.bool ?_); generalize ByteArray.toList _ = l_; cases l_ <;> rfl) | (simp; done) | (simp [*]; done), by repeat (first | exact Drawn0.refl _ | apply Drawn0.step)⟩
                            · rw [if_neg c15] at H
                              have c15b0 : (a0 == 17) = false := beq_eq_false_iff_ne.mpr c15
                              have c15b1 : (a0 != 17) = true := bne_iff_ne.mpr c15
                              by_cases c16 : a0 = 18
                              · rw [if_pos c16] at H
                                have c16b0 : (a0 == 18) = true := beq_iff_eq.mpr c16
                                have c16b1 : (a0 != 18) = false := bne_eq_false_iff_eq.mpr c16
                                clear c16
                                obtain rfl := Option.some.inj H
                                go_enter Try.func38, Try.ntmps38
                                go_wp2
                                go_ret
                                exact ⟨by first | rfl | (refine congrArg Ending.returned (congrArg Value.bool ?_); generalize ByteArray.toList _ = l_; cases l_ <;> rfl) | (simp; done) | (simp [*]; done), by repeat (first | exact Drawn0.refl _ | apply Drawn0.step)⟩
                              · rw [if_neg c16] at H
                                have c16b0 : (a0 == 18) = false := beq_eq_false_iff_ne.mpr c16
                                have c16b1 : (a0 != 18) = true := bne_iff_ne.mpr c16
                                by_cases c17 : a0 = 19
                                · rw [if_pos c17] at H
                                  have c17b0 : (a0 == 19) = true := beq_iff_eq.mpr c17
                                  have c17b1 : (a0 != 19) = false := bne_eq_false_iff_eq.mpr c17
                                  clear c17
                                  obtain rfl := Option.some.inj H
                                  go_enter Try.func38, Try.ntmps38
                                  go_wp2
                                  go_ret
                                  exact ⟨by first | rfl | (refine congrArg Ending.returned (congrArg Value.bool ?_); generalize ByteArray.toList _ = l_; cases l_ <;> rfl) | (simp; done) | (simp [*]; done), by repeat (first | exact Drawn0.refl _ | apply Drawn0.step)⟩
                                · rw [if_neg c17] at H
                                  have c17b0 : (a0 == 19) = false := beq_eq_false_iff_ne.mpr c17
                                  have c17b1 : (a0 != 19) = true := bne_iff_ne.mpr c17
                                  by_cases c18 : a0 = 20
                                  · rw [if_pos c18] at H
                                    have c18b0 : (a0 == 20) = true := beq_iff_eq.mpr c18
                                    have c18b1 : (a0 != 20) = false := bne_eq_false_iff_eq.mpr c18
                                    clear c18
                                    obtain rfl := Option.some.inj H
                                    go_enter Try.func38, Try.ntmps38
                                    go_wp2
                                    go_ret
                                    exact ⟨by first | rfl | (refine congrArg Ending.returned (congrArg Value.bool ?_); generalize ByteArray.toList _ = l_; cases l_ <;> rfl) | (simp; done) | (simp [*]; done), by repeat (first | exact Drawn0.refl _ | apply Drawn0.step)⟩
                                  · rw [if_neg c18] at H
                                    have c18b0 : (a0 == 20) = false := beq_eq_false_iff_ne.mpr c18
                                    have c18b1 : (a0 != 20) = true := bne_iff_ne.mpr c18
                                    by_cases c19 : a0 = 21
                                    · rw [if_pos c19] at H
                                      have c19b0 : (a0 == 21) = true := beq_iff_eq.mpr c19
                                      have c19b1 : (a0 != 21) = false := bne_eq_false_iff_eq.mpr c19
                                      clear c19
                                      obtain rfl := Option.some.inj H
                                      go_enter Try.func38, Try.ntmps38
                                      go_wp2
                                      go_ret
                                      exact ⟨by first | rfl | (refine congrArg Ending.returned (congrArg Value.bool ?_); generalize ByteArray.toList _ = l_; cases l_ <;> rfl) | (simp; done) | (simp [*]; done), by repeat (first | exact Drawn0.refl _ | apply Drawn0.step)⟩
                                    · rw [if_neg c19] at H
                                      have c19b0 : (a0 == 21) = false := beq_eq_false_iff_ne.mpr c19
                                      have c19b1 : (a0 != 21) = true := bne_iff_ne.mpr c19
                                      by_cases c20 : a0 = 30
                                      · rw [if_pos c20] at H
                                        have c20b0 : (a0 == 30) = true := beq_iff_eq.mpr c20
                                        have c20b1 : (a0 != 30) = false := bne_eq_false_iff_eq.mpr c20
                                        clear c20
                                        obtain rfl := Option.some.inj H
                                        go_enter Try.func38, Try.ntmps38
                                        go_wp2
                                        go_ret
                                        exact ⟨by first | rfl | (refine congrArg Ending.returned (congrArg Value.bool ?_); generalize ByteArray.toList _ = l_; cases l_ <;> rfl) | (simp; done) | (simp [*]; done), by repeat (first | exact Drawn0.refl _ | apply Drawn0.step)⟩
                                      · rw [if_neg c20] at H
                                        have c20b0 : (a0 == 30) = false := beq_eq_false_iff_ne.mpr c20
                                        have c20b1 : (a0 != 30) = true := bne_iff_ne.mpr c20
                                        by_cases c21 : a0 = 31
                                        · rw [if_pos c21] at H
                                          have c21b0 : (a0 == 31) = true := beq_iff_eq.mpr c21
                                          have c21b1 : (a0 != 31) = false := bne_eq_false_iff_eq.mpr c21
                                          clear c21
                                          obtain rfl := Option.some.inj H
                                          go_enter Try.func38, Try.ntmps38
                                          go_wp2
                                          go_ret
                                          exact ⟨by first | rfl | (refine congrArg Ending.returned (congrArg Value.bool ?_); generalize ByteArray.toList _ = l_; cases l_ <;> rfl) | (simp; done) | (simp [*]; done), by repeat (first | exact Drawn0.refl _ | apply Drawn0.step)⟩
                                        · rw [if_neg c21] at H
                                          have c21b0 : (a0 == 31) = false := beq_eq_false_iff_ne.mpr c21
                                          have c21b1 : (a0 != 31) = true := bne_iff_ne.mpr c21
                                          by_cases c22 : a0 = 32
                                          · rw [if_pos c22] at H
                                            have c22b0 : (a0 == 32) = true := beq_iff_eq.mpr c22
                                            have c22b1 : (a0 != 32) = false := bne_eq_false_iff_eq.mpr c22
                                            clear c22
                                            obtain rfl := Option.some.inj H
                                            go_enter Try.func38, Try.ntmps38
                                            go_wp2
                                            go_ret
                                            exact ⟨by first | rfl | (refine congrArg Ending.returned (congrArg Value.bool ?_); generalize ByteArray.toList _ = l_; cases l_ <;> rfl) | (simp; done) | (simp [*]; done), by repeat (first | exact Drawn0.refl _ | apply Drawn0.step)⟩
                                          · rw [if_neg c22] at H
                                            have c22b0 : (a0 == 32) = false := beq_eq_false_iff_ne.mpr c22
                                            have c22b1 : (a0 != 32) = true := bne_iff_ne.mpr c22
                                            by_cases c23 : a0 = 33
                                            · rw [if_pos c23] at H
                                              have c23b0 : (a0 == 33) = true := beq_iff_eq.mpr c23
                                              have c23b1 : (a0 != 33) = false := bne_eq_false_iff_eq.mpr c23
                                              clear c23
                                              obtain rfl := Option.some.inj H
                                              go_enter Try.func38, Try.ntmps38
                                              go_wp2
                                              go_ret
                                              exact ⟨by first | rfl | (refine congrArg Ending.returned (congrArg Value.bool ?_); generalize ByteArray.toList _ = l_; cases l_ <;> rfl) | (simp; done) | (simp [*]; done), by repeat (first | exact Drawn0.refl _ | apply Drawn0.step)⟩
                                            · rw [if_neg c23] at H
                                              have c23b0 : (a0 == 33) = false := beq_eq_false_iff_ne.mpr c23
                                              have c23b1 : (a0 != 33) = true := bne_iff_ne.mpr c23
                                              by_cases c24 : a0 = 34
                                              · rw [if_pos c24] at H
                                                have c24b0 : (a0 == 34) = true := beq_iff_eq.mpr c24
                                                have c24b1 : (a0 != 34) = false := bne_eq_false_iff_eq.mpr c24
                                                clear c24
                                                obtain rfl := Option.some.inj H
                                                go_enter Try.func38, Try.ntmps38
                                                go_wp2
                                                go_ret
                                                exact ⟨by first | rfl | (refine congrArg Ending.returned (congrArg Value.bool ?_); generalize ByteArray.toList _ = l_; cases l_ <;> rfl) | (simp; done) | (simp [*]; done), by repeat (first | exact Drawn0.refl _ | apply Drawn0.step)⟩
                                              · rw [if_neg c24] at H
                                                have c24b0 : (a0 == 34) = false := beq_eq_false_iff_ne.mpr c24
                                                have c24b1 : (a0 != 34) = true := bne_iff_ne.mpr c24
                                                by_cases c25 : a0 = 35
                                                · rw [if_pos c25] at H
                                                  have c25b0 : (a0 == 35) = true := beq_iff_eq.mpr c25
                                                  have c25b1 : (a0 != 35) = false := bne_eq_false_iff_eq.mpr c25
                                                  clear c25
                                                  obtain rfl := Option.some.inj H
                                                  go_enter Try.func38, Try.ntmps38
                                                  go_wp2
                                                  go_ret
                                                  exact ⟨by first | rfl | (refine congrArg Ending.returned (congrArg Value.bool ?_); generalize ByteArray.toList _ = l_; cases l_ <;> rfl) | (simp; done) | (simp [*]; done), by repeat (first | exact Drawn0.refl _ | apply Drawn0.step)⟩
                                                · rw [if_neg c25] at H
                                                  have c25b0 : (a0 == 35) = false := beq_eq_false_iff_ne.mpr c25
                                                  have c25b1 : (a0 != 35) = true := bne_iff_ne.mpr c25
                                                  by_cases c26 : a0 = 36
                                                  · rw [if_pos c26] at H
                                                    have c26b0 : (a0 == 36) = true := beq_iff_eq.mpr c26
                                                    have c26b1 : (a0 != 36) = false := bne_eq_false_iff_eq.mpr c26
                                                    clear c26
                                                    obtain rfl := Option.some.inj H
                                                    go_enter Try.func38, Try.ntmps38
                                                    go_wp2
                                                    go_ret
                                                    exact ⟨by first | rfl | (refine congrArg Ending.returned (congrArg Value.bool ?_); generalize ByteArray.toList _ = l_; cases l_ <;> rfl) | (simp; done) | (simp [*]; done), by repeat (first | exact Drawn0.refl _ | apply Drawn0.step)⟩
                                                  · rw [if_neg c26] at H
                                                    have c26b0 : (a0 == 36) = false := beq_eq_false_iff_ne.mpr c26
                                                    have c26b1 : (a0 != 36) = true := bne_iff_ne.mpr c26
                                                    by_cases c27 : a0 = 37
                                                    · rw [if_pos c27] at H
                                                      have c27b0 : (a0 == 37) = true := beq_iff_eq.mpr c27
                                                      have c27b1 : (a0 != 37) = false := bne_eq_false_iff_eq.mpr c27
                                                      clear c27
                                                      obtain rfl := Option.some.inj H
                                                      go_enter Try.func38, Try.ntmps38
                                                      go_wp2
                                                      go_ret
                                                      exact ⟨by first | rfl | (refine congrArg Ending.returned (congrArg Value.bool ?_); generalize ByteArray.toList _ = l_; cases l_ <;> rfl) | (simp; done) | (simp [*]; done), by repeat (first | exact Drawn0.refl _ | apply Drawn0.step)⟩
                                                    · rw [if_neg c27] at H
                                                      have c27b0 : (a0 == 37) = false := beq_eq_false_iff_ne.mpr c27
                                                      have c27b1 : (a0 != 37) = true := bne_iff_ne.mpr c27
                                                      by_cases c28 : a0 = 38
                                                      · rw [if_pos c28] at H
                                                        have c28b0 : (a0 == 38) = true := beq_iff_eq.mpr c28
                                                        have c28b1 : (a0 != 38) = false := bne_eq_false_iff_eq.mpr c28
                                                        clear c28
                                                        obtain rfl := Option.some.inj H
                                                        go_enter Try.func38, Try.ntmps38
                                                        go_wp2
                                                        go_ret
                                                        exact ⟨by first | rfl | (refine congrArg Ending.returned (congrArg Value.bool ?_); generalize ByteArray.toList _ = l_; cases l_ <;> rfl) | (simp; done) | (simp [*]; done), by repeat (first | exact Drawn0.refl _ | apply Drawn0.step)⟩
                                                      · rw [if_neg c28] at H
                                                        have c28b0 : (a0 == 38) = false := beq_eq_false_iff_ne.mpr c28
                                                        have c28b1 : (a0 != 38) = true := bne_iff_ne.mpr c28
                                                        by_cases c29 : a0 = 39
                                                        · rw [if_pos c29] at H
                                                          have c29b0 : (a0 == 39) = true := beq_iff_eq.mpr c29
                                                          have c29b1 : (a0 != 39) = false := bne_eq_false_iff_eq.mpr c29
                                                          clear c29
                                                          obtain rfl := Option.some.inj H
                                                          go_enter Try.func38, Try.ntmps38
                                                          go_wp2
                                                          go_ret
                                                          exact ⟨by first | rfl | (refine congrArg Ending.returned (congrArg Value.bool ?_); generalize ByteArray.toList _ = l_; cases l_ <;> rfl) | (simp; done) | (simp [*]; done), by repeat (first | exact Drawn0.refl _ | apply Drawn0.step)⟩
                                                        · rw [if_neg c29] at H
                                                          have c29b0 : (a0 == 39) = false := beq_eq_false_iff_ne.mpr c29
                                                          have c29b1 : (a0 != 39) = true := bne_iff_ne.mpr c29
                                                          by_cases c30 : a0 = 40
                                                          · rw [if_pos c30] at H
                                                            have c30b0 : (a0 == 40) = true := beq_iff_eq.mpr c30
                                                            have c30b1 : (a0 != 40) = false := bne_eq_false_iff_eq.mpr c30
                                                            clear c30
                                                            obtain rfl := Option.some.inj H
                                                            go_enter Try.func38, Try.ntmps38
                                                            go_wp2
                                                            go_ret
                                                            exact ⟨by first | rfl | (refine congrArg Ending.returned (congrArg Value.bool ?_); generalize ByteArray.toList _ = l_; cases l_ <;> rfl) | (simp; done) | (simp [*]; done), by repeat (first | exact Drawn0.refl _ | apply Drawn0.step)⟩
                                                          · rw [if_neg c30] at H
                                                            have c30b0 : (a0 == 40) = false := beq_eq_false_iff_ne.mpr c30
                                                            have c30b1 : (a0 != 40) = true := bne_iff_ne.mpr c30
                                                            by_cases c31 : a0 = 41
                                                            · rw [if_pos c31] at H
                                                              have c31b0 : (a0 == 41) = true := beq_iff_eq.mpr c31
                                                              have c31b1 : (a0 != 41) = false := bne_eq_false_iff_eq.mpr c31
                                                              clear c31
                                                              obtain rfl := Option.some.inj H
                                                              go_enter Try.func38, Try.ntmps38
                                                              go_wp2
                                                              go_ret
                                                              exact ⟨by first | rfl | (refine congrArg Ending.returned (congrArg Value.bool ?_); generalize ByteArray.toList _ = l_; cases l_ <;> rfl) | (simp; done) | (simp [*]; done), by repeat (first | exact Drawn0.refl _ | apply Drawn0.step)⟩
                                                            · rw [if_neg c31] at H
                                                              have c31b0 : (a0 == 41) = false := beq_eq_false_iff_ne.mpr c31
                                                              have c31b1 : (a0 != 41) = true := bne_iff_ne.mpr c31
                                                              by_cases c32 : a0 = 42
                                                              · rw [if_pos c32] at H
                                                                have c32b0 : (a0 == 42) = true := beq_iff_eq.mpr c32
                                                                have c32b1 : (a0 != 42) = false := bne_eq_false_iff_eq.mpr c32
                                                                clear c32
                                                                obtain rfl := Option.some.inj H
                                                                go_enter Try.func38, Try.ntmps38
                                                                go_wp2
                                                                go_ret
                                                                exact ⟨by first | rfl | (refine congrArg Ending.returned (congrArg Value.bool ?_); generalize ByteArray.toList _ = l_; cases l_ <;> rfl) | (simp; done) | (simp [*]; done), by repeat (first | exact Drawn0.refl _ | apply Drawn0.step)⟩
                                                              · rw [if_neg c32] at H
                                                                have c32b0 : (a0 == 42) = false := beq_eq_false_iff_ne.mpr c32
                                                                have c32b1 : (a0 != 42) = true := bne_iff_ne.mpr c32
                                                                by_cases c33 : a0 = 43
                                                                · rw [if_pos c33] at H
                                                                  have c33b0 : (a0 == 43) = true := beq_iff_eq.mpr c33
                                                                  have c33b1 : (a0 != 43) = false := bne_eq_false_iff_eq.mpr c33
                                                                  clear c33
                                                                  obtain rfl := Option.some.inj H
                                                                  go_enter Try.func38, Try.ntmps38
                                                                  go_wp2
                                                                  go_ret
                                                                  exact ⟨by first | rfl | (refine congrArg Ending.returned (congrArg Value.bool ?_); generalize ByteArray.toList _ = l_; cases l_ <;> rfl) | (simp; done) | (simp [*]; done), by repeat (first | exact Drawn0.refl _ | apply Drawn0.step)⟩
                                                                · rw [if_neg c33] at H
                                                                  have c33b0 : (a0 == 43) = false := beq_eq_false_iff_ne.mpr c33
                                                                  have c33b1 : (a0 != 43) = true := bne_iff_ne.mpr c33
                                                                  by_cases c34 : a0 = 44
                                                                  · rw [if_pos c34] at H
                                                                    have c34b0 : (a0 == 44) = true := beq_iff_eq.mpr c34
                                                                    have c34b1 : (a0 != 44) = false := bne_eq_false_iff_eq.mpr c34
                                                                    clear c34
                                                                    obtain rfl := Option.some.inj H
                                                                    go_enter Try.func38, Try.ntmps38
                                                                    go_wp2
                                                                    go_ret
                                                                    exact ⟨by first | rfl | (refine congrArg Ending.returned (congrArg Value.bool ?_); generalize ByteArray.toList _ = l_; cases l_ <;> rfl) | (simp; done) | (simp [*]; done), by repeat (first | exact Drawn0.refl _ | apply Drawn0.step)⟩
                                                                  · rw [if_neg c34] at H
                                                                    have c34b0 : (a0 == 44) = false := beq_eq_false_iff_ne.mpr c34
                                                                    have c34b1 : (a0 != 44) = true := bne_iff_ne.mpr c34
                                                                    by_cases c35 : a0 = 45
                                                                    · rw [if_pos c35] at H
                                                                      have c35b0 : (a0 == 45) = true := beq_iff_eq.mpr c35
                                                                      have c35b1 : (a0 != 45) = false := bne_eq_false_iff_eq.mpr c35
                                                                      clear c35
                                                                      obtain rfl := Option.some.inj H
                                                                      go_enter Try.func38, Try.ntmps38
                                                                      go_wp2
                                                                      go_ret
                                                                      exact ⟨by first | rfl | (refine congrArg Ending.returned (congrArg Value.bool ?_); generalize ByteArray.toList _ = l_; cases l_ <;> rfl) | (simp; done) | (simp [*]; done), by repeat (first | exact Drawn0.refl _ | apply Drawn0.step)⟩
                                                                    · rw [if_neg c35] at H
                                                                      have c35b0 : (a0 == 45) = false := beq_eq_false_iff_ne.mpr c35
                                                                      have c35b1 : (a0 != 45) = true := bne_iff_ne.mpr c35
                                                                      by_cases c36 : a0 = 46
                                                                      · rw [if_pos c36] at H
                                                                        have c36b0 : (a0 == 46) = true := beq_iff_eq.mpr c36
                                                                        have c36b1 : (a0 != 46) = false := bne_eq_false_iff_eq.mpr c36
                                                                        clear c36
                                                                        obtain rfl := Option.some.inj H
                                                                        go_enter Try.func38, Try.ntmps38
                                                                        go_wp2
                                                                        go_ret
                                                                        exact ⟨by first | rfl | (refine congrArg Ending.returned (congrArg Value.bool ?_); generalize ByteArray.toList _ = l_; cases l_ <;> rfl) | (simp; done) | (simp [*]; done), by repeat (first | exact Drawn0.refl _ | apply Drawn0.step)⟩
                                                                      · rw [if_neg c36] at H
                                                                        have c36b0 : (a0 == 46) = false := beq_eq_false_iff_ne.mpr c36
                                                                        have c36b1 : (a0 != 46) = true := bne_iff_ne.mpr c36
                                                                        by_cases c37 : a0 = 47
                                                                        · rw [if_pos c37] at H
                                                                          have c37b0 : (a0 == 47) = true := beq_iff_eq.mpr c37
                                                                          have c37b1 : (a0 != 47) = false := bne_eq_false_iff_eq.mpr c37
                                                                          clear c37
                                                                          obtain rfl := Option.some.inj H
                                                                          go_enter Try.func38, Try.ntmps38
                                                                          go_wp2
                                                                          go_ret
                                                                          exact ⟨by first | rfl | (refine congrArg Ending.returned (congrArg Value.bool ?_); generalize ByteArray.toList _ = l_; cases l_ <;> rfl) | (simp; done) | (simp [*]; done), by repeat (first | exact Drawn0.refl _ | apply Drawn0.step)⟩
                                                                        · rw [if_neg c37] at H
                                                                          have c37b0 : (a0 == 47) = false := beq_eq_false_iff_ne.mpr c37
                                                                          have c37b1 : (a0 != 47) = true := bne_iff_ne.mpr c37
                                                                          by_cases c38 : a0 = 50
                                                                          · rw [if_pos c38] at H
                                                                            have c38b0 : (a0 == 50) = true := beq_iff_eq.mpr c38
                                                                            have c38b1 : (a0 != 50) = false := bne_eq_false_iff_eq.mpr c38
                                                                            clear c38
                                                                            obtain rfl := Option.some.inj H
                                                                            go_enter Try.func38, Try.ntmps38
                                                                            go_wp2
                                                                            go_ret
                                                                            exact ⟨by first | rfl | (refine congrArg Ending.returned (congrArg Value.bool ?_); generalize ByteArray.toList _ = l_; cases l_ <;> rfl) | (simp; done) | (simp [*]; done), by repeat (first | exact Drawn0.refl _ | apply Drawn0.step)⟩
                                                                          · rw [if_neg c38] at H
                                                                            have c38b0 : (a0 == 50) = false := beq_eq_false_iff_ne.mpr c38
                                                                            have c38b1 : (a0 != 50) = true := bne_iff_ne.mpr c38
                                                                            by_cases c39 : a0 = 60
                                                                            · rw [if_pos c39] at H
                                                                              have c39b0 : (a0 == 60) = true := beq_iff_eq.mpr c39
                                                                              have c39b1 : (a0 != 60) = false := bne_eq_false_iff_eq.mpr c39
                                                                              clear c39
                                                                              obtain rfl := Option.some.inj H
                                                                              go_enter Try.func38, Try.ntmps38
                                                                              go_wp2
                                                                              go_ret
                                                                              exact ⟨by first | rfl | (refine congrArg Ending.returned (congrArg Value.bool ?_); generalize ByteArray.toList _ = l_; cases l_ <;> rfl) | (simp; done) | (simp [*]; done), by repeat (first | exact Drawn0.refl _ | apply Drawn0.step)⟩
                                                                            · rw [if_neg c39] at H
                                                                              have c39b0 : (a0 == 60) = false := beq_eq_false_iff_ne.mpr c39
                                                                              have c39b1 : (a0 != 60) = true := bne_iff_ne.mpr c39
                                                                              by_cases c40 : a0 = 61
                                                                              · rw [if_pos c40] at H
                                                                                have c40b0 : (a0 == 61) = true := beq_iff_eq.mpr c40
                                                                                have c40b1 : (a0 != 61) = false := bne_eq_false_iff_eq.mpr c40
                                                                                clear c40
                                                                                obtain rfl := Option.some.inj H
                                                                                go_enter Try.func38, Try.ntmps38
                                                                                go_wp2
                                                                                go_ret
                                                                                exact ⟨by first | rfl | (refine congrArg Ending.returned (congrArg Value.bool ?_); generalize ByteArray.toList _ = l_; cases l_ <;> rfl) | (simp; done) | (simp [*]; done), by repeat (first | exact Drawn0.refl _ | apply Drawn0.step)⟩
                                                                              · rw [if_neg c40] at H
                                                                                have c40b0 : (a0 == 61) = false := beq_eq_false_iff_ne.mpr c40
                                                                                have c40b1 : (a0 != 61) = true := bne_iff_ne.mpr c40
                                                                                by_cases c41 : a0 = 62
                                                                                · rw [if_pos c41] at H
                                                                                  have c41b0 : (a0 == 62) = true := beq_iff_eq.mpr c41
                                                                                  have c41b1 : (a0 != 62) = false := bne_eq_false_iff_eq.mpr c41
                                                                                  clear c41
                                                                                  obtain rfl := Option.some.inj H
                                                                                  go_enter Try.func38, Try.ntmps38
                                                                                  go_wp2
                                                                                  go_ret
                                                                                  exact ⟨by first | rfl | (refine congrArg Ending.returned (congrArg Value.bool ?_); generalize ByteArray.toList _ = l_; cases l_ <;> rfl) | (simp; done) | (simp [*]; done), by repeat (first | exact Drawn0.refl _ | apply Drawn0.step)⟩
                                                                                · rw [if_neg c41] at H
                                                                                  have c41b0 : (a0 == 62) = false := beq_eq_false_iff_ne.mpr c41
                                                                                  have c41b1 : (a0 != 62) = true := bne_iff_ne.mpr c41
                                                                                  by_cases c42 : a0 = 63
                                                                                  · rw [if_pos c42] at H
                                                                                    have c42b0 : (a0 == 63) = true := beq_iff_eq.mpr c42
                                                                                    have c42b1 : (a0 != 63) = false := bne_eq_false_iff_eq.mpr c42
                                                                                    clear c42
                                                                                    obtain rfl := Option.some.inj H
                                                                                    go_enter Try.func38, Try.ntmps38
                                                                                    go_wp2
                                                                                    go_ret
                                                                                    exact ⟨by first | rfl | (refine congrArg Ending.returned (congrArg Value.bool ?_); generalize ByteArray.toList _ = l_; cases l_ <;> rfl) | (simp; done) | (simp [*]; done), by repeat (first | exact Drawn0.refl _ | apply Drawn0.step)⟩
                                                                                  · rw [if_neg c42] at H
                                                                                    have c42b0 : (a0 == 63) = false := beq_eq_false_iff_ne.mpr c42
                                                                                    have c42b1 : (a0 != 63) = true := bne_iff_ne.mpr c42
                                                                                    by_cases c43 : a0 = 70
                                                                                    · rw [if_pos c43] at H
                                                                                      have c43b0 : (a0 == 70) = true := beq_iff_eq.mpr c43
                                                                                      have c43b1 : (a0 != 70) = false := bne_eq_false_iff_eq.mpr c43
                                                                                      clear c43
                                                                                      obtain rfl := Option.some.inj H
                                                                                      go_enter Try.func38, Try.ntmps38
                                                                                      go_wp2
                                                                                      go_ret
                                                                                      exact ⟨by first | rfl | (refine congrArg Ending.returned (congrArg Value.bool ?_); generalize ByteArray.toList _ = l_; cases l_ <;> rfl) | (simp; done) | (simp [*]; done), by repeat (first | exact Drawn0.refl _ | apply Drawn0.step)⟩
                                                                                    · rw [if_neg c43] at H
                                                                                      have c43b0 : (a0 == 70) = false := beq_eq_false_iff_ne.mpr c43
                                                                                      have c43b1 : (a0 != 70) = true := bne_iff_ne.mpr c43
                                                                                      by_cases c44 : a0 = 80
                                                                                      · rw [if_pos c44] at H
                                                                                        have c44b0 : (a0 == 80) = true := beq_iff_eq.mpr c44
                                                                                        have c44b1 : (a0 != 80) = false := bne_eq_false_iff_eq.mpr c44
                                                                                        clear c44
                                                                                        obtain rfl := Option.some.inj H
                                                                                        go_enter Try.func38, Try.ntmps38
                                                                                        go_wp2
                                                                                        go_ret
                                                                                        exact ⟨by first | rfl | (refine congrArg Ending.returned (congrArg Value.bool ?_); generalize ByteArray.toList _ = l_; cases l_ <;> rfl) | (simp; done) | (simp [*]; done), by repeat (first | exact Drawn0.refl _ | apply Drawn0.step)⟩
                                                                                      · rw [if_neg c44] at H
                                                                                        have c44b0 : (a0 == 80) = false := beq_eq_false_iff_ne.mpr c44
                                                                                        have c44b1 : (a0 != 80) = true := bne_iff_ne.mpr c44
                                                                                        obtain rfl := Option.some.inj H
                                                                                        go_enter Try.func38, Try.ntmps38
                                                                                        go_wp2
                                                                                        go_ret
                                                                                        exact ⟨by first | rfl | (refine congrArg Ending.returned (congrArg Value.bool ?_); generalize ByteArray.toList _ = l_; cases l_ <;> rfl) | (simp; done) | (simp [*]; done), by repeat (first | exact Drawn0.refl _ | apply Drawn0.step)⟩

/-! ### impl_IsPc: function 40 -/
def impl_IsPc.f (a0 : Int) : Option (Bool) := (impl_PcName.f a0).bind fun t116 => (some (t116.toList != ([] : List UInt8)))
set_option maxHeartbeats 8000000 in
set_option maxRecDepth 100000 in
theorem impl_IsPc.calls (a0 : Int) (r : Bool) (w : World) (h : impl_IsPc.f a0 = some r) :
    Calls Try.prog 40 #[.int .i64 a0] w fun e w' => e = .returned (.bool r) ∧ Drawn0 w w' := by
  have H : ((impl_PcName.f a0).bind fun t116 => (some (t116.toList != ([] : List UInt8)))) = some r := h
  clear h
  replace H := Option.bind_eq_some_iff.mp H
  obtain ⟨t116, A20, H⟩ := H
  replace H : (some (t116.toList != ([] : List UInt8))) = some r := H
  have A2 := Aside0.mk A20
  clear A20
  obtain rfl := Option.some.inj H
  go_enter Try.func40, Try.ntmps40
  go_wp2_with (first | ((with_reducible refine gate_callee (f := 38) rfl ?_); refine goesL_ (some 4) rfl rfl Try.func38 (by kernel_rfl) rfl #[.int .i64 a0] rfl (by (try simp only [List.map_toArray, List.map_cons, List.map_nil]); first | done | rfl | (simp only [List.length_drop, List.length_take]; rfl)) ?_; (with_reducible refine (impl_PcName.calls a0 t116 _ A2.out).mono ?_); rintro e w' ⟨rfl, ⟨nd, rfl⟩⟩; refine ⟨_, rfl, ?_⟩))
  go_ret
  exact ⟨by first | rfl | (refine congrArg Ending.returned (congrArg Value.bool ?_); generalize ByteArray.toList _ = l_; cases l_ <;> rfl) | (simp; done) | (simp [*]; done), by repeat (first | exact Drawn0.refl _ | apply Drawn0.step)⟩

/-! ### laws_FnExactIsPc: function 12 -/
def laws_FnExactIsPc.f (k : Nat) (a0 : Int) : Option (Bool) := (spec_IsPc.f k a0).bind fun t117 => ((impl_IsPc.f a0).bind fun t118 => (if (t118 != t117) = true then (some false) else (some true)))
theorem laws_FnExactIsPc.mono : ∀ a0 k, LeO (laws_FnExactIsPc.f k a0) (laws_FnExactIsPc.f (k + 1) a0) := by
  intro a0 k
  unfold laws_FnExactIsPc.f
  repeat' first
      | (with_reducible exact spec_IsPc.mono _ _)
      | (with_reducible exact LeO.refl _)
      | (with_reducible exact LeO.none _)
      | (with_reducible refine LeO.ite ?_ ?_)
      | (with_reducible refine LeO.bind ?_ (fun _ => ?_))
      | exact spec_IsPc.mono _ _
      | exact LeO.none _
      | refine LeO.ite ?_ ?_
      | refine LeO.bind ?_ (fun _ => ?_)
set_option maxHeartbeats 8000000 in
set_option maxRecDepth 100000 in
theorem laws_FnExactIsPc.calls (k : Nat) (a0 : Int) (r : Bool) (w : World) (h : laws_FnExactIsPc.f k a0 = some r) :
    Calls Try.prog 12 #[.int .i64 a0] w fun e w' => e = .returned (.bool r) ∧ Below w.heap.size w w' := by
  have HB := Aside0.mk (Below.refl w.heap.size w)
  have H : ((spec_IsPc.f k a0).bind fun t117 => ((impl_IsPc.f a0).bind fun t118 => (if (t118 != t117) = true then (some false) else (some true)))) = some r := h
  clear h
  replace H := Option.bind_eq_some_iff.mp H
  obtain ⟨t117, A20, H⟩ := H
  replace H : ((impl_IsPc.f a0).bind fun t118 => (if (t118 != t117) = true then (some false) else (some true))) = some r := H
  have A2 := Aside0.mk A20
  clear A20
  replace H := Option.bind_eq_some_iff.mp H
  obtain ⟨t118, A30, H⟩ := H
  replace H : (if (t118 != t117) = true then (some false) else (some true)) = some r := H
  have A3 := Aside0.mk A30
  clear A30
  by_cases c4 : (t118 != t117) = true
  · rw [if_pos c4] at H
    have c4b0 : (t118 != t117) = true := c4
    (try (have c4b1 : decide (t118 = t117) = false := by simpa using c4))
    (try (have c4b2 : (t118 == t117) = false := by simpa using c4))
    (try (have c4b3 : ¬ (t118 = t117) := by simpa using c4))
    clear c4
    obtain rfl := Option.some.inj H
    go_enter Try.func12, Try.ntmps12
    go_wp2_with (first | ((with_reducible refine gate_callee (f := 39) rfl ?_); refine goesL_ (some 6) rfl rfl Try.func39 (by kernel_rfl) rfl #[.int .i64 a0] rfl (by (try simp only [List.map_toArray, List.map_cons, List.map_nil]); first | done | rfl | (simp only [List.length_drop, List.length_take]; rfl)) ?_; (with_reducible refine (spec_IsPc.calls k a0 t117 _ A2.out).mono ?_); rintro e w5 ⟨rfl, hb⟩; refine ⟨_, rfl, ?_⟩; have n0_ := Aside0.mk (below_step (by repeat (first | (with_reducible first | exact HB.out | apply below_alloc | apply pw_below_drewN | apply below_drew1) | exact HB.out)) hb); clear HB; have HB := n0_; clear n0_; (try clear hb); (try clear hb2); (try clear hk); (try clear hi)) | ((with_reducible refine gate_callee (f := 40) rfl ?_); refine goesL_ (some 8) rfl rfl Try.func40 (by kernel_rfl) rfl #[.int .i64 a0] rfl (by (try simp only [List.map_toArray, List.map_cons, List.map_nil]); first | done | rfl | (simp only [List.length_drop, List.length_take]; rfl)) ?_; (with_reducible refine (impl_IsPc.calls a0 t118 _ A3.out).mono ?_); rintro e w' ⟨rfl, ⟨nd, rfl⟩⟩; refine ⟨_, rfl, ?_⟩))
    go_ret
    exact ⟨by first | rfl | (refine congrArg Ending.returned (congrArg Value.bool ?_); generalize ByteArray.toList _ = l_; cases l_ <;> rfl) | (simp [errW_none, errW_some] <;> rfl) | (simp [*, errW_none, errW_some] <;> rfl), by repeat (first | (with_reducible first | exact HB.out | apply below_alloc | apply pw_below_drewN | apply below_drew1) | exact HB.out)⟩
  · rw [if_neg c4] at H
    have c4b0 : (t118 != t117) = false := by simpa using c4
    (try (have c4b1 : decide (t118 = t117) = true := by simpa using c4))
    (try (have c4b2 : (t118 == t117) = true := by simpa using c4))
    clear c4
    obtain rfl := Option.some.inj H
    go_enter Try.func12, Try.ntmps12
    go_wp2_with (first | ((with_reducible refine gate_callee (f := 39) rfl ?_); refine goesL_ (some 6) rfl rfl Try.func39 (by kernel_rfl) rfl #[.int .i64 a0] rfl (by (try simp only [List.map_toArray, List.map_cons, List.map_nil]); first | done | rfl | (simp only [List.length_drop, List.length_take]; rfl)) ?_; (with_reducible refine (spec_IsPc.calls k a0 t117 _ A2.out).mono ?_); rintro e w6 ⟨rfl, hb⟩; refine ⟨_, rfl, ?_⟩; have n0_ := Aside0.mk (below_step (by repeat (first | (with_reducible first | exact HB.out | apply below_alloc | apply pw_below_drewN | apply below_drew1) | exact HB.out)) hb); clear HB; have HB := n0_; clear n0_; (try clear hb); (try clear hb2); (try clear hk); (try clear hi)) | ((with_reducible refine gate_callee (f := 40) rfl ?_); refine goesL_ (some 8) rfl rfl Try.func40 (by kernel_rfl) rfl #[.int .i64 a0] rfl (by (try simp only [List.map_toArray, List.map_cons, List.map_nil]); first | done | rfl | (simp only [List.length_drop, List.length_take]; rfl)) ?_; (with_reducible refine (impl_IsPc.calls a0 t118 _ A3.out).mono ?_); rintro e w' ⟨rfl, ⟨nd, rfl⟩⟩; refine ⟨_, rfl, ?_⟩))
    go_ret
    exact ⟨by first | rfl | (refine congrArg Ending.returned (congrArg Value.bool ?_); generalize ByteArray.toList _ = l_; cases l_ <;> rfl) | (simp [errW_none, errW_some] <;> rfl) | (simp [*, errW_none, errW_some] <;> rfl), by repeat (first | (with_reducible first | exact HB.out | apply below_alloc | apply pw_below_drewN | apply below_drew1) | exact HB.out)⟩

/-- THE ONE PURE STATEMENT of laws_FnExactIsPc: yours. -/
def laws_FnExactIsPc.Pure : Prop := ∀ (a0 : Int), (Lit.int .i64 a0).wf = true → ∃ k, laws_FnExactIsPc.f k a0 = some true
theorem laws_FnExactIsPc.walk (P : laws_FnExactIsPc.Pure) (a0 : Int) (w : World) (w0 : (Lit.int .i64 a0).wf = true) :
    Calls Try.prog 12 #[.int .i64 a0] w fun e w' => e = .returned (.bool true) ∧ Below w.heap.size w w' := by
  obtain ⟨k, h⟩ := P a0 w0
  refine (laws_FnExactIsPc.calls k a0 true w h).mono ?_
  rintro e w' ⟨rfl, hd⟩
  exact ⟨rfl, hd⟩

end Go.Proofs.Ytlbbnepkdhlgmab.GFnExactIsPc
