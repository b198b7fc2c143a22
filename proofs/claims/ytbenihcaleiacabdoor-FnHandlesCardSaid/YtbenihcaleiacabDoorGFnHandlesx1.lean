/- Of each Go function that the law FnHandles reaches: a Lean function, and the proof that the call comes to just its answer; written by a turned copy of the kit's printer, with contracts typed by hand for functions that it does not take. No condition. -/
import Derived.Test.YtbenihcaleiacabDoorGFnHandlesx0
namespace Go.Proofs.YtbenihcaleiacabDoor.GFnHandles
open Go.RowKit Go.Proofs.YtbenihcaleiacabDoorW.PrintWords Go.Proofs.YtbenihcaleiacabDoorW.PrintLast Go.Proofs.YtbenihcaleiacabDoorW.PrintMore
attribute [local go_sem] max2_int min2_int max_two min_two max_three min_three max_four min_four   -- for this text's walks alone
set_option linter.unusedVariables false
set_option linter.unusedSimpArgs false

/-! ### laws_big: function 13 -/
def laws_big.f (l0 : List Int) : Option (Bool) := some (decide ((l0.length : Int) > 1048576))
set_option maxHeartbeats 8000000 in
set_option maxRecDepth 100000 in
theorem laws_big.calls (A0 : Option Addr) (c0 : Nat) (l0 : List Int) (r : Bool) (w : World) (hr0 : Kd.C (Kd.int .u8) w A0 l0.length l0) (hc0 : l0.length ≤ c0) (h : laws_big.f l0 = some r) :
    Calls Tryd.prog 13 #[.slice A0 l0.length c0] w fun e w' => e = .returned (.bool r) ∧ Drawn0 w w' := by
  have HR0 := Aside0.mk hr0
  have HC0 := Aside0.mk hc0
  clear hr0 hc0
  have H : (some (decide ((l0.length : Int) > 1048576))) = some r := h
  clear h
  obtain rfl := Option.some.inj H
  go_enter Tryd.func13, Tryd.ntmps13
  go_wp2
  go_ret
  exact ⟨by first | rfl | (refine congrArg Ending.returned (congrArg Value.bool ?_); generalize ByteArray.toList _ = l_; cases l_ <;> rfl) | (simp; done) | (simp [*]; done), by repeat (first | exact Drawn0.refl _ | apply Drawn0.step)⟩

-- lib FitB
theorem vstay {P : Program} {n : String} {cs : Array Value} {w w' : World} (h : w.var? P n = some cs) (hb : Below w.heap.size w w') : w'.var? P n = some cs := by
  cases hg : P.globalNamed n with
  | none =>
    unfold World.var? at h
    rw [hg] at h
    simp at h
  | some g => exact Go.Joins.var_stays hg h hb (Nat.le_refl _)
/-- What the world holds of the library's own variables. -/
def Fit (w : World) : Prop := w.ShapedOpen Tryd.prog ∧ Lib.TabIs Tryd.prog w "internal/strconv.uint64pow10" .u64 Lib.pow10Tab ∧ (∃ tp p, w.var? Tryd.prog "strconv.ErrSyntax" = some #[.iface tp p]) ∧ ∃ tp p, w.var? Tryd.prog "strconv.ErrRange" = some #[.iface tp p]
theorem Fit.below {w w' : World} (h : Fit w) (hb : Below w.heap.size w w') : Fit w' := by
  obtain ⟨h1, h2, ⟨t1, p1, h3⟩, t2, p2, h4⟩ := h
  exact ⟨h1.keptBut (hb.frame (fun _ => False)) (fun _ hp => hp.elim), vstay h2 hb, ⟨t1, p1, vstay h3 hb⟩, t2, p2, vstay h4 hb⟩
theorem Fit.tab {w : World} (h : Fit w) : Lib.TabIs Tryd.prog w "internal/strconv.uint64pow10" .u64 Lib.pow10Tab := h.2.1

/-! ### strconv_Itoa: function 77 -/
def strconv_Itoa.f (a0 : Int) : Option (ByteArray) := if -9223372036854775808 ≤ a0 ∧ a0 ≤ 9223372036854775807 then some ⟨(Lib.itoa a0).toArray⟩ else none
theorem strconv_Itoa.calls (a0 : Int) (r : ByteArray) (w : World) (hF : Fit w) (h : strconv_Itoa.f a0 = some r) :
    Calls Tryd.prog 77 #[.int .i64 a0] w fun e w' => e = .returned (.string r) ∧ Below w.heap.size w w' := by
  unfold strconv_Itoa.f at h
  by_cases hb : -9223372036854775808 ≤ a0 ∧ a0 ≤ 9223372036854775807
  · rw [if_pos hb] at h
    obtain rfl := Option.some.inj h
    refine (Tryd.strconv_Itoa a0 hb.1 hb.2 w hF.tab).mono ?_
    rintro e w' ⟨he, k, os, rfl⟩
    exact ⟨he, Lib.below_grow _ w (Nat.le_refl _) k os⟩
  · rw [if_neg hb] at h
    cases h

/-! ### impl_FormatInt: function 24 -/
def impl_FormatInt.f (a0 : Int) : Option (ByteArray) := (strconv_Itoa.f a0).bind fun t101 => (some t101)
set_option maxHeartbeats 8000000 in
set_option maxRecDepth 100000 in
theorem impl_FormatInt.calls (a0 : Int) (r : ByteArray) (w : World) (hF : Fit w) (h : impl_FormatInt.f a0 = some r) :
    Calls Tryd.prog 24 #[.int .i64 a0] w fun e w' => e = .returned (.string r) ∧ Below w.heap.size w w' := by
  have HF := Aside0.mk hF
  clear hF
  have HB := Aside0.mk (Below.refl w.heap.size w)
  have H : ((strconv_Itoa.f a0).bind fun t101 => (some t101)) = some r := h
  clear h
  replace H := Option.bind_eq_some_iff.mp H
  obtain ⟨t101, A20, H⟩ := H
  replace H : (some t101) = some r := H
  have A2 := Aside0.mk A20
  clear A20
  obtain rfl := Option.some.inj H
  go_enter Tryd.func24, Tryd.ntmps24
  go_wp2_with (first | ((with_reducible refine gate_callee (f := 77) rfl ?_); refine goesL_ (some 4) rfl rfl Tryd.func77 (by kernel_rfl) rfl #[.int .i64 a0] rfl (by (try simp only [List.map_toArray, List.map_cons, List.map_nil]); first | done | rfl | (simp only [List.length_drop, List.length_take]; rfl)) ?_; (with_reducible refine (strconv_Itoa.calls (hF := Fit.below HF.out (by repeat (first | (with_reducible first | exact HB.out | apply below_alloc | apply pw_below_drewN | apply below_drew1) | exact HB.out))) a0 t101 _ A2.out).mono ?_); rintro e w3 ⟨rfl, hb⟩; refine ⟨_, rfl, ?_⟩; have n0_ := Aside0.mk (below_step (by repeat (first | (with_reducible first | exact HB.out | apply below_alloc | apply pw_below_drewN | apply below_drew1) | exact HB.out)) hb); clear HB; have HB := n0_; clear n0_; (try clear hb); (try clear hb2); (try clear hk); (try clear hi)))
  go_ret
  exact ⟨by first | rfl | (refine congrArg Ending.returned (congrArg Value.bool ?_); generalize ByteArray.toList _ = l_; cases l_ <;> rfl) | (simp [errW_none, errW_some] <;> rfl) | (simp [*, errW_none, errW_some] <;> rfl), by repeat (first | (with_reducible first | exact HB.out | apply below_alloc | apply pw_below_drewN | apply below_drew1) | exact HB.out)⟩

/-! ### impl_ParseInt: function 12 -/
def impl_ParseInt.of (a0 : ByteArray) (v : Int) : Option (Int × Bool) := (impl_FormatInt.f v).bind fun t => if t.toList = a0.toList then (if v > 999999999 then some (0, false) else if v < -999999999 then some (0, false) else some (v, true)) else some (0, false)
def impl_ParseInt.f (a0 : ByteArray) : Option (Int × Bool) := if a0.size ≤ 281474976710656 then (match Lib.atoiAll a0.data.toList with | .ok v => impl_ParseInt.of a0 v | _ => some (0, false)) else none
theorem impl_ParseInt.bad (a0 : ByteArray) (x : Int) (w : World) (hcon : Calls Tryd.prog 70 #[.string a0] w fun e w' => (∃ p, e = .returned (.tuple #[.int .i64 x, .iface 109 (.pointer p)])) ∧ Below w.heap.size w w') :
    Calls Tryd.prog 12 #[.string a0] w fun e w' => e = .returned (.tuple #[.int .i64 0, .bool false]) ∧ Below w.heap.size w w' := by
  go_enter Tryd.func12, Tryd.ntmps12
  go_wp2_with (go_at_call 70; refine hcon.mono ?_; rintro e w' ⟨⟨p, rfl⟩, hb⟩)
  go_ret2
  exact ⟨rfl, by assumption⟩
theorem impl_ParseInt.good (a0 : ByteArray) (v : Int) (r1 : Int) (r2 : Bool) (w : World) (hF : Fit w) (hcon : Calls Tryd.prog 70 #[.string a0] w fun e w' => e = .returned (.tuple #[.int .i64 v, .nilIface]) ∧ Below w.heap.size w w') (h : impl_ParseInt.of a0 v = some (r1, r2)) :
    Calls Tryd.prog 12 #[.string a0] w fun e w' => e = .returned (.tuple #[.int .i64 r1, .bool r2]) ∧ Below w.heap.size w w' := by
  obtain ⟨t, ht, H⟩ := Option.bind_eq_some_iff.1 h
  have A2 := Aside0.mk ht
  have HF := Aside0.mk hF
  clear h ht hF
  by_cases c1 : t.toList = a0.toList
  · rw [if_pos c1] at H
    have c1b0 : (t.toList == a0.toList) = true := beq_iff_eq.mpr c1
    have c1b1 : (t.toList != a0.toList) = false := bne_eq_false_iff_eq.mpr c1
    clear c1
    by_cases c2 : v > 999999999
    · rw [if_pos c2] at H
      have c2b0 : decide (999999999 < v) = true := decide_eq_true c2
      clear c2
      simp only [Option.some.injEq, Prod.mk.injEq] at H
      obtain ⟨rfl, rfl⟩ := H
      go_enter Tryd.func12, Tryd.ntmps12
      go_wp2_with (first | (go_at_call 70; refine hcon.mono ?_; rintro e w1 ⟨rfl, hb⟩) | (go_at_call 24; refine (impl_FormatInt.calls v t _ (Fit.below HF.out (by assumption)) A2.out).mono ?_; rintro e w2 ⟨rfl, hb2⟩))
      go_ret2
      exact ⟨rfl, below_step (by assumption) (by assumption)⟩
    · rw [if_neg c2] at H
      have c2b0 : decide (999999999 < v) = false := decide_eq_false c2
      clear c2
      by_cases c3 : v < -999999999
      · rw [if_pos c3] at H
        have c3b0 : decide (v < -999999999) = true := decide_eq_true c3
        clear c3
        simp only [Option.some.injEq, Prod.mk.injEq] at H
        obtain ⟨rfl, rfl⟩ := H
        go_enter Tryd.func12, Tryd.ntmps12
        go_wp2_with (first | (go_at_call 70; refine hcon.mono ?_; rintro e w1 ⟨rfl, hb⟩) | (go_at_call 24; refine (impl_FormatInt.calls v t _ (Fit.below HF.out (by assumption)) A2.out).mono ?_; rintro e w2 ⟨rfl, hb2⟩))
        go_ret2
        exact ⟨rfl, below_step (by assumption) (by assumption)⟩
      · rw [if_neg c3] at H
        have c3b0 : decide (v < -999999999) = false := decide_eq_false c3
        clear c3
        simp only [Option.some.injEq, Prod.mk.injEq] at H
        obtain ⟨rfl, rfl⟩ := H
        go_enter Tryd.func12, Tryd.ntmps12
        go_wp2_with (first | (go_at_call 70; refine hcon.mono ?_; rintro e w1 ⟨rfl, hb⟩) | (go_at_call 24; refine (impl_FormatInt.calls v t _ (Fit.below HF.out (by assumption)) A2.out).mono ?_; rintro e w2 ⟨rfl, hb2⟩))
        go_ret2
        exact ⟨rfl, below_step (by assumption) (by assumption)⟩
  · rw [if_neg c1] at H
    have c1b0 : (t.toList == a0.toList) = false := beq_eq_false_iff_ne.mpr c1
    have c1b1 : (t.toList != a0.toList) = true := bne_iff_ne.mpr c1
    clear c1
    simp only [Option.some.injEq, Prod.mk.injEq] at H
    obtain ⟨rfl, rfl⟩ := H
    go_enter Tryd.func12, Tryd.ntmps12
    go_wp2_with (first | (go_at_call 70; refine hcon.mono ?_; rintro e w1 ⟨rfl, hb⟩) | (go_at_call 24; refine (impl_FormatInt.calls v t _ (Fit.below HF.out (by assumption)) A2.out).mono ?_; rintro e w2 ⟨rfl, hb2⟩))
    go_ret2
    exact ⟨rfl, below_step (by assumption) (by assumption)⟩
theorem impl_ParseInt.calls (a0 : ByteArray) (r1 : Int) (r2 : Bool) (w : World) (hF : Fit w) (h : impl_ParseInt.f a0 = some (r1, r2)) :
    Calls Tryd.prog 12 #[.string a0] w fun e w' => e = .returned (.tuple #[.int .i64 r1, .bool r2]) ∧ Below w.heap.size w w' := by
  unfold impl_ParseInt.f at h
  by_cases hs : a0.size ≤ 281474976710656
  · rw [if_pos hs] at h
    have hF' := hF
    obtain ⟨_, _, ⟨t1, p1, h3⟩, t2, p2, h4⟩ := hF'
    cases hA : Lib.atoiAll a0.data.toList with
    | ok v =>
      rw [hA] at h
      refine impl_ParseInt.good a0 v r1 r2 w hF ((Any.strconv_Atoi_ok Tryd.laysC172 a0 (by omega) v hA w).mono ?_) h
      rintro e w' ⟨he, hw⟩
      refine ⟨he, ?_⟩
      rcases hw with rfl | ⟨t, rfl⟩
      · exact Below.refl _ _
      · exact Lib.bytesWorld_below w 5 t
    | range =>
      rw [hA] at h
      simp only [Option.some.injEq, Prod.mk.injEq] at h
      obtain ⟨rfl, rfl⟩ := h
      refine impl_ParseInt.bad a0 (Lib.atoiSat a0.data.toList) w ((Any.strconv_Atoi_range_var Tryd.laysC172 a0 hs hA t2 p2 w h4).mono ?_)
      rintro e w' ⟨N, he, _, _, hb⟩
      exact ⟨⟨_, he⟩, hb⟩
    | _ =>
      rw [hA] at h
      simp only [Option.some.injEq, Prod.mk.injEq] at h
      obtain ⟨rfl, rfl⟩ := h
      refine impl_ParseInt.bad a0 0 w ((Any.strconv_Atoi_syntax_var Tryd.laysC172 a0 hs hA t1 p1 w h3).mono ?_)
      rintro e w' ⟨N, he, _, _, hb⟩
      exact ⟨⟨_, he⟩, hb⟩
  · rw [if_neg hs] at h
    cases h

/-! ### impl_MakeHandle: function 29 -/
def impl_MakeHandle.f (a0 : Int) (a1 : Int) : Option (Int) := if a0 < 0 then (some 0) else (if a0 > 62 then (some 0) else (if a1 < 0 then (some 0) else (if a1 > 9999 then (some 0) else (some (wrap64 ((wrap64 ((wrap64 ((wrap64 (a1 * 64)) + a0)) + 1)) * 2))))))
set_option maxHeartbeats 8000000 in
set_option maxRecDepth 100000 in
theorem impl_MakeHandle.calls (a0 : Int) (a1 : Int) (r : Int) (w : World) (h : impl_MakeHandle.f a0 a1 = some r) :
    Calls Tryd.prog 29 #[.int .i64 a0, .int .i64 a1] w fun e w' => e = .returned (.int .i64 r) ∧ Drawn0 w w' := by
  have H : (if a0 < 0 then (some 0) else (if a0 > 62 then (some 0) else (if a1 < 0 then (some 0) else (if a1 > 9999 then (some 0) else (some (wrap64 ((wrap64 ((wrap64 ((wrap64 (a1 * 64)) + a0)) + 1)) * 2))))))) = some r := h
  clear h
  by_cases c3 : a0 < 0
  · rw [if_pos c3] at H
    have c3b0 : decide (a0 < 0) = true := decide_eq_true c3
    clear c3
    obtain rfl := Option.some.inj H
    go_enter Tryd.func29, Tryd.ntmps29
    go_wp2
    go_ret
    exact ⟨by first | rfl | (refine congrArg Ending.returned (congrArg Value.bool ?_); generalize ByteArray.toList _ = l_; cases l_ <;> rfl) | (simp; done) | (simp [*]; done), by repeat (first | exact Drawn0.refl _ | apply Drawn0.step)⟩
  · rw [if_neg c3] at H
    have c3b0 : decide (a0 < 0) = false := decide_eq_false c3
    clear c3
    by_cases c4 : a0 > 62
    · rw [if_pos c4] at H
      have c4b0 : decide (62 < a0) = true := decide_eq_true c4
      clear c4
      obtain rfl := Option.some.inj H
      go_enter Tryd.func29, Tryd.ntmps29
      go_wp2
      go_ret
      exact ⟨by first | rfl | (refine congrArg Ending.returned (congrArg Value.bool ?_); generalize ByteArray.toList _ = l_; cases l_ <;> rfl) | (simp; done) | (simp [*]; done), by repeat (first | exact Drawn0.refl _ | apply Drawn0.step)⟩
    · rw [if_neg c4] at H
      have c4b0 : decide (62 < a0) = false := decide_eq_false c4
      clear c4
      by_cases c5 : a1 < 0
      · rw [if_pos c5] at H
        have c5b0 : decide (a1 < 0) = true := decide_eq_true c5
        clear c5
        obtain rfl := Option.some.inj H
        go_enter Tryd.func29, Tryd.ntmps29
        go_wp2
        go_ret
        exact ⟨by first | rfl | (refine congrArg Ending.returned (congrArg Value.bool ?_); generalize ByteArray.toList _ = l_; cases l_ <;> rfl) | (simp; done) | (simp [*]; done), by repeat (first | exact Drawn0.refl _ | apply Drawn0.step)⟩
      · rw [if_neg c5] at H
        have c5b0 : decide (a1 < 0) = false := decide_eq_false c5
        clear c5
        by_cases c6 : a1 > 9999
        · rw [if_pos c6] at H
          have c6b0 : decide (9999 < a1) = true := decide_eq_true c6
          clear c6
          obtain rfl := Option.some.inj H
          go_enter Tryd.func29, Tryd.ntmps29
          go_wp2
          go_ret
          exact ⟨by first | rfl | (refine congrArg Ending.returned (congrArg Value.bool ?_); generalize ByteArray.toList _ = l_; cases l_ <;> rfl) | (simp; done) | (simp [*]; done), by repeat (first | exact Drawn0.refl _ | apply Drawn0.step)⟩
        · rw [if_neg c6] at H
          have c6b0 : decide (9999 < a1) = false := decide_eq_false c6
          clear c6
          obtain rfl := Option.some.inj H
          go_enter Tryd.func29, Tryd.ntmps29
          go_wp2
          go_ret
          exact ⟨by first | rfl | (refine congrArg Ending.returned (congrArg Value.bool ?_); generalize ByteArray.toList _ = l_; cases l_ <;> rfl) | (simp; done) | (simp [*]; done), by repeat (first | exact Drawn0.refl _ | apply Drawn0.step)⟩

/-! ### impl_parts: function 82 -/
def impl_parts.f (a0 : Int) : Option (Int × Int × Bool) := if a0 < 2 then (some ((-1), (-1), false)) else (if (Int.tmod (wrap64 ((wrap64 (Int.tdiv a0 2)) - 1)) 64) > 62 then (some ((-1), (-1), false)) else (if (wrap64 (Int.tdiv (wrap64 ((wrap64 (Int.tdiv a0 2)) - 1)) 64)) > 9999 then (some ((-1), (-1), false)) else (some (Int.tmod (wrap64 ((wrap64 (Int.tdiv a0 2)) - 1)) 64, wrap64 (Int.tdiv (wrap64 ((wrap64 (Int.tdiv a0 2)) - 1)) 64), true))))
set_option maxHeartbeats 8000000 in
set_option maxRecDepth 100000 in
theorem impl_parts.calls (a0 : Int) (r1 : Int) (r2 : Int) (r3 : Bool) (w : World) (h : impl_parts.f a0 = some (r1, r2, r3)) :
    Calls Tryd.prog 82 #[.int .i64 a0] w fun e w' => e = .returned (.tuple #[.int .i64 r1, .int .i64 r2, .bool r3]) ∧ Drawn0 w w' := by
  have H : (if a0 < 2 then (some ((-1), (-1), false)) else (if (Int.tmod (wrap64 ((wrap64 (Int.tdiv a0 2)) - 1)) 64) > 62 then (some ((-1), (-1), false)) else (if (wrap64 (Int.tdiv (wrap64 ((wrap64 (Int.tdiv a0 2)) - 1)) 64)) > 9999 then (some ((-1), (-1), false)) else (some (Int.tmod (wrap64 ((wrap64 (Int.tdiv a0 2)) - 1)) 64, wrap64 (Int.tdiv (wrap64 ((wrap64 (Int.tdiv a0 2)) - 1)) 64), true))))) = some (r1, r2, r3) := h
  clear h
  by_cases c2 : a0 < 2
  · rw [if_pos c2] at H
    have c2b0 : decide (a0 < 2) = true := decide_eq_true c2
    clear c2
    simp only [Option.some.injEq, Prod.mk.injEq] at H
    obtain ⟨rfl, rfl, rfl⟩ := H
    go_enter Tryd.func82, Tryd.ntmps82
    go_wp2
    go_ret3
    exact ⟨by first | rfl | (refine congrArg Ending.returned (congrArg Value.bool ?_); generalize ByteArray.toList _ = l_; cases l_ <;> rfl) | (simp; done) | (simp [*]; done), by repeat (first | exact Drawn0.refl _ | apply Drawn0.step)⟩
  · rw [if_neg c2] at H
    have c2b0 : decide (a0 < 2) = false := decide_eq_false c2
    clear c2
    by_cases c3 : (Int.tmod (wrap64 ((wrap64 (Int.tdiv a0 2)) - 1)) 64) > 62
    · rw [if_pos c3] at H
      have c3b0 : decide (62 < (Int.tmod (wrap64 ((wrap64 (Int.tdiv a0 2)) - 1)) 64)) = true := decide_eq_true c3
      clear c3
      simp only [Option.some.injEq, Prod.mk.injEq] at H
      obtain ⟨rfl, rfl, rfl⟩ := H
      go_enter Tryd.func82, Tryd.ntmps82
      go_wp2
      go_ret3
      exact ⟨by first | rfl | (refine congrArg Ending.returned (congrArg Value.bool ?_); generalize ByteArray.toList _ = l_; cases l_ <;> rfl) | (simp; done) | (simp [*]; done), by repeat (first | exact Drawn0.refl _ | apply Drawn0.step)⟩
    · rw [if_neg c3] at H
      have c3b0 : decide (62 < (Int.tmod (wrap64 ((wrap64 (Int.tdiv a0 2)) - 1)) 64)) = false := decide_eq_false c3
      clear c3
      by_cases c4 : (wrap64 (Int.tdiv (wrap64 ((wrap64 (Int.tdiv a0 2)) - 1)) 64)) > 9999
      · rw [if_pos c4] at H
        have c4b0 : decide (9999 < (wrap64 (Int.tdiv (wrap64 ((wrap64 (Int.tdiv a0 2)) - 1)) 64))) = true := decide_eq_true c4
        clear c4
        simp only [Option.some.injEq, Prod.mk.injEq] at H
        obtain ⟨rfl, rfl, rfl⟩ := H
        go_enter Tryd.func82, Tryd.ntmps82
        go_wp2
        go_ret3
        exact ⟨by first | rfl | (refine congrArg Ending.returned (congrArg Value.bool ?_); generalize ByteArray.toList _ = l_; cases l_ <;> rfl) | (simp; done) | (simp [*]; done), by repeat (first | exact Drawn0.refl _ | apply Drawn0.step)⟩
      · rw [if_neg c4] at H
        have c4b0 : decide (9999 < (wrap64 (Int.tdiv (wrap64 ((wrap64 (Int.tdiv a0 2)) - 1)) 64))) = false := decide_eq_false c4
        clear c4
        simp only [Option.some.injEq, Prod.mk.injEq] at H
        obtain ⟨rfl, rfl, rfl⟩ := H
        go_enter Tryd.func82, Tryd.ntmps82
        go_wp2
        go_ret3
        exact ⟨by first | rfl | (refine congrArg Ending.returned (congrArg Value.bool ?_); generalize ByteArray.toList _ = l_; cases l_ <;> rfl) | (simp; done) | (simp [*]; done), by repeat (first | exact Drawn0.refl _ | apply Drawn0.step)⟩

/-! ### impl_IsHandle: function 34 -/
def impl_IsHandle.f (a0 : Int) : Option (Bool) := (impl_parts.f a0).bind fun bt102 => (some bt102.2.2)
set_option maxHeartbeats 8000000 in
set_option maxRecDepth 100000 in
theorem impl_IsHandle.calls (a0 : Int) (r : Bool) (w : World) (h : impl_IsHandle.f a0 = some r) :
    Calls Tryd.prog 34 #[.int .i64 a0] w fun e w' => e = .returned (.bool r) ∧ Drawn0 w w' := by
  have H : ((impl_parts.f a0).bind fun bt102 => (some bt102.2.2)) = some r := h
  clear h
  replace H := Option.bind_eq_some_iff.mp H
  obtain ⟨⟨t102, t103, t104⟩, A20, H⟩ := H
  replace H : (some t104) = some r := H
  have A2 := Aside0.mk A20
  clear A20
  obtain rfl := Option.some.inj H
  go_enter Tryd.func34, Tryd.ntmps34
  go_wp2_with (first | ((with_reducible refine gate_callee (f := 82) rfl ?_); refine goesL_ (some 8) rfl rfl Tryd.func82 (by kernel_rfl) rfl #[.int .i64 a0] rfl (by (try simp only [List.map_toArray, List.map_cons, List.map_nil]); first | done | rfl | (simp only [List.length_drop, List.length_take]; rfl)) ?_; (with_reducible refine (impl_parts.calls a0 t102 t103 t104 _ A2.out).mono ?_); rintro e w' ⟨rfl, ⟨nd, rfl⟩⟩; refine ⟨_, rfl, ?_⟩))
  go_ret
  exact ⟨by first | rfl | (refine congrArg Ending.returned (congrArg Value.bool ?_); generalize ByteArray.toList _ = l_; cases l_ <;> rfl) | (simp; done) | (simp [*]; done), by repeat (first | exact Drawn0.refl _ | apply Drawn0.step)⟩

/-! ### impl_Marked: function 35 -/
def impl_Marked.f (a0 : Int) : Option (Int) := if a0 = 0 then (some (wrap64 (a0 + 1))) else ((impl_IsHandle.f a0).bind fun t105 => (if t105 = true then (if (Int.tmod a0 2) = 0 then (some (wrap64 (a0 + 1))) else (some a0)) else (some a0)))
set_option maxHeartbeats 8000000 in
set_option maxRecDepth 100000 in
theorem impl_Marked.calls (a0 : Int) (r : Int) (w : World) (h : impl_Marked.f a0 = some r) :
    Calls Tryd.prog 35 #[.int .i64 a0] w fun e w' => e = .returned (.int .i64 r) ∧ Drawn0 w w' := by
  have H : (if a0 = 0 then (some (wrap64 (a0 + 1))) else ((impl_IsHandle.f a0).bind fun t105 => (if t105 = true then (if (Int.tmod a0 2) = 0 then (some (wrap64 (a0 + 1))) else (some a0)) else (some a0)))) = some r := h
  clear h
  by_cases c2 : a0 = 0
  · rw [if_pos c2] at H
    have c2b0 : (a0 == 0) = true := beq_iff_eq.mpr c2
    have c2b1 : (a0 != 0) = false := bne_eq_false_iff_eq.mpr c2
    clear c2
    obtain rfl := Option.some.inj H
    go_enter Tryd.func35, Tryd.ntmps35
    go_wp2
    go_ret
    exact ⟨by first | rfl | (refine congrArg Ending.returned (congrArg Value.bool ?_); generalize ByteArray.toList _ = l_; cases l_ <;> rfl) | (simp; done) | (simp [*]; done), by repeat (first | exact Drawn0.refl _ | apply Drawn0.step)⟩
  · rw [if_neg c2] at H
    have c2b0 : (a0 == 0) = false := beq_eq_false_iff_ne.mpr c2
    have c2b1 : (a0 != 0) = true := bne_iff_ne.mpr c2
    replace H := Option.bind_eq_some_iff.mp H
    obtain ⟨t105, A30, H⟩ := H
    replace H : (if t105 = true then (if (Int.tmod a0 2) = 0 then (some (wrap64 (a0 + 1))) else (some a0)) else (some a0)) = some r := H
    have A3 := Aside0.mk A30
    clear A30
    by_cases c4 : t105 = true
    · subst c4
      have H1 : (if (Int.tmod a0 2) = 0 then (some (wrap64 (a0 + 1))) else (some a0)) = some r := by rw [if_pos rfl] at H; exact H
      clear H
      have H := H1
      clear H1
      by_cases c5 : (Int.tmod a0 2) = 0
      · rw [if_pos c5] at H
        have c5b0 : ((Int.tmod a0 2) == 0) = true := beq_iff_eq.mpr c5
        have c5b1 : ((Int.tmod a0 2) != 0) = false := bne_eq_false_iff_eq.mpr c5
        clear c5
        obtain rfl := Option.some.inj H
        go_enter Tryd.func35, Tryd.ntmps35
        go_wp2_with (first | (go_at_call 34; (with_reducible refine (impl_IsHandle.calls a0 true _ A3.out).mono ?_); rintro e w' ⟨rfl, ⟨nd, rfl⟩⟩))
        go_ret
        exact ⟨by first | rfl | (refine congrArg Ending.returned (congrArg Value.bool ?_); generalize ByteArray.toList _ = l_; cases l_ <;> rfl) | (simp; done) | (simp [*]; done), by repeat (first | exact Drawn0.refl _ | apply Drawn0.step)⟩
      · rw [if_neg c5] at H
        have c5b0 : ((Int.tmod a0 2) == 0) = false := beq_eq_false_iff_ne.mpr c5
        have c5b1 : ((Int.tmod a0 2) != 0) = true := bne_iff_ne.mpr c5
        obtain rfl := Option.some.inj H
        go_enter Tryd.func35, Tryd.ntmps35
        go_wp2_with (first | (go_at_call 34; (with_reducible refine (impl_IsHandle.calls a0 true _ A3.out).mono ?_); rintro e w' ⟨rfl, ⟨nd, rfl⟩⟩))
        go_ret
        exact ⟨by first | rfl | (refine congrArg Ending.returned (congrArg Value.bool ?_); generalize ByteArray.toList _ = l_; cases l_ <;> rfl) | (simp; done) | (simp [*]; done), by repeat (first | exact Drawn0.refl _ | apply Drawn0.step)⟩
    · replace c4 := Bool.eq_false_iff.mpr c4
      subst c4
      have H1 : (some a0) = some r := by rw [if_neg (show ¬ (false = true) by decide)] at H; exact H
      clear H
      have H := H1
      clear H1
      obtain rfl := Option.some.inj H
      go_enter Tryd.func35, Tryd.ntmps35
      go_wp2_with (first | (go_at_call 34; (with_reducible refine (impl_IsHandle.calls a0 false _ A3.out).mono ?_); rintro e w' ⟨rfl, ⟨nd, rfl⟩⟩))
      go_ret
      exact ⟨by first | rfl | (refine congrArg Ending.returned (congrArg Value.bool ?_); generalize ByteArray.toList _ = l_; cases l_ <;> rfl) | (simp; done) | (simp [*]; done), by repeat (first | exact Drawn0.refl _ | apply Drawn0.step)⟩

/-! ### impl_IndexOf: function 31 -/
def impl_IndexOf.f (a0 : Int) : Option (Int) := (impl_parts.f a0).bind fun bt106 => (some bt106.1)
set_option maxHeartbeats 8000000 in
set_option maxRecDepth 100000 in
theorem impl_IndexOf.calls (a0 : Int) (r : Int) (w : World) (h : impl_IndexOf.f a0 = some r) :
    Calls Tryd.prog 31 #[.int .i64 a0] w fun e w' => e = .returned (.int .i64 r) ∧ Drawn0 w w' := by
  have H : ((impl_parts.f a0).bind fun bt106 => (some bt106.1)) = some r := h
  clear h
  replace H := Option.bind_eq_some_iff.mp H
  obtain ⟨⟨t106, t107, t108⟩, A20, H⟩ := H
  replace H : (some t106) = some r := H
  have A2 := Aside0.mk A20
  clear A20
  obtain rfl := Option.some.inj H
  go_enter Tryd.func31, Tryd.ntmps31
  go_wp2_with (first | ((with_reducible refine gate_callee (f := 82) rfl ?_); refine goesL_ (some 8) rfl rfl Tryd.func82 (by kernel_rfl) rfl #[.int .i64 a0] rfl (by (try simp only [List.map_toArray, List.map_cons, List.map_nil]); first | done | rfl | (simp only [List.length_drop, List.length_take]; rfl)) ?_; (with_reducible refine (impl_parts.calls a0 t106 t107 t108 _ A2.out).mono ?_); rintro e w' ⟨rfl, ⟨nd, rfl⟩⟩; refine ⟨_, rfl, ?_⟩))
  go_ret
  exact ⟨by first | rfl | (refine congrArg Ending.returned (congrArg Value.bool ?_); generalize ByteArray.toList _ = l_; cases l_ <;> rfl) | (simp; done) | (simp [*]; done), by repeat (first | exact Drawn0.refl _ | apply Drawn0.step)⟩

/-! ### impl_GenerationOf: function 32 -/
def impl_GenerationOf.f (a0 : Int) : Option (Int) := (impl_parts.f a0).bind fun bt109 => (some bt109.2.1)
set_option maxHeartbeats 8000000 in
set_option maxRecDepth 100000 in
theorem impl_GenerationOf.calls (a0 : Int) (r : Int) (w : World) (h : impl_GenerationOf.f a0 = some r) :
    Calls Tryd.prog 32 #[.int .i64 a0] w fun e w' => e = .returned (.int .i64 r) ∧ Drawn0 w w' := by
  have H : ((impl_parts.f a0).bind fun bt109 => (some bt109.2.1)) = some r := h
  clear h
  replace H := Option.bind_eq_some_iff.mp H
  obtain ⟨⟨t109, t110, t111⟩, A20, H⟩ := H
  replace H : (some t110) = some r := H
  have A2 := Aside0.mk A20
  clear A20
  obtain rfl := Option.some.inj H
  go_enter Tryd.func32, Tryd.ntmps32
  go_wp2_with (first | ((with_reducible refine gate_callee (f := 82) rfl ?_); refine goesL_ (some 8) rfl rfl Tryd.func82 (by kernel_rfl) rfl #[.int .i64 a0] rfl (by (try simp only [List.map_toArray, List.map_cons, List.map_nil]); first | done | rfl | (simp only [List.length_drop, List.length_take]; rfl)) ?_; (with_reducible refine (impl_parts.calls a0 t109 t110 t111 _ A2.out).mono ?_); rintro e w' ⟨rfl, ⟨nd, rfl⟩⟩; refine ⟨_, rfl, ?_⟩))
  go_ret
  exact ⟨by first | rfl | (refine congrArg Ending.returned (congrArg Value.bool ?_); generalize ByteArray.toList _ = l_; cases l_ <;> rfl) | (simp; done) | (simp [*]; done), by repeat (first | exact Drawn0.refl _ | apply Drawn0.step)⟩

/-! ### impl_IsMarked: function 33 -/
def impl_IsMarked.f (a0 : Int) : Option (Bool) := if a0 = 1 then (some true) else ((impl_IsHandle.f a0).bind fun t112 => (if t112 = true then (some ((Int.tmod a0 2) == 1)) else (some false)))
set_option maxHeartbeats 8000000 in
set_option maxRecDepth 100000 in
theorem impl_IsMarked.calls (a0 : Int) (r : Bool) (w : World) (h : impl_IsMarked.f a0 = some r) :
    Calls Tryd.prog 33 #[.int .i64 a0] w fun e w' => e = .returned (.bool r) ∧ Drawn0 w w' := by
  have H : (if a0 = 1 then (some true) else ((impl_IsHandle.f a0).bind fun t112 => (if t112 = true then (some ((Int.tmod a0 2) == 1)) else (some false)))) = some r := h
  clear h
  by_cases c2 : a0 = 1
  · rw [if_pos c2] at H
    have c2b0 : (a0 == 1) = true := beq_iff_eq.mpr c2
    have c2b1 : (a0 != 1) = false := bne_eq_false_iff_eq.mpr c2
    clear c2
    obtain rfl := Option.some.inj H
    go_enter Tryd.func33, Tryd.ntmps33
    go_wp2
    go_ret
    exact ⟨by first | rfl | (refine congrArg Ending.returned (congrArg Value.bool ?_); generalize ByteArray.toList _ = l_; cases l_ <;> rfl) | (simp; done) | (simp [*]; done), by repeat (first | exact Drawn0.refl _ | apply Drawn0.step)⟩
  · rw [if_neg c2] at H
    have c2b0 : (a0 == 1) = false := beq_eq_false_iff_ne.mpr c2
    have c2b1 : (a0 != 1) = true := bne_iff_ne.mpr c2
    replace H := Option.bind_eq_some_iff.mp H
    obtain ⟨t112, A30, H⟩ := H
    replace H : (if t112 = true then (some ((Int.tmod a0 2) == 1)) else (some false)) = some r := H
    have A3 := Aside0.mk A30
    clear A30
    by_cases c4 : t112 = true
    · subst c4
      have H1 : (some ((Int.tmod a0 2) == 1)) = some r := by rw [if_pos rfl] at H; exact H
      clear H
      have H := H1
      clear H1
      obtain rfl := Option.some.inj H
      go_enter Tryd.func33, Tryd.ntmps33
      go_wp2_with (first | (go_at_call 34; (with_reducible refine (impl_IsHandle.calls a0 true _ A3.out).mono ?_); rintro e w' ⟨rfl, ⟨nd, rfl⟩⟩))
      go_ret
      exact ⟨by first | rfl | (refine congrArg Ending.returned (congrArg Value.bool ?_); generalize ByteArray.toList _ = l_; cases l_ <;> rfl) | (simp; done) | (simp [*]; done), by repeat (first | exact Drawn0.refl _ | apply Drawn0.step)⟩
    · replace c4 := Bool.eq_false_iff.mpr c4
      subst c4
      have H1 : (some false) = some r := by rw [if_neg (show ¬ (false = true) by decide)] at H; exact H
      clear H
      have H := H1
      clear H1
      obtain rfl := Option.some.inj H
      go_enter Tryd.func33, Tryd.ntmps33
      go_wp2_with (first | (go_at_call 34; (with_reducible refine (impl_IsHandle.calls a0 false _ A3.out).mono ?_); rintro e w' ⟨rfl, ⟨nd, rfl⟩⟩))
      go_ret
      exact ⟨by first | rfl | (refine congrArg Ending.returned (congrArg Value.bool ?_); generalize ByteArray.toList _ = l_; cases l_ <;> rfl) | (simp; done) | (simp [*]; done), by repeat (first | exact Drawn0.refl _ | apply Drawn0.step)⟩

/-! ### impl_FormatHandle: function 38 -/
def impl_FormatHandle.j0 : Nat → Int → ByteArray → Bool → Option (ByteArray)
  | 0, _, _, _ => none
  | k + 1, x0, x3, x15 => if x15 = true then (some (⟨#[]⟩ : ByteArray)) else ((impl_IsMarked.f x0).bind fun t119 => (if t119 = true then (if x3.size + 1 ≤ 9223372036854775807 then (some (x3 ++ (⟨#[42]⟩ : ByteArray))) else (none)) else (some x3)))
def impl_FormatHandle.f (k : Nat) (a0 : Int) : Option (ByteArray) := (impl_IsHandle.f a0).bind fun t113 => (if t113 = true then ((impl_IndexOf.f a0).bind fun t114 => ((impl_FormatInt.f t114).bind fun t115 => (if t115.size + 1 ≤ 9223372036854775807 then ((impl_GenerationOf.f a0).bind fun t116 => ((impl_FormatInt.f t116).bind fun t117 => (if (t115 ++ (⟨#[46]⟩ : ByteArray)).size + t117.size ≤ 9223372036854775807 then ((impl_IsMarked.f a0).bind fun t118 => (if t118 = true then (if ((t115 ++ (⟨#[46]⟩ : ByteArray)) ++ t117).size + 1 ≤ 9223372036854775807 then (some (((t115 ++ (⟨#[46]⟩ : ByteArray)) ++ t117) ++ (⟨#[42]⟩ : ByteArray))) else (none)) else (some ((t115 ++ (⟨#[46]⟩ : ByteArray)) ++ t117)))) else (none)))) else (none)))) else (if a0 = 0 then (impl_FormatHandle.j0 k a0 (⟨#[110, 111, 110, 101]⟩ : ByteArray) false) else (impl_FormatHandle.j0 k a0 (⟨#[110, 111, 110, 101]⟩ : ByteArray) (a0 != 1))))
theorem impl_FormatHandle.mono_l : ∀ k, (∀ y0 y1 y2, LeO (impl_FormatHandle.j0 k y0 y1 y2) (impl_FormatHandle.j0 (k + 1) y0 y1 y2))
  | 0 => fun _ _ _ r h => by simp [impl_FormatHandle.j0] at h
  | k + 1 => by
    have ih0 := impl_FormatHandle.mono_l k
    · intro y0 y1 y2
      unfold impl_FormatHandle.j0
      repeat' first
      | (with_reducible exact ih0 _ _ _)
      | (with_reducible exact LeO.refl _)
      | (with_reducible exact LeO.none _)
      | (with_reducible refine LeO.ite ?_ ?_)
      | (with_reducible refine LeO.bind ?_ (fun _ => ?_))
      | exact ih0 _ _ _
      | exact LeO.none _
      | refine LeO.ite ?_ ?_
      | refine LeO.bind ?_ (fun _ => ?_)
theorem impl_FormatHandle.mono : ∀ a0 k, LeO (impl_FormatHandle.f k a0) (impl_FormatHandle.f (k + 1) a0) := by
  intro a0 k
  have ih0 := impl_FormatHandle.mono_l k
  unfold impl_FormatHandle.f
  repeat' first
      | (with_reducible exact ih0 _ _ _)
      | (with_reducible exact LeO.refl _)
      | (with_reducible exact LeO.none _)
      | (with_reducible refine LeO.ite ?_ ?_)
      | (with_reducible refine LeO.bind ?_ (fun _ => ?_))
      | exact ih0 _ _ _
      | exact LeO.none _
      | refine LeO.ite ?_ ?_
      | refine LeO.bind ?_ (fun _ => ?_)
set_option maxHeartbeats 8000000 in
set_option maxRecDepth 100000 in
theorem impl_FormatHandle.calls (k : Nat) (a0 : Int) (r : ByteArray) (w : World) (hF : Fit w) (h : impl_FormatHandle.f k a0 = some r) :
    Calls Tryd.prog 38 #[.int .i64 a0] w fun e w' => e = .returned (.string r) ∧ Below w.heap.size w w' := by
  have HF := Aside0.mk hF
  clear hF
  have HB := Aside0.mk (Below.refl w.heap.size w)
  have H : ((impl_IsHandle.f a0).bind fun t113 => (if t113 = true then ((impl_IndexOf.f a0).bind fun t114 => ((impl_FormatInt.f t114).bind fun t115 => (if t115.size + 1 ≤ 9223372036854775807 then ((impl_GenerationOf.f a0).bind fun t116 => ((impl_FormatInt.f t116).bind fun t117 => (if (t115 ++ (⟨#[46]⟩ : ByteArray)).size + t117.size ≤ 9223372036854775807 then ((impl_IsMarked.f a0).bind fun t118 => (if t118 = true then (if ((t115 ++ (⟨#[46]⟩ : ByteArray)) ++ t117).size + 1 ≤ 9223372036854775807 then (some (((t115 ++ (⟨#[46]⟩ : ByteArray)) ++ t117) ++ (⟨#[42]⟩ : ByteArray))) else (none)) else (some ((t115 ++ (⟨#[46]⟩ : ByteArray)) ++ t117)))) else (none)))) else (none)))) else (if a0 = 0 then (impl_FormatHandle.j0 k a0 (⟨#[110, 111, 110, 101]⟩ : ByteArray) false) else (impl_FormatHandle.j0 k a0 (⟨#[110, 111, 110, 101]⟩ : ByteArray) (a0 != 1))))) = some r := h
  clear h
  replace H := Option.bind_eq_some_iff.mp H
  obtain ⟨t113, A20, H⟩ := H
  replace H : (if t113 = true then ((impl_IndexOf.f a0).bind fun t114 => ((impl_FormatInt.f t114).bind fun t115 => (if t115.size + 1 ≤ 9223372036854775807 then ((impl_GenerationOf.f a0).bind fun t116 => ((impl_FormatInt.f t116).bind fun t117 => (if (t115 ++ (⟨#[46]⟩ : ByteArray)).size + t117.size ≤ 9223372036854775807 then ((impl_IsMarked.f a0).bind fun t118 => (if t118 = true then (if ((t115 ++ (⟨#[46]⟩ : ByteArray)) ++ t117).size + 1 ≤ 9223372036854775807 then (some (((t115 ++ (⟨#[46]⟩ : ByteArray)) ++ t117) ++ (⟨#[42]⟩ : ByteArray))) else (none)) else (some ((t115 ++ (⟨#[46]⟩ : ByteArray)) ++ t117)))) else (none)))) else (none)))) else (if a0 = 0 then (impl_FormatHandle.j0 k a0 (⟨#[110, 111, 110, 101]⟩ : ByteArray) false) else (impl_FormatHandle.j0 k a0 (⟨#[110, 111, 110, 101]⟩ : ByteArray) (a0 != 1)))) = some r := H
  have A2 := Aside0.mk A20
  clear A20
  by_cases c3 : t113 = true
  · subst c3
    have H1 : ((impl_IndexOf.f a0).bind fun t114 => ((impl_FormatInt.f t114).bind fun t115 => (if t115.size + 1 ≤ 9223372036854775807 then ((impl_GenerationOf.f a0).bind fun t116 => ((impl_FormatInt.f t116).bind fun t117 => (if (t115 ++ (⟨#[46]⟩ : ByteArray)).size + t117.size ≤ 9223372036854775807 then ((impl_IsMarked.f a0).bind fun t118 => (if t118 = true then (if ((t115 ++ (⟨#[46]⟩ : ByteArray)) ++ t117).size + 1 ≤ 9223372036854775807 then (some (((t115 ++ (⟨#[46]⟩ : ByteArray)) ++ t117) ++ (⟨#[42]⟩ : ByteArray))) else (none)) else (some ((t115 ++ (⟨#[46]⟩ : ByteArray)) ++ t117)))) else (none)))) else (none)))) = some r := by rw [if_pos rfl] at H; exact H
    clear H
    have H := H1
    clear H1
    replace H := Option.bind_eq_some_iff.mp H
    obtain ⟨t114, A40, H⟩ := H
    replace H : ((impl_FormatInt.f t114).bind fun t115 => (if t115.size + 1 ≤ 9223372036854775807 then ((impl_GenerationOf.f a0).bind fun t116 => ((impl_FormatInt.f t116).bind fun t117 => (if (t115 ++ (⟨#[46]⟩ : ByteArray)).size + t117.size ≤ 9223372036854775807 then ((impl_IsMarked.f a0).bind fun t118 => (if t118 = true then (if ((t115 ++ (⟨#[46]⟩ : ByteArray)) ++ t117).size + 1 ≤ 9223372036854775807 then (some (((t115 ++ (⟨#[46]⟩ : ByteArray)) ++ t117) ++ (⟨#[42]⟩ : ByteArray))) else (none)) else (some ((t115 ++ (⟨#[46]⟩ : ByteArray)) ++ t117)))) else (none)))) else (none))) = some r := H
    have A4 := Aside0.mk A40
    clear A40
    replace H := Option.bind_eq_some_iff.mp H
    obtain ⟨t115, A50, H⟩ := H
    replace H : (if t115.size + 1 ≤ 9223372036854775807 then ((impl_GenerationOf.f a0).bind fun t116 => ((impl_FormatInt.f t116).bind fun t117 => (if (t115 ++ (⟨#[46]⟩ : ByteArray)).size + t117.size ≤ 9223372036854775807 then ((impl_IsMarked.f a0).bind fun t118 => (if t118 = true then (if ((t115 ++ (⟨#[46]⟩ : ByteArray)) ++ t117).size + 1 ≤ 9223372036854775807 then (some (((t115 ++ (⟨#[46]⟩ : ByteArray)) ++ t117) ++ (⟨#[42]⟩ : ByteArray))) else (none)) else (some ((t115 ++ (⟨#[46]⟩ : ByteArray)) ++ t117)))) else (none)))) else (none)) = some r := H
    have A5 := Aside0.mk A50
    clear A50
    by_cases c6 : t115.size + 1 ≤ 9223372036854775807
    · rw [if_pos c6] at H
      have c6b0 := eq_true c6
      have c6b1 : decide (t115.size + 1 ≤ 9223372036854775807) = true := decide_eq_true c6
      try have c6b2 : (9223372036854775807 < t115.size + 1) = False := eq_false (Nat.not_lt.2 c6)
      replace H := Option.bind_eq_some_iff.mp H
      obtain ⟨t116, A70, H⟩ := H
      replace H : ((impl_FormatInt.f t116).bind fun t117 => (if (t115 ++ (⟨#[46]⟩ : ByteArray)).size + t117.size ≤ 9223372036854775807 then ((impl_IsMarked.f a0).bind fun t118 => (if t118 = true then (if ((t115 ++ (⟨#[46]⟩ : ByteArray)) ++ t117).size + 1 ≤ 9223372036854775807 then (some (((t115 ++ (⟨#[46]⟩ : ByteArray)) ++ t117) ++ (⟨#[42]⟩ : ByteArray))) else (none)) else (some ((t115 ++ (⟨#[46]⟩ : ByteArray)) ++ t117)))) else (none))) = some r := H
      have A7 := Aside0.mk A70
      clear A70
      replace H := Option.bind_eq_some_iff.mp H
      obtain ⟨t117, A80, H⟩ := H
      replace H : (if (t115 ++ (⟨#[46]⟩ : ByteArray)).size + t117.size ≤ 9223372036854775807 then ((impl_IsMarked.f a0).bind fun t118 => (if t118 = true then (if ((t115 ++ (⟨#[46]⟩ : ByteArray)) ++ t117).size + 1 ≤ 9223372036854775807 then (some (((t115 ++ (⟨#[46]⟩ : ByteArray)) ++ t117) ++ (⟨#[42]⟩ : ByteArray))) else (none)) else (some ((t115 ++ (⟨#[46]⟩ : ByteArray)) ++ t117)))) else (none)) = some r := H
      have A8 := Aside0.mk A80
      clear A80
      by_cases c9 : (t115 ++ (⟨#[46]⟩ : ByteArray)).size + t117.size ≤ 9223372036854775807
      · rw [if_pos c9] at H
        have c9b0 := eq_true c9
        have c9b1 : decide ((t115 ++ (⟨#[46]⟩ : ByteArray)).size + t117.size ≤ 9223372036854775807) = true := decide_eq_true c9
        try have c9b2 : (9223372036854775807 < (t115 ++ (⟨#[46]⟩ : ByteArray)).size + t117.size) = False := eq_false (Nat.not_lt.2 c9)
        have c9n := c9
        try simp [go_sem, -Nat.reduceLeDiff] at c9n
        try have c9b3 := eq_false (Nat.not_lt.2 c9n)
        replace H := Option.bind_eq_some_iff.mp H
        obtain ⟨t118, A100, H⟩ := H
        replace H : (if t118 = true then (if ((t115 ++ (⟨#[46]⟩ : ByteArray)) ++ t117).size + 1 ≤ 9223372036854775807 then (some (((t115 ++ (⟨#[46]⟩ : ByteArray)) ++ t117) ++ (⟨#[42]⟩ : ByteArray))) else (none)) else (some ((t115 ++ (⟨#[46]⟩ : ByteArray)) ++ t117))) = some r := H
        have A10 := Aside0.mk A100
        clear A100
        by_cases c11 : t118 = true
        · subst c11
          have H1 : (if ((t115 ++ (⟨#[46]⟩ : ByteArray)) ++ t117).size + 1 ≤ 9223372036854775807 then (some (((t115 ++ (⟨#[46]⟩ : ByteArray)) ++ t117) ++ (⟨#[42]⟩ : ByteArray))) else (none)) = some r := by rw [if_pos rfl] at H; exact H
          clear H
          have H := H1
          clear H1
          by_cases c12 : ((t115 ++ (⟨#[46]⟩ : ByteArray)) ++ t117).size + 1 ≤ 9223372036854775807
          · rw [if_pos c12] at H
            have c12b0 := eq_true c12
            have c12b1 : decide (((t115 ++ (⟨#[46]⟩ : ByteArray)) ++ t117).size + 1 ≤ 9223372036854775807) = true := decide_eq_true c12
            try have c12b2 : (9223372036854775807 < ((t115 ++ (⟨#[46]⟩ : ByteArray)) ++ t117).size + 1) = False := eq_false (Nat.not_lt.2 c12)
            have c12n := c12
            try simp [go_sem, -Nat.reduceLeDiff] at c12n
            try have c12b3 := eq_false (Nat.not_lt.2 c12n)
            obtain rfl := Option.some.inj H
            go_enter Tryd.func38, Tryd.ntmps38
            go_wp2_with (first | ((with_reducible refine gate_callee (f := 34) rfl ?_); refine goesL_ (some 6) rfl rfl Tryd.func34 (by kernel_rfl) rfl #[.int .i64 a0] rfl (by (try simp only [List.map_toArray, List.map_cons, List.map_nil]); first | done | rfl | (simp only [List.length_drop, List.length_take]; rfl)) ?_; (with_reducible refine (impl_IsHandle.calls a0 true _ A2.out).mono ?_); rintro e w' ⟨rfl, ⟨nd, rfl⟩⟩; refine ⟨_, rfl, ?_⟩) | ((with_reducible refine gate_callee (f := 31) rfl ?_); refine goesL_ (some 8) rfl rfl Tryd.func31 (by kernel_rfl) rfl #[.int .i64 a0] rfl (by (try simp only [List.map_toArray, List.map_cons, List.map_nil]); first | done | rfl | (simp only [List.length_drop, List.length_take]; rfl)) ?_; (with_reducible refine (impl_IndexOf.calls a0 t114 _ A4.out).mono ?_); rintro e w' ⟨rfl, ⟨nd, rfl⟩⟩; refine ⟨_, rfl, ?_⟩) | ((with_reducible refine gate_callee (f := 24) rfl ?_); refine goesL_ (some 9) rfl rfl Tryd.func24 (by kernel_rfl) rfl #[.int .i64 t114] rfl (by (try simp only [List.map_toArray, List.map_cons, List.map_nil]); first | done | rfl | (simp only [List.length_drop, List.length_take]; rfl)) ?_; (with_reducible refine (impl_FormatInt.calls (hF := Fit.below HF.out (by repeat (first | (with_reducible first | exact HB.out | apply below_alloc | apply pw_below_drewN | apply below_drew1) | exact HB.out))) t114 t115 _ A5.out).mono ?_); rintro e w13 ⟨rfl, hb⟩; refine ⟨_, rfl, ?_⟩; have n0_ := Aside0.mk (below_step (by repeat (first | (with_reducible first | exact HB.out | apply below_alloc | apply pw_below_drewN | apply below_drew1) | exact HB.out)) hb); clear HB; have HB := n0_; clear n0_; (try clear hb); (try clear hb2); (try clear hk); (try clear hi)) | ((with_reducible refine gate_callee (f := 32) rfl ?_); refine goesL_ (some 12) rfl rfl Tryd.func32 (by kernel_rfl) rfl #[.int .i64 a0] rfl (by (try simp only [List.map_toArray, List.map_cons, List.map_nil]); first | done | rfl | (simp only [List.length_drop, List.length_take]; rfl)) ?_; (with_reducible refine (impl_GenerationOf.calls a0 t116 _ A7.out).mono ?_); rintro e w' ⟨rfl, ⟨nd, rfl⟩⟩; refine ⟨_, rfl, ?_⟩) | ((with_reducible refine gate_callee (f := 24) rfl ?_); refine goesL_ (some 13) rfl rfl Tryd.func24 (by kernel_rfl) rfl #[.int .i64 t116] rfl (by (try simp only [List.map_toArray, List.map_cons, List.map_nil]); first | done | rfl | (simp only [List.length_drop, List.length_take]; rfl)) ?_; (with_reducible refine (impl_FormatInt.calls (hF := Fit.below HF.out (by repeat (first | (with_reducible first | exact HB.out | apply below_alloc | apply pw_below_drewN | apply below_drew1) | exact HB.out))) t116 t117 _ A8.out).mono ?_); rintro e w14 ⟨rfl, hb⟩; refine ⟨_, rfl, ?_⟩; have n0_ := Aside0.mk (below_step (by repeat (first | (with_reducible first | exact HB.out | apply below_alloc | apply pw_below_drewN | apply below_drew1) | exact HB.out)) hb); clear HB; have HB := n0_; clear n0_; (try clear hb); (try clear hb2); (try clear hk); (try clear hi)) | ((with_reducible refine gate_callee (f := 33) rfl ?_); refine goesL_ (some 23) rfl rfl Tryd.func33 (by kernel_rfl) rfl #[.int .i64 a0] rfl (by (try simp only [List.map_toArray, List.map_cons, List.map_nil]); first | done | rfl | (simp only [List.length_drop, List.length_take]; rfl)) ?_; (with_reducible refine (impl_IsMarked.calls a0 true _ A10.out).mono ?_); rintro e w' ⟨rfl, ⟨nd, rfl⟩⟩; refine ⟨_, rfl, ?_⟩))
            go_ret
            exact ⟨by first | rfl | (refine congrArg Ending.returned (congrArg Value.bool ?_); generalize ByteArray.toList _ = l_; cases l_ <;> rfl) | (simp [errW_none, errW_some] <;> rfl) | (simp [*, errW_none, errW_some] <;> rfl), by repeat (first | (with_reducible first | exact HB.out | apply below_alloc | apply pw_below_drewN | apply below_drew1) | exact HB.out)⟩
          · rw [if_neg c12] at H
            exact absurd H (by simp)
        · replace c11 := Bool.eq_false_iff.mpr c11
          subst c11
          have H1 : (some ((t115 ++ (⟨#[46]⟩ : ByteArray)) ++ t117)) = some r := by rw [if_neg (show ¬ (false = true) by decide)] at H; exact H
          clear H
          have H := H1
          clear H1
          obtain rfl := Option.some.inj H
          go_enter Tryd.func38, Tryd.ntmps38
          go_wp2_with (first | ((with_reducible refine gate_callee (f := 34) rfl ?_); refine goesL_ (some 6) rfl rfl Tryd.func34 (by kernel_rfl) rfl #[.int .i64 a0] rfl (by (try simp only [List.map_toArray, List.map_cons, List.map_nil]); first | done | rfl | (simp only [List.length_drop, List.length_take]; rfl)) ?_; (with_reducible refine (impl_IsHandle.calls a0 true _ A2.out).mono ?_); rintro e w' ⟨rfl, ⟨nd, rfl⟩⟩; refine ⟨_, rfl, ?_⟩) | ((with_reducible refine gate_callee (f := 31) rfl ?_); refine goesL_ (some 8) rfl rfl Tryd.func31 (by kernel_rfl) rfl #[.int .i64 a0] rfl (by (try simp only [List.map_toArray, List.map_cons, List.map_nil]); first | done | rfl | (simp only [List.length_drop, List.length_take]; rfl)) ?_; (with_reducible refine (impl_IndexOf.calls a0 t114 _ A4.out).mono ?_); rintro e w' ⟨rfl, ⟨nd, rfl⟩⟩; refine ⟨_, rfl, ?_⟩) | ((with_reducible refine gate_callee (f := 24) rfl ?_); refine goesL_ (some 9) rfl rfl Tryd.func24 (by kernel_rfl) rfl #[.int .i64 t114] rfl (by (try simp only [List.map_toArray, List.map_cons, List.map_nil]); first | done | rfl | (simp only [List.length_drop, List.length_take]; rfl)) ?_; (with_reducible refine (impl_FormatInt.calls (hF := Fit.below HF.out (by repeat (first | (with_reducible first | exact HB.out | apply below_alloc | apply pw_below_drewN | apply below_drew1) | exact HB.out))) t114 t115 _ A5.out).mono ?_); rintro e w15 ⟨rfl, hb⟩; refine ⟨_, rfl, ?_⟩; have n0_ := Aside0.mk (below_step (by repeat (first | (with_reducible first | exact HB.out | apply below_alloc | apply pw_below_drewN | apply below_drew1) | exact HB.out)) hb); clear HB; have HB := n0_; clear n0_; (try clear hb); (try clear hb2); (try clear hk); (try clear hi)) | ((with_reducible refine gate_callee (f := 32) rfl ?_); refine goesL_ (some 12) rfl rfl Tryd.func32 (by kernel_rfl) rfl #[.int .i64 a0] rfl (by (try simp only [List.map_toArray, List.map_cons, List.map_nil]); first | done | rfl | (simp only [List.length_drop, List.length_take]; rfl)) ?_; (with_reducible refine (impl_GenerationOf.calls a0 t116 _ A7.out).mono ?_); rintro e w' ⟨rfl, ⟨nd, rfl⟩⟩; refine ⟨_, rfl, ?_⟩) | ((with_reducible refine gate_callee (f := 24) rfl ?_); refine goesL_ (some 13) rfl rfl Tryd.func24 (by kernel_rfl) rfl #[.int .i64 t116] rfl (by (try simp only [List.map_toArray, List.map_cons, List.map_nil]); first | done | rfl | (simp only [List.length_drop, List.length_take]; rfl)) ?_; (with_reducible refine (impl_FormatInt.calls (hF := Fit.below HF.out (by repeat (first | (with_reducible first | exact HB.out | apply below_alloc | apply pw_below_drewN | apply below_drew1) | exact HB.out))) t116 t117 _ A8.out).mono ?_); rintro e w16 ⟨rfl, hb⟩; refine ⟨_, rfl, ?_⟩; have n0_ := Aside0.mk (below_step (by repeat (first | (with_reducible first | exact HB.out | apply below_alloc | apply pw_below_drewN | apply below_drew1) | exact HB.out)) hb); clear HB; have HB := n0_; clear n0_; (try clear hb); (try clear hb2); (try clear hk); (try clear hi)) | ((with_reducible refine gate_callee (f := 33) rfl ?_); refine goesL_ (some 23) rfl rfl Tryd.func33 (by kernel_rfl) rfl #[.int .i64 a0] rfl (by (try simp only [List.map_toArray, List.map_cons, List.map_nil]); first | done | rfl | (simp only [List.length_drop, List.length_take]; rfl)) ?_; (with_reducible refine (impl_IsMarked.calls a0 false _ A10.out).mono ?_); rintro e w' ⟨rfl, ⟨nd, rfl⟩⟩; refine ⟨_, rfl, ?_⟩))
          go_ret
          exact ⟨by first | rfl | (refine congrArg Ending.returned (congrArg Value.bool ?_); generalize ByteArray.toList _ = l_; cases l_ <;> rfl) | (simp [errW_none, errW_some] <;> rfl) | (simp [*, errW_none, errW_some] <;> rfl), by repeat (first | (with_reducible first | exact HB.out | apply below_alloc | apply pw_below_drewN | apply below_drew1) | exact HB.out)⟩
      · rw [if_neg c9] at H
        exact absurd H (by simp)
    · rw [if_neg c6] at H
      exact absurd H (by simp)
  · replace c3 := Bool.eq_false_iff.mpr c3
    subst c3
    have H1 : (if a0 = 0 then (impl_FormatHandle.j0 k a0 (⟨#[110, 111, 110, 101]⟩ : ByteArray) false) else (impl_FormatHandle.j0 k a0 (⟨#[110, 111, 110, 101]⟩ : ByteArray) (a0 != 1))) = some r := by rw [if_neg (show ¬ (false = true) by decide)] at H; exact H
    clear H
    have H := H1
    clear H1
    have HC17 := Aside0.mk H
    clear H
    go_enter Tryd.func38, Tryd.ntmps38
    go_upto_region 4 with (first | ((with_reducible refine gate_callee (f := 34) rfl ?_); refine goesL_ (some 6) rfl rfl Tryd.func34 (by kernel_rfl) rfl #[.int .i64 a0] rfl (by (try simp only [List.map_toArray, List.map_cons, List.map_nil]); first | done | rfl | (simp only [List.length_drop, List.length_take]; rfl)) ?_; (with_reducible refine (impl_IsHandle.calls a0 false _ A2.out).mono ?_); rintro e w' ⟨rfl, ⟨nd, rfl⟩⟩; refine ⟨_, rfl, ?_⟩))
    (try simp only [Act.put, List.setIfInBounds_toArray, List.set_cons_zero, List.set_cons_succ])
    go_cut [15] (fun v15 wc => ∃ (kq : Nat) (x15_16 : Bool), v15 = .bool x15_16 ∧ Aside0 (impl_FormatHandle.j0 kq a0 (⟨#[110, 111, 110, 101]⟩ : ByteArray) x15_16 = some r) ∧ Aside0 (kq ≤ k) ∧ Aside0 (Below w.heap.size w wc))
    case first =>
      have H := HC17.out
      clear HC17
      by_cases c18 : a0 = 0
      · rw [if_pos c18] at H
        have c18b0 : (a0 == 0) = true := beq_iff_eq.mpr c18
        have c18b1 : (a0 != 0) = false := bne_eq_false_iff_eq.mpr c18
        clear c18
        (first | rw [c18b0] | (simp only [i64_w, i32_w]; rw [c18b0]) | skip)
        have H' := Aside0.mk H
        clear H
        go_wp2
        go_meet
        case rel => exact ⟨_, (false), (by first | rfl | (simp; done) | (simp [*]; done)), H', ⟨by first | omega | exact Nat.le_refl _⟩, ⟨by repeat (first | (with_reducible first | exact HB.out | apply below_alloc | apply pw_below_drewN | apply below_drew1) | exact HB.out)⟩⟩
      · rw [if_neg c18] at H
        have c18b0 : (a0 == 0) = false := beq_eq_false_iff_ne.mpr c18
        have c18b1 : (a0 != 0) = true := bne_iff_ne.mpr c18
        (first | rw [c18b0] | (simp only [i64_w, i32_w]; rw [c18b0]) | skip)
        have H' := Aside0.mk H
        clear H
        go_wp2
        go_meet
        case rel => exact ⟨_, ((a0 != 1)), (by first | rfl | (simp; done) | (simp [*]; done)), H', ⟨by first | omega | exact Nat.le_refl _⟩, ⟨by repeat (first | (with_reducible first | exact HB.out | apply below_alloc | apply pw_below_drewN | apply below_drew1) | exact HB.out)⟩⟩
    case rest =>
      clear HC17
      try clear c1
      try clear c2
      try clear p2
      try clear c3
      try clear c6
      try clear c6b0
      try clear c6b1
      try clear c6b2
      try clear c9
      try clear c9b0
      try clear c9b1
      try clear c9b2
      try clear c11
      try clear c12
      try clear c12b0
      try clear c12b1
      try clear c12b2
      try clear c18
      try clear c18b0
      try clear c18b1
      obtain ⟨kq, x15_16, rfl, HA, HJ16, HB⟩ := hcut
      cases kq with
      | zero => exact absurd HA.out (by simp [impl_FormatHandle.j0])
      | succ kj16 =>
        have H := HA.out
        clear HA
        simp only [impl_FormatHandle.j0] at H
        by_cases c19 : x15_16 = true
        · subst c19
          have H1 : (some (⟨#[]⟩ : ByteArray)) = some r := by rw [if_pos rfl] at H; exact H
          clear H
          have H := H1
          clear H1
          obtain rfl := Option.some.inj H
          go_wp2
          go_ret
          exact ⟨by first | rfl | (refine congrArg Ending.returned (congrArg Value.bool ?_); generalize ByteArray.toList _ = l_; cases l_ <;> rfl) | (simp [errW_none, errW_some] <;> rfl) | (simp [*, errW_none, errW_some] <;> rfl), by repeat (first | (with_reducible first | exact HB.out | apply below_alloc | apply pw_below_drewN | apply below_drew1) | exact HB.out)⟩
        · replace c19 := Bool.eq_false_iff.mpr c19
          subst c19
          have H1 : ((impl_IsMarked.f a0).bind fun t119 => (if t119 = true then (if (⟨#[110, 111, 110, 101]⟩ : ByteArray).size + 1 ≤ 9223372036854775807 then (some ((⟨#[110, 111, 110, 101]⟩ : ByteArray) ++ (⟨#[42]⟩ : ByteArray))) else (none)) else (some (⟨#[110, 111, 110, 101]⟩ : ByteArray)))) = some r := by rw [if_neg (show ¬ (false = true) by decide)] at H; exact H
          clear H
          have H := H1
          clear H1
          replace H := Option.bind_eq_some_iff.mp H
          obtain ⟨t119, A200, H⟩ := H
          replace H : (if t119 = true then (if (⟨#[110, 111, 110, 101]⟩ : ByteArray).size + 1 ≤ 9223372036854775807 then (some ((⟨#[110, 111, 110, 101]⟩ : ByteArray) ++ (⟨#[42]⟩ : ByteArray))) else (none)) else (some (⟨#[110, 111, 110, 101]⟩ : ByteArray))) = some r := H
          have A20 := Aside0.mk A200
          clear A200
          by_cases c21 : t119 = true
          · subst c21
            have H1 : (if (⟨#[110, 111, 110, 101]⟩ : ByteArray).size + 1 ≤ 9223372036854775807 then (some ((⟨#[110, 111, 110, 101]⟩ : ByteArray) ++ (⟨#[42]⟩ : ByteArray))) else (none)) = some r := by rw [if_pos rfl] at H; exact H
            clear H
            have H := H1
            clear H1
            by_cases c22 : (⟨#[110, 111, 110, 101]⟩ : ByteArray).size + 1 ≤ 9223372036854775807
            · rw [if_pos c22] at H
              have c22b0 := eq_true c22
              have c22b1 : decide ((⟨#[110, 111, 110, 101]⟩ : ByteArray).size + 1 ≤ 9223372036854775807) = true := decide_eq_true c22
              try have c22b2 : (9223372036854775807 < (⟨#[110, 111, 110, 101]⟩ : ByteArray).size + 1) = False := eq_false (Nat.not_lt.2 c22)
              obtain rfl := Option.some.inj H
              go_wp2_with (first | ((with_reducible refine gate_callee (f := 33) rfl ?_); refine goesL_ (some 23) rfl rfl Tryd.func33 (by kernel_rfl) rfl #[.int .i64 a0] rfl (by (try simp only [List.map_toArray, List.map_cons, List.map_nil]); first | done | rfl | (simp only [List.length_drop, List.length_take]; rfl)) ?_; (with_reducible refine (impl_IsMarked.calls a0 true _ A20.out).mono ?_); rintro e w' ⟨rfl, ⟨nd, rfl⟩⟩; refine ⟨_, rfl, ?_⟩))
              go_ret
              exact ⟨by first | rfl | (refine congrArg Ending.returned (congrArg Value.bool ?_); generalize ByteArray.toList _ = l_; cases l_ <;> rfl) | (simp [errW_none, errW_some] <;> rfl) | (simp [*, errW_none, errW_some] <;> rfl), by repeat (first | (with_reducible first | exact HB.out | apply below_alloc | apply pw_below_drewN | apply below_drew1) | exact HB.out)⟩
            · rw [if_neg c22] at H
              exact absurd H (by simp)
          · replace c21 := Bool.eq_false_iff.mpr c21
            subst c21
            have H1 : (some (⟨#[110, 111, 110, 101]⟩ : ByteArray)) = some r := by rw [if_neg (show ¬ (false = true) by decide)] at H; exact H
            clear H
            have H := H1
            clear H1
            obtain rfl := Option.some.inj H
            go_wp2_with (first | ((with_reducible refine gate_callee (f := 33) rfl ?_); refine goesL_ (some 23) rfl rfl Tryd.func33 (by kernel_rfl) rfl #[.int .i64 a0] rfl (by (try simp only [List.map_toArray, List.map_cons, List.map_nil]); first | done | rfl | (simp only [List.length_drop, List.length_take]; rfl)) ?_; (with_reducible refine (impl_IsMarked.calls a0 false _ A20.out).mono ?_); rintro e w' ⟨rfl, ⟨nd, rfl⟩⟩; refine ⟨_, rfl, ?_⟩))
            go_ret
            exact ⟨by first | rfl | (refine congrArg Ending.returned (congrArg Value.bool ?_); generalize ByteArray.toList _ = l_; cases l_ <;> rfl) | (simp [errW_none, errW_some] <;> rfl) | (simp [*, errW_none, errW_some] <;> rfl), by repeat (first | (with_reducible first | exact HB.out | apply below_alloc | apply pw_below_drewN | apply below_drew1) | exact HB.out)⟩

/-! ### strings_CutSuffix: function 79 -/
def strings_CutSuffix.f (a0 : ByteArray) (a1 : ByteArray) : Option (ByteArray × Bool) := if a0.size ≤ 9223372036854775807 then some (⟨(Lib.trimSuffix a0.data.toList a1.data.toList).toArray⟩, Lib.hasSuffix a0.data.toList a1.data.toList) else none
theorem strings_CutSuffix.calls (a0 : ByteArray) (a1 : ByteArray) (r1 : ByteArray) (r2 : Bool) (w : World) (h : strings_CutSuffix.f a0 a1 = some (r1, r2)) :
    Calls Tryd.prog 79 #[.string a0, .string a1] w fun e w' => e = .returned (.tuple #[.string r1, .bool r2]) ∧ Drawn0 w w' := by
  unfold strings_CutSuffix.f at h
  by_cases hc : a0.size ≤ 9223372036854775807
  · rw [if_pos hc] at h
    simp only [Option.some.injEq, Prod.mk.injEq] at h
    obtain ⟨rfl, rfl⟩ := h
    refine (Tryd.strings_CutSuffix a0 a1 w hc).mono ?_
    rintro e w' ⟨he, hw⟩
    subst hw
    exact ⟨he, Drawn0.refl _⟩
  · rw [if_neg hc] at h
    cases h

/-! ### strings_Cut: function 80 -/
def strings_Cut.f (a0 : ByteArray) (a1 : ByteArray) : Option (ByteArray × ByteArray × Bool) := if a0.size < 4294967281 then some (⟨(Lib.cut a0.data.toList a1.data.toList).1.toArray⟩, ⟨(Lib.cut a0.data.toList a1.data.toList).2.1.toArray⟩, (Lib.cut a0.data.toList a1.data.toList).2.2) else none
theorem strings_Cut.calls (a0 : ByteArray) (a1 : ByteArray) (r1 : ByteArray) (r2 : ByteArray) (r3 : Bool) (w : World) (hF : Fit w) (h : strings_Cut.f a0 a1 = some (r1, r2, r3)) :
    Calls Tryd.prog 80 #[.string a0, .string a1] w fun e w' => e = .returned (.tuple #[.string r1, .string r2, .bool r3]) ∧ Below w.heap.size w w' := by
  unfold strings_Cut.f at h
  by_cases hc : a0.size < 4294967281
  · rw [if_pos hc] at h
    simp only [Option.some.injEq, Prod.mk.injEq] at h
    obtain ⟨rfl, rfl, rfl⟩ := h
    refine (Tryd.strings_Cut_shaped a0 a1 w hF.1 hc).mono ?_
    rintro e w' ⟨he, n, rfl⟩
    exact ⟨he, pw_below_drewN (Below.refl _ w) n⟩
  · rw [if_neg hc] at h
    cases h

end Go.Proofs.YtbenihcaleiacabDoor.GFnHandles
