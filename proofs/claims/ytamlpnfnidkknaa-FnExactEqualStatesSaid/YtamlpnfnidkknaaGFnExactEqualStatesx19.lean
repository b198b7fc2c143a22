/- Of the law FnExactEqualStates' own Go function: a Lean function, and the proof that the call comes to just its answer. Typed by hand. No condition. -/
import Derived.Test.YtamlpnfnidkknaaGFnExactEqualStatesx18
import Derived.Test.YtamlpnfnidkknaaGFnExactEqualStatesx12
namespace Go.Proofs.Ytamlpnfnidkknaa.GFnExactEqualStates
open Go.RowKit Go.Proofs.YtamlpnfnidkknaaW.PrintWords Go.Proofs.YtamlpnfnidkknaaW.PrintLast Go.Proofs.YtamlpnfnidkknaaW.PrintMore
set_option linter.unusedVariables false
set_option linter.unusedSimpArgs false
theorem R_past {α : Type} {d : Kd α} {e base g : Nat} {ok : Nat → Prop} {v : Value} {xs : List α} {W W1 W2 : World} (h : d.R e W base ok v xs) (hb : Below W.heap.size W W1) (hg : W.heap.size ≤ g) (hk : Kept W1 W2 (fun k => k = g)) : d.R e W2 base (fun k => ok k ∧ k < W.heap.size) v xs :=
  Kd.R_kept (Kd.R_mono (Kd.R_below (Kd.R_bound h) hb) (fun _ hk => ⟨hk.1, hk.2.2.1⟩)) hk (fun k hk he => by have := hk.2; omega)
theorem S_past {α : Type} {d : Kd α} {e base g : Nat} {ok : Nat → Prop} {v : Value} {xs : List α} {W W1 W2 : World} (h : Kd.S d e W base ok v xs) (hb : Below W.heap.size W W1) (hg : W.heap.size ≤ g) (hk : Kept W1 W2 (fun k => k = g)) : Kd.S d e W2 base (fun k => ok k ∧ k < W.heap.size) v xs :=
  Kd.S_kept (Kd.S_mono (Kd.S_below (Kd.S_bound h) hb) (fun _ hk => ⟨hk.1, hk.2.2.1⟩)) hk (fun k hk he => by have := hk.2; omega)
def laws_FnExactEqualStates.f (k : Nat) (a0 a1 a2 a3 a4 a5 : Int) (l6 l7 : List Int) (l8 : List S29) (a9 a10 a11 a12 b0 b1 b2 b3 b4 b5 : Int) (m6 m7 : List Int) (m8 : List S29) (b9 b10 b11 b12 : Int) : Option Bool :=
  (laws_szState.f k a0 a1 a2 a3 a4 a5 l6 l7 l8 a9 a10 a11 a12 1048576).bind fun s => if s < 0 then some true else ((laws_szState.f k b0 b1 b2 b3 b4 b5 m6 m7 m8 b9 b10 b11 b12 s).bind fun s2 => if s2 < 0 then some true else
    ((laws_toState.f k a0 a1 a2 a3 a4 a5 l6 l7 l8 a9 a10 a11 a12).bind fun p => ((laws_toState.f k b0 b1 b2 b3 b4 b5 m6 m7 m8 b9 b10 b11 b12).bind fun q =>
      ((spec_l7Ints.f k p.2.2.2.2.2.2.1 q.2.2.2.2.2.2.1).bind fun t6 => ((spec_l7Ints.f k p.2.2.2.2.2.2.2.1 q.2.2.2.2.2.2.2.1).bind fun t7 => ((if (p.2.2.2.2.2.2.2.2.1.length : Int) = (q.2.2.2.2.2.2.2.2.1.length : Int) then spec_EqualStates.l0 k p.2.2.2.2.2.2.2.2.1 q.2.2.2.2.2.2.2.2.1 0 else some false).bind fun t8 =>
        ((slices_Equal_int_int.f k p.2.2.2.2.2.2.1 q.2.2.2.2.2.2.1).bind fun u6 => ((slices_Equal_int_int.f k p.2.2.2.2.2.2.2.1 q.2.2.2.2.2.2.2.1).bind fun u7 => ((slices_EqualFunc.f k p.2.2.2.2.2.2.2.2.1 q.2.2.2.2.2.2.2.2.1).bind fun u8 =>
          if allB (cfgB p.1 p.2.1 p.2.2.1 p.2.2.2.1 p.2.2.2.2.1 p.2.2.2.2.2.1 q.1 q.2.1 q.2.2.1 q.2.2.2.1 q.2.2.2.2.1 q.2.2.2.2.2.1) u6 u7 u8 (p.2.2.2.2.2.2.2.2.2.1 == q.2.2.2.2.2.2.2.2.2.1) (p.2.2.2.2.2.2.2.2.2.2.1 == q.2.2.2.2.2.2.2.2.2.2.1) (p.2.2.2.2.2.2.2.2.2.2.2.1 == q.2.2.2.2.2.2.2.2.2.2.2.1) (p.2.2.2.2.2.2.2.2.2.2.2.2 == q.2.2.2.2.2.2.2.2.2.2.2.2) = allS (cfgB p.1 p.2.1 p.2.2.1 p.2.2.2.1 p.2.2.2.2.1 p.2.2.2.2.2.1 q.1 q.2.1 q.2.2.1 q.2.2.2.1 q.2.2.2.2.1 q.2.2.2.2.2.1) t6 t7 (p.2.2.2.2.2.2.2.2.2.1 == q.2.2.2.2.2.2.2.2.2.1) (p.2.2.2.2.2.2.2.2.2.2.1 == q.2.2.2.2.2.2.2.2.2.2.1) (p.2.2.2.2.2.2.2.2.2.2.2.1 == q.2.2.2.2.2.2.2.2.2.2.2.1) (p.2.2.2.2.2.2.2.2.2.2.2.2 == q.2.2.2.2.2.2.2.2.2.2.2.2) ((p.2.2.2.2.2.2.2.2.1.length : Int) == (q.2.2.2.2.2.2.2.2.1.length : Int)) t8 then
            ((laws_eqState.f k p.1 p.2.1 p.2.2.1 p.2.2.2.1 p.2.2.2.2.1 p.2.2.2.2.2.1 p.2.2.2.2.2.2.1 p.2.2.2.2.2.2.2.1 p.2.2.2.2.2.2.2.2.1 p.2.2.2.2.2.2.2.2.2.1 p.2.2.2.2.2.2.2.2.2.2.1 p.2.2.2.2.2.2.2.2.2.2.2.1 p.2.2.2.2.2.2.2.2.2.2.2.2 p.1 p.2.1 p.2.2.1 p.2.2.2.1 p.2.2.2.2.1 p.2.2.2.2.2.1 p.2.2.2.2.2.2.1 p.2.2.2.2.2.2.2.1 p.2.2.2.2.2.2.2.2.1 p.2.2.2.2.2.2.2.2.2.1 p.2.2.2.2.2.2.2.2.2.2.1 p.2.2.2.2.2.2.2.2.2.2.2.1 p.2.2.2.2.2.2.2.2.2.2.2.2).bind fun e => if e = true then
              ((laws_eqState.f k q.1 q.2.1 q.2.2.1 q.2.2.2.1 q.2.2.2.2.1 q.2.2.2.2.2.1 q.2.2.2.2.2.2.1 q.2.2.2.2.2.2.2.1 q.2.2.2.2.2.2.2.2.1 q.2.2.2.2.2.2.2.2.2.1 q.2.2.2.2.2.2.2.2.2.2.1 q.2.2.2.2.2.2.2.2.2.2.2.1 q.2.2.2.2.2.2.2.2.2.2.2.2 q.1 q.2.1 q.2.2.1 q.2.2.2.1 q.2.2.2.2.1 q.2.2.2.2.2.1 q.2.2.2.2.2.2.1 q.2.2.2.2.2.2.2.1 q.2.2.2.2.2.2.2.2.1 q.2.2.2.2.2.2.2.2.2.1 q.2.2.2.2.2.2.2.2.2.2.1 q.2.2.2.2.2.2.2.2.2.2.2.1 q.2.2.2.2.2.2.2.2.2.2.2.2).bind fun e2 => if e2 = true then some true else none) else none) else none)))))))))
set_option maxHeartbeats 16000000 in
set_option maxRecDepth 100000 in
theorem laws_FnExactEqualStates.calls (k : Nat) (a0 a1 a2 a3 a4 a5 : Int) (A6 : Option Addr) (c6 : Nat) (l6 : List Int) (A7 : Option Addr) (c7 : Nat) (l7 : List Int) (A8 : Option Addr) (c8 : Nat) (l8 : List S29) (a9 a10 a11 a12 : Int) (b0 b1 b2 b3 b4 b5 : Int) (B6 : Option Addr) (d6 : Nat) (m6 : List Int) (B7 : Option Addr) (d7 : Nat) (m7 : List Int) (B8 : Option Addr) (d8 : Nat) (m8 : List S29) (b9 b10 b11 b12 : Int) (r : Bool) (w : World) (ra6 : Kd.C (Kd.int .i64) w A6 l6.length l6) (qa6 : l6.length ≤ c6) (ra7 : Kd.C (Kd.int .i64) w A7 l7.length l7) (qa7 : l7.length ≤ c7) (ra8 : Kd.C k29 w A8 l8.length l8) (qa8 : l8.length ≤ c8) (rb6 : Kd.C (Kd.int .i64) w B6 m6.length m6) (qb6 : m6.length ≤ d6) (rb7 : Kd.C (Kd.int .i64) w B7 m7.length m7) (qb7 : m7.length ≤ d7) (rb8 : Kd.C k29 w B8 m8.length m8) (qb8 : m8.length ≤ d8) (h : laws_FnExactEqualStates.f k a0 a1 a2 a3 a4 a5 l6 l7 l8 a9 a10 a11 a12 b0 b1 b2 b3 b4 b5 m6 m7 m8 b9 b10 b11 b12 = some r) :
    Calls Try.prog 4 #[.agg #[.int .i64 a0, .int .i64 a1, .int .i64 a2, .int .i64 a3, .int .i64 a4, .int .i64 a5, .slice A6 l6.length c6, .slice A7 l7.length c7, .slice A8 l8.length c8, .int .i64 a9, .int .i64 a10, .int .i64 a11, .int .i64 a12], .agg #[.int .i64 b0, .int .i64 b1, .int .i64 b2, .int .i64 b3, .int .i64 b4, .int .i64 b5, .slice B6 m6.length d6, .slice B7 m7.length d7, .slice B8 m8.length d8, .int .i64 b9, .int .i64 b10, .int .i64 b11, .int .i64 b12]] w fun e w' => e = .returned (.bool r) ∧ Below w.heap.size w w' := by
  have hu1 := Try.underlying49
  have hu2 := Try.underlying43
  have RA6 := Aside0.mk ra6
  have RA7 := Aside0.mk ra7
  have RA8 := Aside0.mk ra8
  have RB6 := Aside0.mk rb6
  have RB7 := Aside0.mk rb7
  have RB8 := Aside0.mk rb8
  have QA6 := Aside0.mk qa6
  have QA7 := Aside0.mk qa7
  have QA8 := Aside0.mk qa8
  have QB6 := Aside0.mk qb6
  have QB7 := Aside0.mk qb7
  have QB8 := Aside0.mk qb8
  have HW := Aside0.mk (Below.refl w.heap.size w)
  clear ra6 qa6 ra7 qa7 ra8 qa8 rb6 qb6 rb7 qb7 rb8 qb8
  unfold laws_FnExactEqualStates.f at h
  replace h := Option.bind_eq_some_iff.mp h
  obtain ⟨s, Hs0, h⟩ := h
  have Hs := Aside0.mk Hs0
  clear Hs0
  by_cases c1 : s < 0
  · rw [if_pos c1] at h
    obtain rfl := Option.some.inj h
    have c1b : decide (s < 0) = true := decide_eq_true c1
    clear c1 h
    go_enter Try.func4, Try.ntmps4
    go_wp2_with (first | ((with_reducible refine gate_dst (N := 2) rfl ?_); refine box_event ?hg (N := 2) ?hd (cs := #[.int .i64 a0, .int .i64 a1, .int .i64 a2, .int .i64 a3, .int .i64 a4, .int .i64 a5, .slice A6 l6.length c6, .slice A7 l7.length c7, .slice A8 l8.length c8, .int .i64 a9, .int .i64 a10, .int .i64 a11, .int .i64 a12]) (t := 43) ?hr ?_; (case hd => rfl); (case hg => rfl); (case hr => first | (go_simp; done) | (go_simp; rfl)); intro gb2 hg w1 hbox hb; have BK2 := Aside0.mk hbox; have n_ := Aside0.mk (below_step HW.out hb); clear HW; have HW := n_; clear n_; clear hbox hb hg) | ((with_reducible refine gate_dst (N := 3) rfl ?_); refine box_event ?hg (N := 3) ?hd (cs := #[.int .i64 b0, .int .i64 b1, .int .i64 b2, .int .i64 b3, .int .i64 b4, .int .i64 b5, .slice B6 m6.length d6, .slice B7 m7.length d7, .slice B8 m8.length d8, .int .i64 b9, .int .i64 b10, .int .i64 b11, .int .i64 b12]) (t := 43) ?hr ?_; (case hd => rfl); (case hg => rfl); (case hr => first | (go_simp; done) | (go_simp; rfl)); intro gb3 hg w2 hbox hb; have BK3 := Aside0.mk hbox; have n2_ := Aside0.mk (blk_below BK2.out hb); clear BK2; have BK2 := n2_; clear n2_; have n_ := Aside0.mk (below_step HW.out hb); clear HW; have HW := n_; clear n_; have HM := Aside0.mk (Below.refl w2.heap.size w2); clear hbox hb hg) | ((with_reducible refine gate_dst (N := 10) rfl ?_); (try simp only [Act.put, List.setIfInBounds_toArray, List.set_cons_zero, List.set_cons_succ]); refine load_whole gb2 (cs := [.int .i64 a0, .int .i64 a1, .int .i64 a2, .int .i64 a3, .int .i64 a4, .int .i64 a5, .slice A6 l6.length c6, .slice A7 l7.length c7, .slice A8 l8.length c8, .int .i64 a9, .int .i64 a10, .int .i64 a11, .int .i64 a12]) (t0 := 43) (blk_below BK2.out HM.out) rfl 43 (.tmp 2) rfl rfl _ Try.underlying43 rfl (by kernel_rfl) ?_) | ((with_reducible refine gate_callee (f := 11) rfl ?_); refine goesL_ (some 12) rfl rfl Try.func11 (by kernel_rfl) rfl #[.agg #[.int .i64 a0, .int .i64 a1, .int .i64 a2, .int .i64 a3, .int .i64 a4, .int .i64 a5, .slice A6 l6.length c6, .slice A7 l7.length c7, .slice A8 l8.length c8, .int .i64 a9, .int .i64 a10, .int .i64 a11, .int .i64 a12], .int .i64 1048576] rfl (by (try simp only [List.map_toArray, List.map_cons, List.map_nil]); first | done | rfl) ?_; (with_reducible refine (laws_szState.calls k a0 a1 a2 a3 a4 a5 _ _ l6 _ _ l7 _ _ l8 a9 a10 a11 a12 1048576 s _ (Kd.C_below RA6.out (below_step HW.out HM.out)) QA6.out (Kd.C_below RA7.out (below_step HW.out HM.out)) QA7.out (Kd.C_below RA8.out (below_step HW.out HM.out)) QA8.out Hs.out).mono ?_); rintro e w3 ⟨rfl, hb⟩; refine ⟨_, rfl, ?_⟩; have n_ := Aside0.mk (below_step HM.out hb); clear HM; have HM := n_; clear n_; clear hb))
    go_ret
    exact ⟨rfl, below_step HW.out HM.out⟩
  rw [if_neg c1] at h
  have c1b : decide (s < 0) = false := decide_eq_false c1
  clear c1
  replace h := Option.bind_eq_some_iff.mp h
  obtain ⟨s2, Hs20, h⟩ := h
  have Hs2 := Aside0.mk Hs20
  clear Hs20
  by_cases c2 : s2 < 0
  · rw [if_pos c2] at h
    obtain rfl := Option.some.inj h
    have c2b : decide (s2 < 0) = true := decide_eq_true c2
    clear c2 h
    go_enter Try.func4, Try.ntmps4
    go_wp2_with (first | ((with_reducible refine gate_dst (N := 2) rfl ?_); refine box_event ?hg (N := 2) ?hd (cs := #[.int .i64 a0, .int .i64 a1, .int .i64 a2, .int .i64 a3, .int .i64 a4, .int .i64 a5, .slice A6 l6.length c6, .slice A7 l7.length c7, .slice A8 l8.length c8, .int .i64 a9, .int .i64 a10, .int .i64 a11, .int .i64 a12]) (t := 43) ?hr ?_; (case hd => rfl); (case hg => rfl); (case hr => first | (go_simp; done) | (go_simp; rfl)); intro gb2 hg w1 hbox hb; have BK2 := Aside0.mk hbox; have n_ := Aside0.mk (below_step HW.out hb); clear HW; have HW := n_; clear n_; clear hbox hb hg) | ((with_reducible refine gate_dst (N := 3) rfl ?_); refine box_event ?hg (N := 3) ?hd (cs := #[.int .i64 b0, .int .i64 b1, .int .i64 b2, .int .i64 b3, .int .i64 b4, .int .i64 b5, .slice B6 m6.length d6, .slice B7 m7.length d7, .slice B8 m8.length d8, .int .i64 b9, .int .i64 b10, .int .i64 b11, .int .i64 b12]) (t := 43) ?hr ?_; (case hd => rfl); (case hg => rfl); (case hr => first | (go_simp; done) | (go_simp; rfl)); intro gb3 hg w2 hbox hb; have BK3 := Aside0.mk hbox; have n2_ := Aside0.mk (blk_below BK2.out hb); clear BK2; have BK2 := n2_; clear n2_; have n_ := Aside0.mk (below_step HW.out hb); clear HW; have HW := n_; clear n_; have HM := Aside0.mk (Below.refl w2.heap.size w2); clear hbox hb hg) | ((with_reducible refine gate_dst (N := 10) rfl ?_); (try simp only [Act.put, List.setIfInBounds_toArray, List.set_cons_zero, List.set_cons_succ]); refine load_whole gb2 (cs := [.int .i64 a0, .int .i64 a1, .int .i64 a2, .int .i64 a3, .int .i64 a4, .int .i64 a5, .slice A6 l6.length c6, .slice A7 l7.length c7, .slice A8 l8.length c8, .int .i64 a9, .int .i64 a10, .int .i64 a11, .int .i64 a12]) (t0 := 43) (blk_below BK2.out HM.out) rfl 43 (.tmp 2) rfl rfl _ Try.underlying43 rfl (by kernel_rfl) ?_) | ((with_reducible refine gate_dst (N := 15) rfl ?_); (try simp only [Act.put, List.setIfInBounds_toArray, List.set_cons_zero, List.set_cons_succ]); refine load_whole gb3 (cs := [.int .i64 b0, .int .i64 b1, .int .i64 b2, .int .i64 b3, .int .i64 b4, .int .i64 b5, .slice B6 m6.length d6, .slice B7 m7.length d7, .slice B8 m8.length d8, .int .i64 b9, .int .i64 b10, .int .i64 b11, .int .i64 b12]) (t0 := 43) (blk_below BK3.out HM.out) rfl 43 (.tmp 3) rfl rfl _ Try.underlying43 rfl (by kernel_rfl) ?_) | ((with_reducible refine gate_callee (f := 11) rfl ?_); refine goesL_ (some 12) rfl rfl Try.func11 (by kernel_rfl) rfl #[.agg #[.int .i64 a0, .int .i64 a1, .int .i64 a2, .int .i64 a3, .int .i64 a4, .int .i64 a5, .slice A6 l6.length c6, .slice A7 l7.length c7, .slice A8 l8.length c8, .int .i64 a9, .int .i64 a10, .int .i64 a11, .int .i64 a12], .int .i64 1048576] rfl (by (try simp only [List.map_toArray, List.map_cons, List.map_nil]); first | done | rfl) ?_; (with_reducible refine (laws_szState.calls k a0 a1 a2 a3 a4 a5 _ _ l6 _ _ l7 _ _ l8 a9 a10 a11 a12 1048576 s _ (Kd.C_below RA6.out (below_step HW.out HM.out)) QA6.out (Kd.C_below RA7.out (below_step HW.out HM.out)) QA7.out (Kd.C_below RA8.out (below_step HW.out HM.out)) QA8.out Hs.out).mono ?_); rintro e w3 ⟨rfl, hb⟩; refine ⟨_, rfl, ?_⟩; have n_ := Aside0.mk (below_step HM.out hb); clear HM; have HM := n_; clear n_; clear hb) | ((with_reducible refine gate_callee (f := 11) rfl ?_); refine goesL_ (some 17) rfl rfl Try.func11 (by kernel_rfl) rfl #[.agg #[.int .i64 b0, .int .i64 b1, .int .i64 b2, .int .i64 b3, .int .i64 b4, .int .i64 b5, .slice B6 m6.length d6, .slice B7 m7.length d7, .slice B8 m8.length d8, .int .i64 b9, .int .i64 b10, .int .i64 b11, .int .i64 b12], .int .i64 s] rfl (by (try simp only [List.map_toArray, List.map_cons, List.map_nil]); first | done | rfl) ?_; (with_reducible refine (laws_szState.calls k b0 b1 b2 b3 b4 b5 _ _ m6 _ _ m7 _ _ m8 b9 b10 b11 b12 s s2 _ (Kd.C_below RB6.out (below_step HW.out HM.out)) QB6.out (Kd.C_below RB7.out (below_step HW.out HM.out)) QB7.out (Kd.C_below RB8.out (below_step HW.out HM.out)) QB8.out Hs2.out).mono ?_); rintro e w4 ⟨rfl, hb⟩; refine ⟨_, rfl, ?_⟩; have n_ := Aside0.mk (below_step HM.out hb); clear HM; have HM := n_; clear n_; clear hb))
    go_ret
    exact ⟨rfl, below_step HW.out HM.out⟩
  rw [if_neg c2] at h
  have c2b : decide (s2 < 0) = false := decide_eq_false c2
  clear c2
  replace h := Option.bind_eq_some_iff.mp h
  obtain ⟨⟨p0, p1, p2, p3, p4, p5, p6, p7, p8, p9, p10, p11, p12⟩, Hp0, h⟩ := h
  have Hp := Aside0.mk Hp0
  clear Hp0
  replace h := Option.bind_eq_some_iff.mp h
  obtain ⟨⟨q0, q1, q2, q3, q4, q5, q6, q7, q8, q9, q10, q11, q12⟩, Hq0, h⟩ := h
  have Hq := Aside0.mk Hq0
  clear Hq0
  replace h := Option.bind_eq_some_iff.mp h
  obtain ⟨t6, Ht60, h⟩ := h
  have Ht6 := Aside0.mk Ht60
  clear Ht60
  replace h := Option.bind_eq_some_iff.mp h
  obtain ⟨t7, Ht70, h⟩ := h
  have Ht7 := Aside0.mk Ht70
  clear Ht70
  replace h := Option.bind_eq_some_iff.mp h
  obtain ⟨t8, Hx80, h⟩ := h
  have Hx8 := Aside0.mk Hx80
  clear Hx80
  replace h := Option.bind_eq_some_iff.mp h
  obtain ⟨u6, Hu60, h⟩ := h
  have Hu6 := Aside0.mk Hu60
  clear Hu60
  replace h := Option.bind_eq_some_iff.mp h
  obtain ⟨u7, Hu70, h⟩ := h
  have Hu7 := Aside0.mk Hu70
  clear Hu70
  replace h := Option.bind_eq_some_iff.mp h
  obtain ⟨u8, Hu80, h⟩ := h
  have Hu8 := Aside0.mk Hu80
  clear Hu80
  by_cases cq : allB (cfgB p0 p1 p2 p3 p4 p5 q0 q1 q2 q3 q4 q5) u6 u7 u8 (p9 == q9) (p10 == q10) (p11 == q11) (p12 == q12) = allS (cfgB p0 p1 p2 p3 p4 p5 q0 q1 q2 q3 q4 q5) t6 t7 (p9 == q9) (p10 == q10) (p11 == q11) (p12 == q12) ((p8.length : Int) == (q8.length : Int)) t8
  case neg =>
    rw [if_neg cq] at h
    cases h
  rw [if_pos cq] at h
  have HQ := Aside0.mk cq
  clear cq
  have Ht8 := Aside0.mk (show (p8.length : Int) = (q8.length : Int) → spec_EqualStates.l0 k p8 q8 0 = some t8 from fun e_ => by have z_ := Hx8.out; rw [if_pos e_] at z_; exact z_)
  clear Hx8
  replace h := Option.bind_eq_some_iff.mp h
  obtain ⟨e1, He0, h⟩ := h
  cases e1 with
  | false => cases h
  | true =>
    rw [if_pos rfl] at h
    have He := Aside0.mk He0
    clear He0
    replace h := Option.bind_eq_some_iff.mp h
    obtain ⟨e2, He0, h⟩ := h
    cases e2 with
    | false => cases h
    | true =>
      rw [if_pos rfl] at h
      have He2 := Aside0.mk He0
      obtain rfl := Option.some.inj h
      clear He0 h
      go_enter Try.func4, Try.ntmps4
      go_wp2_with (first | ((with_reducible refine gate_dst (N := 2) rfl ?_); refine box_event ?hg (N := 2) ?hd (cs := #[.int .i64 a0, .int .i64 a1, .int .i64 a2, .int .i64 a3, .int .i64 a4, .int .i64 a5, .slice A6 l6.length c6, .slice A7 l7.length c7, .slice A8 l8.length c8, .int .i64 a9, .int .i64 a10, .int .i64 a11, .int .i64 a12]) (t := 43) ?hr ?_; (case hd => rfl); (case hg => rfl); (case hr => first | (go_simp; done) | (go_simp; rfl)); intro gb2 hg w1 hbox hb; have BK2 := Aside0.mk hbox; have n_ := Aside0.mk (below_step HW.out hb); clear HW; have HW := n_; clear n_; clear hbox hb hg) | ((with_reducible refine gate_dst (N := 3) rfl ?_); refine box_event ?hg (N := 3) ?hd (cs := #[.int .i64 b0, .int .i64 b1, .int .i64 b2, .int .i64 b3, .int .i64 b4, .int .i64 b5, .slice B6 m6.length d6, .slice B7 m7.length d7, .slice B8 m8.length d8, .int .i64 b9, .int .i64 b10, .int .i64 b11, .int .i64 b12]) (t := 43) ?hr ?_; (case hd => rfl); (case hg => rfl); (case hr => first | (go_simp; done) | (go_simp; rfl)); intro gb3 hg w2 hbox hb; have BK3 := Aside0.mk hbox; have n2_ := Aside0.mk (blk_below BK2.out hb); clear BK2; have BK2 := n2_; clear n2_; have n_ := Aside0.mk (below_step HW.out hb); clear HW; have HW := n_; clear n_; have HM := Aside0.mk (Below.refl w2.heap.size w2); clear hbox hb hg) | ((with_reducible refine gate_dst (N := 10) rfl ?_); (try simp only [Act.put, List.setIfInBounds_toArray, List.set_cons_zero, List.set_cons_succ]); refine load_whole gb2 (cs := [.int .i64 a0, .int .i64 a1, .int .i64 a2, .int .i64 a3, .int .i64 a4, .int .i64 a5, .slice A6 l6.length c6, .slice A7 l7.length c7, .slice A8 l8.length c8, .int .i64 a9, .int .i64 a10, .int .i64 a11, .int .i64 a12]) (t0 := 43) (blk_below BK2.out HM.out) rfl 43 (.tmp 2) rfl rfl _ Try.underlying43 rfl (by kernel_rfl) ?_) | ((with_reducible refine gate_dst (N := 15) rfl ?_); (try simp only [Act.put, List.setIfInBounds_toArray, List.set_cons_zero, List.set_cons_succ]); refine load_whole gb3 (cs := [.int .i64 b0, .int .i64 b1, .int .i64 b2, .int .i64 b3, .int .i64 b4, .int .i64 b5, .slice B6 m6.length d6, .slice B7 m7.length d7, .slice B8 m8.length d8, .int .i64 b9, .int .i64 b10, .int .i64 b11, .int .i64 b12]) (t0 := 43) (blk_below BK3.out HM.out) rfl 43 (.tmp 3) rfl rfl _ Try.underlying43 rfl (by kernel_rfl) ?_) | ((with_reducible refine gate_callee (f := 11) rfl ?_); refine goesL_ (some 12) rfl rfl Try.func11 (by kernel_rfl) rfl #[.agg #[.int .i64 a0, .int .i64 a1, .int .i64 a2, .int .i64 a3, .int .i64 a4, .int .i64 a5, .slice A6 l6.length c6, .slice A7 l7.length c7, .slice A8 l8.length c8, .int .i64 a9, .int .i64 a10, .int .i64 a11, .int .i64 a12], .int .i64 1048576] rfl (by (try simp only [List.map_toArray, List.map_cons, List.map_nil]); first | done | rfl) ?_; (with_reducible refine (laws_szState.calls k a0 a1 a2 a3 a4 a5 _ _ l6 _ _ l7 _ _ l8 a9 a10 a11 a12 1048576 s _ (Kd.C_below RA6.out (below_step HW.out HM.out)) QA6.out (Kd.C_below RA7.out (below_step HW.out HM.out)) QA7.out (Kd.C_below RA8.out (below_step HW.out HM.out)) QA8.out Hs.out).mono ?_); rintro e w3 ⟨rfl, hb⟩; refine ⟨_, rfl, ?_⟩; have n_ := Aside0.mk (below_step HM.out hb); clear HM; have HM := n_; clear n_; clear hb) | ((with_reducible refine gate_callee (f := 11) rfl ?_); refine goesL_ (some 17) rfl rfl Try.func11 (by kernel_rfl) rfl #[.agg #[.int .i64 b0, .int .i64 b1, .int .i64 b2, .int .i64 b3, .int .i64 b4, .int .i64 b5, .slice B6 m6.length d6, .slice B7 m7.length d7, .slice B8 m8.length d8, .int .i64 b9, .int .i64 b10, .int .i64 b11, .int .i64 b12], .int .i64 s] rfl (by (try simp only [List.map_toArray, List.map_cons, List.map_nil]); first | done | rfl) ?_; (with_reducible refine (laws_szState.calls k b0 b1 b2 b3 b4 b5 _ _ m6 _ _ m7 _ _ m8 b9 b10 b11 b12 s s2 _ (Kd.C_below RB6.out (below_step HW.out HM.out)) QB6.out (Kd.C_below RB7.out (below_step HW.out HM.out)) QB7.out (Kd.C_below RB8.out (below_step HW.out HM.out)) QB8.out Hs2.out).mono ?_); rintro e w4 ⟨rfl, hb⟩; refine ⟨_, rfl, ?_⟩; have n_ := Aside0.mk (below_step HM.out hb); clear HM; have HM := n_; clear n_; clear hb))
      have n_ := Aside0.mk (below_drew1 HM.out)
      clear HM
      have HM := n_
      clear n_
      refine start_ (n := 6) (S := fun w' => Below w2.heap.size w2 w') (ds := []) #[false, false, false, false, false, false] (by kernel_rfl) rfl rfl HM.out (fun hHeld => ?_)
      generalize w4.drew = w5 at HM hHeld ⊢
      refine take_ (i := 0) (N := some 20) (v := ?_) (a' := ?_) #[true, false, false, false, false, false] rfl rfl (by kernel_rfl) (fun _ _ _ h => h) (Or.inl ⟨by rfl, ?_⟩) hHeld ?_ ?_
      rotate_left
      · rintro w' s0
        refine (run_load_whole gb2 (cs := [.int .i64 a0, .int .i64 a1, .int .i64 a2, .int .i64 a3, .int .i64 a4, .int .i64 a5, .slice A6 l6.length c6, .slice A7 l7.length c7, .slice A8 l8.length c8, .int .i64 a9, .int .i64 a10, .int .i64 a11, .int .i64 a12]) (t0 := 43) (blk_below BK2.out s0) 43 (.tmp 2) (by rfl) (by rfl) _ Try.underlying43 rfl (by kernel_rfl)).trans ?_
        with_reducible rfl
      rotate_left
      · simp only [Act.put, List.setIfInBounds_toArray, List.set_cons_zero, List.set_cons_succ, i64_w, i32_w]; rfl
      refine take_ (i := 2) (N := some 22) (v := ?_) (a' := ?_) #[true, false, true, false, false, false] rfl rfl (by kernel_rfl) (fun _ _ _ h => h) (Or.inl ⟨by rfl, ?_⟩) hHeld ?_ ?_
      rotate_left
      · rintro w' s0
        refine (run_load_whole gb3 (cs := [.int .i64 b0, .int .i64 b1, .int .i64 b2, .int .i64 b3, .int .i64 b4, .int .i64 b5, .slice B6 m6.length d6, .slice B7 m7.length d7, .slice B8 m8.length d8, .int .i64 b9, .int .i64 b10, .int .i64 b11, .int .i64 b12]) (t0 := 43) (blk_below BK3.out s0) 43 (.tmp 3) (by rfl) (by rfl) _ Try.underlying43 rfl (by kernel_rfl)).trans ?_
        with_reducible rfl
      rotate_left
      · simp only [Act.put, List.setIfInBounds_toArray, List.set_cons_zero, List.set_cons_succ, i64_w, i32_w]; rfl
      refine one_ (i := 1) (N := some 21) #[true, true, true, false, false, false] rfl rfl (by kernel_rfl) (by decide) (fun K hK => ?_)
      refine goes_ Try.func13 (by kernel_rfl) rfl #[.agg #[.int .i64 a0, .int .i64 a1, .int .i64 a2, .int .i64 a3, .int .i64 a4, .int .i64 a5, .slice A6 l6.length c6, .slice A7 l7.length c7, .slice A8 l8.length c8, .int .i64 a9, .int .i64 a10, .int .i64 a11, .int .i64 a12]] (by rfl) rfl rfl (by (try simp only [List.map_toArray, List.map_cons, List.map_nil]); first | done | rfl) ?_
      with_reducible refine (laws_toState.calls k a0 a1 a2 a3 a4 a5 _ _ l6 _ _ l7 _ _ l8 a9 a10 a11 a12 p0 p1 p2 p3 p4 p5 p6 p7 p8 p9 p10 p11 p12 _ (Kd.C_below RA6.out (below_step HW.out HM.out)) QA6.out (Kd.C_below RA7.out (below_step HW.out HM.out)) QA7.out (Kd.C_below RA8.out (below_step HW.out HM.out)) QA8.out Hp.out).mono ?_
      rintro e w5a ⟨u6, u7, u8, rfl, ho6, ho7, ho8, hb⟩
      refine ⟨_, rfl, ?_⟩
      obtain ⟨X6, x6, rfl⟩ := Kd.R_slice ho6; obtain ⟨X7, x7, rfl⟩ := Kd.R_slice ho7; obtain ⟨X8, x8, rfl⟩ := Kd.S_slice ho8
      have KX6 := Aside0.mk (Kd.R_reads' ho6).2
      have KX7 := Aside0.mk (Kd.R_reads' ho7).2
      have KX8 := Aside0.mk (Kd.S_reads' ho8).2
      have n_ := Aside0.mk (below_step HM.out hb); clear HM; have HM := n_; clear n_
      clear hb ho6 ho7 ho8
      have HX := Aside0.mk (Below.refl w5a.heap.size w5a)
      refine hK.out _ _ HM.out (fun hHeld => ?_)
      clear hK K
      refine norm_ (a' := ?_) ?_ ?_
      rotate_left
      · show Act.put _ (some 21) _ = _
        simp only [Act.put, List.setIfInBounds_toArray, List.set_cons_zero, List.set_cons_succ, i64_w, i32_w]; rfl
      refine one_ (i := 3) (N := some 23) #[true, true, true, true, false, false] rfl rfl (by kernel_rfl) (by decide) (fun K hK => ?_)
      refine goes_ Try.func13 (by kernel_rfl) rfl #[.agg #[.int .i64 b0, .int .i64 b1, .int .i64 b2, .int .i64 b3, .int .i64 b4, .int .i64 b5, .slice B6 m6.length d6, .slice B7 m7.length d7, .slice B8 m8.length d8, .int .i64 b9, .int .i64 b10, .int .i64 b11, .int .i64 b12]] (by rfl) rfl rfl (by (try simp only [List.map_toArray, List.map_cons, List.map_nil]); first | done | rfl) ?_
      with_reducible refine (laws_toState.calls k b0 b1 b2 b3 b4 b5 _ _ m6 _ _ m7 _ _ m8 b9 b10 b11 b12 q0 q1 q2 q3 q4 q5 q6 q7 q8 q9 q10 q11 q12 _ (Kd.C_below RB6.out (below_step HW.out HM.out)) QB6.out (Kd.C_below RB7.out (below_step HW.out HM.out)) QB7.out (Kd.C_below RB8.out (below_step HW.out HM.out)) QB8.out Hq.out).mono ?_
      rintro e w6 ⟨u6, u7, u8, rfl, ho6, ho7, ho8, hb⟩
      refine ⟨_, rfl, ?_⟩
      obtain ⟨Y6, y6, rfl⟩ := Kd.R_slice ho6; obtain ⟨Y7, y7, rfl⟩ := Kd.R_slice ho7; obtain ⟨Y8, y8, rfl⟩ := Kd.S_slice ho8
      have KY6 := Aside0.mk (Kd.R_reads' ho6).2
      have KY7 := Aside0.mk (Kd.R_reads' ho7).2
      have KY8 := Aside0.mk (Kd.S_reads' ho8).2
      have n_ := Aside0.mk (below_step HM.out hb); clear HM; have HM := n_; clear n_
      have n_ := Aside0.mk (below_step HX.out hb); clear HX; have HX := n_; clear n_
      clear hb ho6 ho7 ho8
      have HY := Aside0.mk (Below.refl w6.heap.size w6)
      refine hK.out _ _ HM.out (fun hHeld => ?_)
      clear hK K
      refine norm_ (a' := ?_) ?_ ?_
      rotate_left
      · show Act.put _ (some 23) _ = _
        simp only [Act.put, List.setIfInBounds_toArray, List.set_cons_zero, List.set_cons_succ, i64_w, i32_w]; rfl
      refine one_ (i := 4) (N := some 24) #[true, true, true, true, true, false] rfl rfl (by kernel_rfl) (by decide) (fun K hK => ?_)
      refine goes_ Try.func12 (by kernel_rfl) rfl #[.agg #[.int .i64 p0, .int .i64 p1, .int .i64 p2, .int .i64 p3, .int .i64 p4, .int .i64 p5, .slice X6 p6.length x6, .slice X7 p7.length x7, .slice X8 p8.length x8, .int .i64 p9, .int .i64 p10, .int .i64 p11, .int .i64 p12], .agg #[.int .i64 q0, .int .i64 q1, .int .i64 q2, .int .i64 q3, .int .i64 q4, .int .i64 q5, .slice Y6 q6.length y6, .slice Y7 q7.length y7, .slice Y8 q8.length y8, .int .i64 q9, .int .i64 q10, .int .i64 q11, .int .i64 q12]] (by rfl) rfl rfl (by (try simp only [List.map_toArray, List.map_cons, List.map_nil]); first | done | rfl) ?_
      with_reducible refine (spec_EqualStates.calls k p0 p1 p2 p3 p4 p5 _ _ p6 _ _ p7 _ _ p8 p9 p10 p11 p12 q0 q1 q2 q3 q4 q5 _ _ q6 _ _ q7 _ _ q8 q9 q10 q11 q12 t6 t7 t8 _ (Kd.C_below KX6.out.2 HX.out) KX6.out.1 (Kd.C_below KX7.out.2 HX.out) KX7.out.1 (Kd.C_below KX8.out.2 HX.out) KX8.out.1 (Kd.C_below KY6.out.2 HY.out) KY6.out.1 (Kd.C_below KY7.out.2 HY.out) KY7.out.1 (Kd.C_below KY8.out.2 HY.out) KY8.out.1 Ht6.out Ht7.out Ht8.out).mono ?_
      rintro e w7 ⟨he, hb⟩
      have HES := Aside0.mk he
      clear he
      refine ⟨_, HES.out, ?_⟩
      have n_ := Aside0.mk (below_step HM.out hb); clear HM; have HM := n_; clear n_
      clear hb HX HY KX6 KX7 KX8 KY6 KY7 KY8
      refine hK.out _ _ HM.out (fun hHeld => ?_)
      clear hK K
      refine norm_ (a' := ?_) ?_ ?_
      rotate_left
      · show Act.put _ (some 24) _ = _
        simp only [Act.put, List.setIfInBounds_toArray, List.set_cons_zero, List.set_cons_succ, i64_w, i32_w]; rfl
      refine pure_ (i := 5) (N := some 6) (v := ?_) (a' := ?_) #[true, true, true, true, true, true] rfl rfl (by kernel_rfl) (fun _ _ _ h => h) (Or.inl ⟨by rfl, ?_⟩) ?_ ?_
      rotate_left
      · intro w'; go_simp; with_reducible rfl
      rotate_left
      · simp only [Act.put, List.setIfInBounds_toArray, List.set_cons_zero, List.set_cons_succ, i64_w, i32_w]; rfl
      refine done_ (by kernel_rfl) ?_
      go_wp2_with (first | ((with_reducible refine gate_dst (N := 25) rfl ?_); (try simp only [Act.put, List.setIfInBounds_toArray, List.set_cons_zero, List.set_cons_succ]); refine load_whole gb2 (cs := [.int .i64 a0, .int .i64 a1, .int .i64 a2, .int .i64 a3, .int .i64 a4, .int .i64 a5, .slice A6 l6.length c6, .slice A7 l7.length c7, .slice A8 l8.length c8, .int .i64 a9, .int .i64 a10, .int .i64 a11, .int .i64 a12]) (t0 := 43) (blk_below BK2.out HM.out) rfl 43 (.tmp 2) rfl rfl _ Try.underlying43 rfl (by kernel_rfl) ?_) | ((with_reducible refine gate_callee (f := 13) rfl ?_); refine goesL_ (some 26) rfl rfl Try.func13 (by kernel_rfl) rfl #[.agg #[.int .i64 a0, .int .i64 a1, .int .i64 a2, .int .i64 a3, .int .i64 a4, .int .i64 a5, .slice A6 l6.length c6, .slice A7 l7.length c7, .slice A8 l8.length c8, .int .i64 a9, .int .i64 a10, .int .i64 a11, .int .i64 a12]] rfl (by (try simp only [List.map_toArray, List.map_cons, List.map_nil]); first | done | rfl) ?_; (with_reducible refine (laws_toState.calls k a0 a1 a2 a3 a4 a5 _ _ l6 _ _ l7 _ _ l8 a9 a10 a11 a12 p0 p1 p2 p3 p4 p5 p6 p7 p8 p9 p10 p11 p12 _ (Kd.C_below RA6.out (below_step HW.out HM.out)) QA6.out (Kd.C_below RA7.out (below_step HW.out HM.out)) QA7.out (Kd.C_below RA8.out (below_step HW.out HM.out)) QA8.out Hp.out).mono ?_); rintro e w10 ⟨u6, u7, u8, rfl, ho6, ho7, ho8, hb⟩; refine ⟨_, rfl, ?_⟩; obtain ⟨G6, g6, rfl⟩ := Kd.R_slice ho6; obtain ⟨G7, g7, rfl⟩ := Kd.R_slice ho7; obtain ⟨G8, g8, rfl⟩ := Kd.S_slice ho8; have R6 := Aside0.mk ho6; have R7 := Aside0.mk ho7; have R8 := Aside0.mk ho8; have n_ := Aside0.mk (below_step HM.out hb); clear HM; have HM := n_; clear n_; clear hb ho6 ho7 ho8) | ((with_reducible refine gate_dst (N := 7) rfl ?_); refine box_event ?hg (N := 7) ?hd (cs := #[.int .i64 0, .int .i64 0, .int .i64 0, .int .i64 0, .int .i64 0, .int .i64 0, .slice none 0 0, .slice none 0 0, .slice none 0 0, .int .i64 0, .int .i64 0, .int .i64 0, .int .i64 0]) (t := 49) ?hr ?_; (case hd => rfl); (case hg => rfl); (case hr => first | (go_simp; done) | (go_simp; rfl)); intro gb7 hg w11 hbox hb; have ZB := Aside0.mk hbox; have NB := Aside0.mk hb; have GE := Aside0.mk (show w10.heap.size ≤ gb7 from by rw [hg]; exact Nat.le_refl _); have GW := Aside0.mk (show w2.heap.size ≤ gb7 from by rw [hg]; exact HM.out.size); have n_ := Aside0.mk (below_step HM.out hb); clear HM; have HM := n_; clear n_; clear hbox hb hg) | ((with_reducible refine gate_store (t := 49) (p := 7) rfl ?_); (try simp only [Act.put, List.setIfInBounds_toArray, List.set_cons_zero, List.set_cons_succ]); refine store_kept rfl 49 (.tmp 7) _ rfl gb7 [.int .i64 p0, .int .i64 p1, .int .i64 p2, .int .i64 p3, .int .i64 p4, .int .i64 p5, .slice G6 p6.length g6, .slice G7 p7.length g7, .slice G8 p8.length g8, .int .i64 p9, .int .i64 p10, .int .i64 p11, .int .i64 p12] [.int .i64 0, .int .i64 0, .int .i64 0, .int .i64 0, .int .i64 0, .int .i64 0, .slice none 0 0, .slice none 0 0, .slice none 0 0, .int .i64 0, .int .i64 0, .int .i64 0, .int .i64 0] (t0 := 49) rfl rfl ZB.out rfl (by kernel_rfl) (by simp [Value.oneCell']) ?_; intro w12 hbox hk hbk; have n_ := Aside0.mk (hbk _ GW.out HM.out); have BK7 := Aside0.mk hbox; have KG6 := Aside0.mk (Kd.R_reads' (R_past R6.out NB.out GE.out hk)).2; have KG7 := Aside0.mk (Kd.R_reads' (R_past R7.out NB.out GE.out hk)).2; have KG8 := Aside0.mk (Kd.S_reads' (S_past R8.out NB.out GE.out hk)).2; clear HM ZB NB GE GW R6 R7 R8; have HM := n_; clear n_; have HG := Aside0.mk (Below.refl w12.heap.size w12); clear hbox hk hbk) | ((with_reducible refine gate_dst (N := 27) rfl ?_); (try simp only [Act.put, List.setIfInBounds_toArray, List.set_cons_zero, List.set_cons_succ]); refine load_whole gb3 (cs := [.int .i64 b0, .int .i64 b1, .int .i64 b2, .int .i64 b3, .int .i64 b4, .int .i64 b5, .slice B6 m6.length d6, .slice B7 m7.length d7, .slice B8 m8.length d8, .int .i64 b9, .int .i64 b10, .int .i64 b11, .int .i64 b12]) (t0 := 43) (blk_below BK3.out HM.out) rfl 43 (.tmp 3) rfl rfl _ Try.underlying43 rfl (by kernel_rfl) ?_) | ((with_reducible refine gate_callee (f := 13) rfl ?_); refine goesL_ (some 28) rfl rfl Try.func13 (by kernel_rfl) rfl #[.agg #[.int .i64 b0, .int .i64 b1, .int .i64 b2, .int .i64 b3, .int .i64 b4, .int .i64 b5, .slice B6 m6.length d6, .slice B7 m7.length d7, .slice B8 m8.length d8, .int .i64 b9, .int .i64 b10, .int .i64 b11, .int .i64 b12]] rfl (by (try simp only [List.map_toArray, List.map_cons, List.map_nil]); first | done | rfl) ?_; (with_reducible refine (laws_toState.calls k b0 b1 b2 b3 b4 b5 _ _ m6 _ _ m7 _ _ m8 b9 b10 b11 b12 q0 q1 q2 q3 q4 q5 q6 q7 q8 q9 q10 q11 q12 _ (Kd.C_below RB6.out (below_step HW.out HM.out)) QB6.out (Kd.C_below RB7.out (below_step HW.out HM.out)) QB7.out (Kd.C_below RB8.out (below_step HW.out HM.out)) QB8.out Hq.out).mono ?_); rintro e w13 ⟨u6, u7, u8, rfl, ho6, ho7, ho8, hb⟩; refine ⟨_, rfl, ?_⟩; obtain ⟨J6, j6, rfl⟩ := Kd.R_slice ho6; obtain ⟨J7, j7, rfl⟩ := Kd.R_slice ho7; obtain ⟨J8, j8, rfl⟩ := Kd.S_slice ho8; have R6 := Aside0.mk ho6; have R7 := Aside0.mk ho7; have R8 := Aside0.mk ho8; have n_ := Aside0.mk (below_step HM.out hb); clear HM; have HM := n_; clear n_; have n_ := Aside0.mk (below_step HG.out hb); clear HG; have HG := n_; clear n_; clear hb ho6 ho7 ho8) | ((with_reducible refine gate_dst (N := 8) rfl ?_); refine box_event ?hg (N := 8) ?hd (cs := #[.int .i64 0, .int .i64 0, .int .i64 0, .int .i64 0, .int .i64 0, .int .i64 0, .slice none 0 0, .slice none 0 0, .slice none 0 0, .int .i64 0, .int .i64 0, .int .i64 0, .int .i64 0]) (t := 49) ?hr ?_; (case hd => rfl); (case hg => rfl); (case hr => first | (go_simp; done) | (go_simp; rfl)); intro gb8 hg w14 hbox hb; have ZB := Aside0.mk hbox; have NB := Aside0.mk hb; have GE := Aside0.mk (show w13.heap.size ≤ gb8 from by rw [hg]; exact Nat.le_refl _); have GW := Aside0.mk (show w2.heap.size ≤ gb8 from by rw [hg]; exact HM.out.size); have GG := Aside0.mk (show w12.heap.size ≤ gb8 from by rw [hg]; exact HG.out.size); have n_ := Aside0.mk (below_step HM.out hb); clear HM; have HM := n_; clear n_; have n_ := Aside0.mk (below_step HG.out hb); clear HG; have HG := n_; clear n_; clear hbox hb hg) | ((with_reducible refine gate_store (t := 49) (p := 8) rfl ?_); (try simp only [Act.put, List.setIfInBounds_toArray, List.set_cons_zero, List.set_cons_succ]); refine store_kept rfl 49 (.tmp 8) _ rfl gb8 [.int .i64 q0, .int .i64 q1, .int .i64 q2, .int .i64 q3, .int .i64 q4, .int .i64 q5, .slice J6 q6.length j6, .slice J7 q7.length j7, .slice J8 q8.length j8, .int .i64 q9, .int .i64 q10, .int .i64 q11, .int .i64 q12] [.int .i64 0, .int .i64 0, .int .i64 0, .int .i64 0, .int .i64 0, .int .i64 0, .slice none 0 0, .slice none 0 0, .slice none 0 0, .int .i64 0, .int .i64 0, .int .i64 0, .int .i64 0] (t0 := 49) rfl rfl ZB.out rfl (by kernel_rfl) (by simp [Value.oneCell']) ?_; intro w15 hbox hk hbk; have n_ := Aside0.mk (hbk _ GW.out HM.out); have n2_ := Aside0.mk (hbk _ GG.out HG.out); have BK8 := Aside0.mk hbox; have KJ6 := Aside0.mk (Kd.R_reads' (R_past R6.out NB.out GE.out hk)).2; have KJ7 := Aside0.mk (Kd.R_reads' (R_past R7.out NB.out GE.out hk)).2; have KJ8 := Aside0.mk (Kd.S_reads' (S_past R8.out NB.out GE.out hk)).2; clear HM HG ZB NB GE GW GG R6 R7 R8; have HM := n_; have HG := n2_; clear n_ n2_; have HJ := Aside0.mk (Below.refl w15.heap.size w15); have N2 := Aside0.mk (blk_below BK2.out HM.out); have N3 := Aside0.mk (blk_below BK3.out HM.out); have N7 := Aside0.mk (blk_below BK7.out HG.out); clear hbox hk hbk) | ((with_reducible refine gate_dst (N := 29) rfl ?_); (try simp only [Act.put, List.setIfInBounds_toArray, List.set_cons_zero, List.set_cons_succ]); refine load_whole gb7 (cs := [.int .i64 p0, .int .i64 p1, .int .i64 p2, .int .i64 p3, .int .i64 p4, .int .i64 p5, .slice G6 p6.length g6, .slice G7 p7.length g7, .slice G8 p8.length g8, .int .i64 p9, .int .i64 p10, .int .i64 p11, .int .i64 p12]) (t0 := 49) (blk_below BK7.out HG.out) rfl 49 (.tmp 7) rfl rfl _ Try.underlying49 rfl (by kernel_rfl) ?_) | ((with_reducible refine gate_dst (N := 30) rfl ?_); (try simp only [Act.put, List.setIfInBounds_toArray, List.set_cons_zero, List.set_cons_succ]); refine load_whole gb8 (cs := [.int .i64 q0, .int .i64 q1, .int .i64 q2, .int .i64 q3, .int .i64 q4, .int .i64 q5, .slice J6 q6.length j6, .slice J7 q7.length j7, .slice J8 q8.length j8, .int .i64 q9, .int .i64 q10, .int .i64 q11, .int .i64 q12]) (t0 := 49) (blk_below BK8.out HJ.out) rfl 49 (.tmp 8) rfl rfl _ Try.underlying49 rfl (by kernel_rfl) ?_) | ((with_reducible refine gate_callee (f := 14) rfl ?_); refine goesL_ (some 31) rfl rfl Try.func14 (by kernel_rfl) rfl #[.agg #[.int .i64 p0, .int .i64 p1, .int .i64 p2, .int .i64 p3, .int .i64 p4, .int .i64 p5, .slice G6 p6.length g6, .slice G7 p7.length g7, .slice G8 p8.length g8, .int .i64 p9, .int .i64 p10, .int .i64 p11, .int .i64 p12], .agg #[.int .i64 q0, .int .i64 q1, .int .i64 q2, .int .i64 q3, .int .i64 q4, .int .i64 q5, .slice J6 q6.length j6, .slice J7 q7.length j7, .slice J8 q8.length j8, .int .i64 q9, .int .i64 q10, .int .i64 q11, .int .i64 q12]] rfl (by (try simp only [List.map_toArray, List.map_cons, List.map_nil]); first | done | rfl) ?_; (with_reducible refine (impl_EqualStates.calls k p0 p1 p2 p3 p4 p5 _ _ p6 _ _ p7 _ _ p8 p9 p10 p11 p12 q0 q1 q2 q3 q4 q5 _ _ q6 _ _ q7 _ _ q8 q9 q10 q11 q12 u6 u7 u8 _ (Kd.C_below KG6.out.2 HG.out) KG6.out.1 (Kd.C_below KG7.out.2 HG.out) KG7.out.1 (Kd.C_below KG8.out.2 HG.out) KG8.out.1 (Kd.C_below KJ6.out.2 HJ.out) KJ6.out.1 (Kd.C_below KJ7.out.2 HJ.out) KJ7.out.1 (Kd.C_below KJ8.out.2 HJ.out) KJ8.out.1 Hu6.out Hu7.out Hu8.out).mono ?_); rintro e w16 ⟨he, hb⟩; have HEI := Aside0.mk (he.trans (congrArg (fun b_ => Ending.returned (.bool b_)) HQ.out)); clear he; refine ⟨_, HEI.out, ?_⟩; have n_ := Aside0.mk (below_step HM.out hb); clear HM; have HM := n_; clear n_; have n_ := Aside0.mk (below_step HG.out hb); clear HG; have HG := n_; clear n_; have n_ := Aside0.mk (below_step HJ.out hb); clear HJ; have HJ := n_; clear n_; clear hb))
      have n_ := Aside0.mk (below_drew1 HM.out)
      clear HM
      have HM := n_
      clear n_
      have n_ := Aside0.mk (below_drew1 HG.out)
      clear HG
      have HG := n_
      clear n_
      have n_ := Aside0.mk (below_drew1 HJ.out)
      clear HJ
      have HJ := n_
      clear n_
      refine start_ (n := 5) (S := fun w' => Below w15.heap.size w15 w') (ds := []) #[false, false, false, false, false] (by kernel_rfl) rfl rfl HJ.out (fun hHeld => ?_)
      generalize w16.drew = w17 at HM HG HJ hHeld ⊢
      refine take_ (i := 0) (N := some 35) (v := ?_) (a' := ?_) #[true, false, false, false, false] rfl rfl (by kernel_rfl) (fun _ _ _ h => h) (Or.inl ⟨by rfl, ?_⟩) hHeld ?_ ?_
      rotate_left
      · rintro w' s0
        refine (run_load_whole gb7 (cs := [.int .i64 p0, .int .i64 p1, .int .i64 p2, .int .i64 p3, .int .i64 p4, .int .i64 p5, .slice G6 p6.length g6, .slice G7 p7.length g7, .slice G8 p8.length g8, .int .i64 p9, .int .i64 p10, .int .i64 p11, .int .i64 p12]) (t0 := 49) (blk_below N7.out s0) 49 (.tmp 7) (by rfl) (by rfl) _ Try.underlying49 rfl (by kernel_rfl)).trans ?_
        with_reducible rfl
      rotate_left
      · simp only [Act.put, List.setIfInBounds_toArray, List.set_cons_zero, List.set_cons_succ, i64_w, i32_w]; rfl
      refine take_ (i := 1) (N := some 36) (v := ?_) (a' := ?_) #[true, true, false, false, false] rfl rfl (by kernel_rfl) (fun _ _ _ h => h) (Or.inl ⟨by rfl, ?_⟩) hHeld ?_ ?_
      rotate_left
      · rintro w' s0
        refine (run_load_whole gb2 (cs := [.int .i64 a0, .int .i64 a1, .int .i64 a2, .int .i64 a3, .int .i64 a4, .int .i64 a5, .slice A6 l6.length c6, .slice A7 l7.length c7, .slice A8 l8.length c8, .int .i64 a9, .int .i64 a10, .int .i64 a11, .int .i64 a12]) (t0 := 43) (blk_below N2.out s0) 43 (.tmp 2) (by rfl) (by rfl) _ Try.underlying43 rfl (by kernel_rfl)).trans ?_
        with_reducible rfl
      rotate_left
      · simp only [Act.put, List.setIfInBounds_toArray, List.set_cons_zero, List.set_cons_succ, i64_w, i32_w]; rfl
      refine one_ (i := 2) (N := some 37) #[true, true, true, false, false] rfl rfl (by kernel_rfl) (by decide) (fun K hK => ?_)
      refine goes_ Try.func13 (by kernel_rfl) rfl #[.agg #[.int .i64 a0, .int .i64 a1, .int .i64 a2, .int .i64 a3, .int .i64 a4, .int .i64 a5, .slice A6 l6.length c6, .slice A7 l7.length c7, .slice A8 l8.length c8, .int .i64 a9, .int .i64 a10, .int .i64 a11, .int .i64 a12]] (by rfl) rfl rfl (by (try simp only [List.map_toArray, List.map_cons, List.map_nil]); first | done | rfl) ?_
      with_reducible refine (laws_toState.calls k a0 a1 a2 a3 a4 a5 _ _ l6 _ _ l7 _ _ l8 a9 a10 a11 a12 p0 p1 p2 p3 p4 p5 p6 p7 p8 p9 p10 p11 p12 _ (Kd.C_below RA6.out (below_step HW.out HM.out)) QA6.out (Kd.C_below RA7.out (below_step HW.out HM.out)) QA7.out (Kd.C_below RA8.out (below_step HW.out HM.out)) QA8.out Hp.out).mono ?_
      rintro e w18 ⟨u6, u7, u8, rfl, ho6, ho7, ho8, hb⟩
      refine ⟨_, rfl, ?_⟩
      obtain ⟨V6, v6, rfl⟩ := Kd.R_slice ho6; obtain ⟨V7, v7, rfl⟩ := Kd.R_slice ho7; obtain ⟨V8, v8, rfl⟩ := Kd.S_slice ho8
      have KV6 := Aside0.mk (Kd.R_reads' ho6).2
      have KV7 := Aside0.mk (Kd.R_reads' ho7).2
      have KV8 := Aside0.mk (Kd.S_reads' ho8).2
      have n_ := Aside0.mk (below_step HM.out hb); clear HM; have HM := n_; clear n_
      have n_ := Aside0.mk (below_step HG.out hb); clear HG; have HG := n_; clear n_
      have n_ := Aside0.mk (below_step HJ.out hb); clear HJ; have HJ := n_; clear n_
      clear hb ho6 ho7 ho8
      have HV := Aside0.mk (Below.refl w18.heap.size w18)
      refine hK.out _ _ HJ.out (fun hHeld => ?_)
      clear hK K
      refine norm_ (a' := ?_) ?_ ?_
      rotate_left
      · show Act.put _ (some 37) _ = _
        simp only [Act.put, List.setIfInBounds_toArray, List.set_cons_zero, List.set_cons_succ, i64_w, i32_w]; rfl
      refine one_ (i := 3) (N := some 38) #[true, true, true, true, false] rfl rfl (by kernel_rfl) (by decide) (fun K hK => ?_)
      refine goes_ Try.func15 (by kernel_rfl) rfl #[.agg #[.int .i64 p0, .int .i64 p1, .int .i64 p2, .int .i64 p3, .int .i64 p4, .int .i64 p5, .slice G6 p6.length g6, .slice G7 p7.length g7, .slice G8 p8.length g8, .int .i64 p9, .int .i64 p10, .int .i64 p11, .int .i64 p12], .agg #[.int .i64 p0, .int .i64 p1, .int .i64 p2, .int .i64 p3, .int .i64 p4, .int .i64 p5, .slice V6 p6.length v6, .slice V7 p7.length v7, .slice V8 p8.length v8, .int .i64 p9, .int .i64 p10, .int .i64 p11, .int .i64 p12]] (by rfl) rfl rfl (by (try simp only [List.map_toArray, List.map_cons, List.map_nil]); first | done | rfl) ?_
      with_reducible refine (laws_eqState.calls k p0 p1 p2 p3 p4 p5 _ _ p6 _ _ p7 _ _ p8 p9 p10 p11 p12 p0 p1 p2 p3 p4 p5 _ _ p6 _ _ p7 _ _ p8 p9 p10 p11 p12 true _ (Kd.C_below KG6.out.2 HG.out) KG6.out.1 (Kd.C_below KG7.out.2 HG.out) KG7.out.1 (Kd.C_below KG8.out.2 HG.out) KG8.out.1 (Kd.C_below KV6.out.2 HV.out) KV6.out.1 (Kd.C_below KV7.out.2 HV.out) KV7.out.1 (Kd.C_below KV8.out.2 HV.out) KV8.out.1 He.out).mono ?_
      rintro e w19 ⟨rfl, hb⟩
      refine ⟨_, rfl, ?_⟩
      have n_ := Aside0.mk (below_step HM.out hb); clear HM; have HM := n_; clear n_
      have n_ := Aside0.mk (below_step HG.out hb); clear HG; have HG := n_; clear n_
      have n_ := Aside0.mk (below_step HJ.out hb); clear HJ; have HJ := n_; clear n_
      clear hb HV KV6 KV7 KV8
      refine hK.out _ _ HJ.out (fun hHeld => ?_)
      clear hK K
      refine norm_ (a' := ?_) ?_ ?_
      rotate_left
      · show Act.put _ (some 38) _ = _
        simp only [Act.put, List.setIfInBounds_toArray, List.set_cons_zero, List.set_cons_succ, i64_w, i32_w]; rfl
      refine pure_ (i := 4) (N := some 39) (v := ?_) (a' := ?_) #[true, true, true, true, true] rfl rfl (by kernel_rfl) (fun _ _ _ h => h) (Or.inl ⟨by rfl, ?_⟩) ?_ ?_
      rotate_left
      · intro w'; go_simp; with_reducible rfl
      rotate_left
      · simp only [Act.put, List.setIfInBounds_toArray, List.set_cons_zero, List.set_cons_succ, i64_w, i32_w]; rfl
      refine done_ (by kernel_rfl) ?_
      go_wp2
      have n_ := Aside0.mk (below_drew1 HM.out)
      clear HM
      have HM := n_
      clear n_
      have n_ := Aside0.mk (below_drew1 HG.out)
      clear HG
      have HG := n_
      clear n_
      have n_ := Aside0.mk (below_drew1 HJ.out)
      clear HJ
      have HJ := n_
      clear n_
      refine start_ (n := 5) (S := fun w' => Below w15.heap.size w15 w') (ds := []) #[false, false, false, false, false] (by kernel_rfl) rfl rfl HJ.out (fun hHeld => ?_)
      generalize w19.drew = w20 at HM HG HJ hHeld ⊢
      refine take_ (i := 0) (N := some 40) (v := ?_) (a' := ?_) #[true, false, false, false, false] rfl rfl (by kernel_rfl) (fun _ _ _ h => h) (Or.inl ⟨by rfl, ?_⟩) hHeld ?_ ?_
      rotate_left
      · rintro w' s0
        refine (run_load_whole gb8 (cs := [.int .i64 q0, .int .i64 q1, .int .i64 q2, .int .i64 q3, .int .i64 q4, .int .i64 q5, .slice J6 q6.length j6, .slice J7 q7.length j7, .slice J8 q8.length j8, .int .i64 q9, .int .i64 q10, .int .i64 q11, .int .i64 q12]) (t0 := 49) (blk_below BK8.out s0) 49 (.tmp 8) (by rfl) (by rfl) _ Try.underlying49 rfl (by kernel_rfl)).trans ?_
        with_reducible rfl
      rotate_left
      · simp only [Act.put, List.setIfInBounds_toArray, List.set_cons_zero, List.set_cons_succ, i64_w, i32_w]; rfl
      refine take_ (i := 1) (N := some 41) (v := ?_) (a' := ?_) #[true, true, false, false, false] rfl rfl (by kernel_rfl) (fun _ _ _ h => h) (Or.inl ⟨by rfl, ?_⟩) hHeld ?_ ?_
      rotate_left
      · rintro w' s0
        refine (run_load_whole gb3 (cs := [.int .i64 b0, .int .i64 b1, .int .i64 b2, .int .i64 b3, .int .i64 b4, .int .i64 b5, .slice B6 m6.length d6, .slice B7 m7.length d7, .slice B8 m8.length d8, .int .i64 b9, .int .i64 b10, .int .i64 b11, .int .i64 b12]) (t0 := 43) (blk_below N3.out s0) 43 (.tmp 3) (by rfl) (by rfl) _ Try.underlying43 rfl (by kernel_rfl)).trans ?_
        with_reducible rfl
      rotate_left
      · simp only [Act.put, List.setIfInBounds_toArray, List.set_cons_zero, List.set_cons_succ, i64_w, i32_w]; rfl
      refine one_ (i := 2) (N := some 42) #[true, true, true, false, false] rfl rfl (by kernel_rfl) (by decide) (fun K hK => ?_)
      refine goes_ Try.func13 (by kernel_rfl) rfl #[.agg #[.int .i64 b0, .int .i64 b1, .int .i64 b2, .int .i64 b3, .int .i64 b4, .int .i64 b5, .slice B6 m6.length d6, .slice B7 m7.length d7, .slice B8 m8.length d8, .int .i64 b9, .int .i64 b10, .int .i64 b11, .int .i64 b12]] (by rfl) rfl rfl (by (try simp only [List.map_toArray, List.map_cons, List.map_nil]); first | done | rfl) ?_
      with_reducible refine (laws_toState.calls k b0 b1 b2 b3 b4 b5 _ _ m6 _ _ m7 _ _ m8 b9 b10 b11 b12 q0 q1 q2 q3 q4 q5 q6 q7 q8 q9 q10 q11 q12 _ (Kd.C_below RB6.out (below_step HW.out HM.out)) QB6.out (Kd.C_below RB7.out (below_step HW.out HM.out)) QB7.out (Kd.C_below RB8.out (below_step HW.out HM.out)) QB8.out Hq.out).mono ?_
      rintro e w21 ⟨u6, u7, u8, rfl, ho6, ho7, ho8, hb⟩
      refine ⟨_, rfl, ?_⟩
      obtain ⟨V6, v6, rfl⟩ := Kd.R_slice ho6; obtain ⟨V7, v7, rfl⟩ := Kd.R_slice ho7; obtain ⟨V8, v8, rfl⟩ := Kd.S_slice ho8
      have KV6 := Aside0.mk (Kd.R_reads' ho6).2
      have KV7 := Aside0.mk (Kd.R_reads' ho7).2
      have KV8 := Aside0.mk (Kd.S_reads' ho8).2
      have n_ := Aside0.mk (below_step HM.out hb); clear HM; have HM := n_; clear n_
      have n_ := Aside0.mk (below_step HG.out hb); clear HG; have HG := n_; clear n_
      have n_ := Aside0.mk (below_step HJ.out hb); clear HJ; have HJ := n_; clear n_
      clear hb ho6 ho7 ho8
      have HV := Aside0.mk (Below.refl w21.heap.size w21)
      refine hK.out _ _ HJ.out (fun hHeld => ?_)
      clear hK K
      refine norm_ (a' := ?_) ?_ ?_
      rotate_left
      · show Act.put _ (some 42) _ = _
        simp only [Act.put, List.setIfInBounds_toArray, List.set_cons_zero, List.set_cons_succ, i64_w, i32_w]; rfl
      refine one_ (i := 3) (N := some 43) #[true, true, true, true, false] rfl rfl (by kernel_rfl) (by decide) (fun K hK => ?_)
      refine goes_ Try.func15 (by kernel_rfl) rfl #[.agg #[.int .i64 q0, .int .i64 q1, .int .i64 q2, .int .i64 q3, .int .i64 q4, .int .i64 q5, .slice J6 q6.length j6, .slice J7 q7.length j7, .slice J8 q8.length j8, .int .i64 q9, .int .i64 q10, .int .i64 q11, .int .i64 q12], .agg #[.int .i64 q0, .int .i64 q1, .int .i64 q2, .int .i64 q3, .int .i64 q4, .int .i64 q5, .slice V6 q6.length v6, .slice V7 q7.length v7, .slice V8 q8.length v8, .int .i64 q9, .int .i64 q10, .int .i64 q11, .int .i64 q12]] (by rfl) rfl rfl (by (try simp only [List.map_toArray, List.map_cons, List.map_nil]); first | done | rfl) ?_
      with_reducible refine (laws_eqState.calls k q0 q1 q2 q3 q4 q5 _ _ q6 _ _ q7 _ _ q8 q9 q10 q11 q12 q0 q1 q2 q3 q4 q5 _ _ q6 _ _ q7 _ _ q8 q9 q10 q11 q12 true _ (Kd.C_below KJ6.out.2 HJ.out) KJ6.out.1 (Kd.C_below KJ7.out.2 HJ.out) KJ7.out.1 (Kd.C_below KJ8.out.2 HJ.out) KJ8.out.1 (Kd.C_below KV6.out.2 HV.out) KV6.out.1 (Kd.C_below KV7.out.2 HV.out) KV7.out.1 (Kd.C_below KV8.out.2 HV.out) KV8.out.1 He2.out).mono ?_
      rintro e w22 ⟨rfl, hb⟩
      refine ⟨_, rfl, ?_⟩
      have n_ := Aside0.mk (below_step HM.out hb); clear HM; have HM := n_; clear n_
      have n_ := Aside0.mk (below_step HG.out hb); clear HG; have HG := n_; clear n_
      have n_ := Aside0.mk (below_step HJ.out hb); clear HJ; have HJ := n_; clear n_
      clear hb HV KV6 KV7 KV8
      refine hK.out _ _ HJ.out (fun hHeld => ?_)
      clear hK K
      refine norm_ (a' := ?_) ?_ ?_
      rotate_left
      · show Act.put _ (some 43) _ = _
        simp only [Act.put, List.setIfInBounds_toArray, List.set_cons_zero, List.set_cons_succ, i64_w, i32_w]; rfl
      refine pure_ (i := 4) (N := some 44) (v := ?_) (a' := ?_) #[true, true, true, true, true] rfl rfl (by kernel_rfl) (fun _ _ _ h => h) (Or.inl ⟨by rfl, ?_⟩) ?_ ?_
      rotate_left
      · intro w'; go_simp; with_reducible rfl
      rotate_left
      · simp only [Act.put, List.setIfInBounds_toArray, List.set_cons_zero, List.set_cons_succ, i64_w, i32_w]; rfl
      refine done_ (by kernel_rfl) ?_
      go_wp2
      go_ret
      exact ⟨rfl, below_step HW.out HM.out⟩
end Go.Proofs.Ytamlpnfnidkknaa.GFnExactEqualStates
