/- Of the Go function laws.markState (FnExactNewState's): a Lean function, and the proof that the call comes to just its answer, where the three rows lie apart and the threads' own rows are empty. Typed by hand. No condition. -/
import Derived.Test.YtamlpnfnidkknaaGFnExactNewStatex0
import Derived.Test.YtamlpnfnidkknaaGFnExactNewStatex7
namespace Go.Proofs.Ytamlpnfnidkknaa.GFnExactNewState
open Go.RowKit Go.Proofs.YtamlpnfnidkknaaW.PrintWords Go.Proofs.YtamlpnfnidkknaaW.PrintLast Go.Proofs.YtamlpnfnidkknaaW.PrintMore
set_option linter.unusedVariables false
set_option linter.unusedSimpArgs false

def laws_markState.f (k : Nat) (l6 l7 : List Int) (l8 : List (S36)) (a1 : Int) : Option (Int × List Int × List Int × List (S36)) :=
  (laws_markIntS.f k l6 a1).bind fun b6 => ((laws_markIntS.f k l7 b6.1).bind fun b7 => ((laws_markThreadS.f k l8 b7.1).bind fun b8 => some (b8.1, b6.2, b7.2, b8.2)))
set_option maxHeartbeats 4000000 in
set_option maxRecDepth 100000 in
theorem laws_markState.calls (k : Nat) (P6 P7 P8 : Nat → Prop) (c0 c1 c2 c3 c4 c5 c9 c10 c11 c12 : Int) (v6 v7 v8 : Value) (l6 l7 : List Int) (l8 : List (S36)) (a1 r1 : Int) (r6 r7 : List Int) (r8 : List (S36)) (w0 w : World) (hB : Below w0.heap.size w0 w)
    (ho6 : Kd.R (Kd.int .i64) 3 w w0.heap.size P6 v6 l6) (ho7 : Kd.R (Kd.int .i64) 3 w w0.heap.size P7 v7 l7) (ho8 : Kd.S k36 36 w w0.heap.size P8 v8 l8)
    (h67 : ∀ k, P6 k → ¬ P7 k) (h68 : ∀ k, P6 k → ¬ P8 k) (h78 : ∀ k, P7 k → ¬ P8 k) (hlt : ∀ k, P6 k ∨ P7 k ∨ P8 k → k < w.heap.size)
    (h : laws_markState.f k l6 l7 l8 a1 = some (r1, r6, r7, r8)) :
    Calls Try.prog 19 #[.agg #[.int .i64 c0, .int .i64 c1, .int .i64 c2, .int .i64 c3, .int .i64 c4, .int .i64 c5, v6, v7, v8, .int .i64 c9, .int .i64 c10, .int .i64 c11, .int .i64 c12], .int .i64 a1] w fun e w' => e = .returned (.int .i64 r1) ∧ Kd.R (Kd.int .i64) 3 w' w0.heap.size (fun _ => True) v6 r6 ∧ Kd.R (Kd.int .i64) 3 w' w0.heap.size (fun _ => True) v7 r7 ∧ Kd.S k36 36 w' w0.heap.size (fun _ => True) v8 r8 ∧ Below w0.heap.size w0 w' ∧ Kept w w' (fun k_ => P6 k_ ∨ P7 k_ ∨ P8 k_) := by
  have hu49 := Try.underlying49
  unfold laws_markState.f at h
  obtain ⟨⟨m6, x6⟩, H6, h⟩ := Option.bind_eq_some_iff.mp h
  obtain ⟨⟨m7, x7⟩, H7, h⟩ := Option.bind_eq_some_iff.mp h
  obtain ⟨⟨m8, x8⟩, H8, h⟩ := Option.bind_eq_some_iff.mp h
  simp only [Option.some.injEq, Prod.mk.injEq] at h
  obtain ⟨rfl, rfl, rfl, rfl⟩ := h
  have A6' := Aside0.mk H6
  have A7' := Aside0.mk H7
  have A8' := Aside0.mk H8
  clear H6 H7 H8
  obtain ⟨A6, d6, rfl⟩ := Kd.R_slice ho6
  obtain ⟨A7, d7, rfl⟩ := Kd.R_slice ho7
  obtain ⟨A8, d8, rfl⟩ := Kd.S_slice ho8
  have HO6 := Aside0.mk ho6
  have HO7 := Aside0.mk ho7
  have HO8 := Aside0.mk ho8
  have HB := Aside0.mk hB
  have HK := Aside0.mk (Kept.refl w (fun k_ => P6 k_ ∨ P7 k_ ∨ P8 k_))
  have X67 := Aside0.mk h67
  have X68 := Aside0.mk h68
  have X78 := Aside0.mk h78
  have XLT := Aside0.mk hlt
  have XZ := Aside0.mk (Nat.le_refl w.heap.size)
  clear ho6 ho7 ho8 hB h67 h68 h78 hlt
  go_enter Try.func19, Try.ntmps19
  go_wp2_with (first | ((with_reducible refine gate_dst (N := 2) rfl ?_); refine box_event ?hg (N := 2) ?hd (cs := #[.int .i64 c0, .int .i64 c1, .int .i64 c2, .int .i64 c3, .int .i64 c4, .int .i64 c5, .slice A6 l6.length d6, .slice A7 l7.length d7, .slice A8 l8.length d8, .int .i64 c9, .int .i64 c10, .int .i64 c11, .int .i64 c12]) (t := 49) ?hr ?_; (case hd => rfl); (case hg => rfl); (case hr => first | (go_simp; done) | (go_simp; rfl)); intro gb hg w1 hbox hb; have n0_ := Aside0.mk (below_step HB.out hb); have n1_ := Aside0.mk (Kd.R_below HO6.out hb); have n2_ := Aside0.mk (Kd.R_below HO7.out hb); have n3_ := Aside0.mk (Kd.S_below HO8.out hb); have n4_ := Aside0.mk (Kept.below HK.out hb); have BK := Aside0.mk hbox; have GB := Aside0.mk (show w.heap.size ≤ gb by rw [hg]; exact Nat.le_refl _); clear HB HO6 HO7 HO8 HK; have HB := n0_; have HO6 := n1_; have HO7 := n2_; have HO8 := n3_; have HK := n4_; clear n0_ n1_ n2_ n3_ n4_; clear hb hbox hg; have hczw1_6 : w1.cell? ⟨gb, 6, none⟩ = some (.slice A6 l6.length d6) := (blk_cell BK.out 6).trans rfl; have hczw1_7 : w1.cell? ⟨gb, 7, none⟩ = some (.slice A7 l7.length d7) := (blk_cell BK.out 7).trans rfl; have hczw1_8 : w1.cell? ⟨gb, 8, none⟩ = some (.slice A8 l8.length d8) := (blk_cell BK.out 8).trans rfl; have hfzw1_6 := blk_frozen BK.out 6; have hfzw1_7 := blk_frozen BK.out 7; have hfzw1_8 := blk_frozen BK.out 8) | ((with_reducible refine gate_callee (f := 44) rfl ?_); refine goesL_ (some 8) rfl rfl Try.func44 (by kernel_rfl) rfl #[.slice A6 l6.length d6, .int .i64 a1] rfl (by (try simp only [List.map_toArray, List.map_cons, List.map_nil]); first | done | rfl) ?_; (with_reducible refine (laws_markIntS.calls k P6 (.slice A6 l6.length d6) l6 a1 m6 x6 w0 w1 HB.out HO6.out A6'.out).mono ?_); rintro e w2 ⟨rfl, hy, hb, hk⟩; refine ⟨_, rfl, ?_⟩; have n0_ := Aside0.mk hb; have n1_ := Aside0.mk (blk_kept BK.out hk (fun hs_ => Nat.lt_irrefl _ (Nat.lt_of_lt_of_le (XLT.out _ (.inl hs_)) GB.out))); have n2_ := Aside0.mk (Kept.then_ HK.out hk (fun k_ hk_ => .inl (.inl hk_))); have n3_ := Aside0.mk (Kd.R_kept HO7.out hk (fun k_ hk_ hs_ => X67.out k_ hs_ hk_)); have n4_ := Aside0.mk (Kd.S_kept HO8.out hk (fun k_ hk_ hs_ => X68.out k_ hs_ hk_)); have n5_ := Aside0.mk hy; have Z1 := Aside0.mk (show w.heap.size ≤ w1.heap.size from HK.out.1); clear HB BK HK HO7 HO8 HO6; have HB := n0_; have BK := n1_; have HK := n2_; have HO7 := n3_; have HO8 := n4_; have HO6 := n5_; clear n0_ n1_ n2_ n3_ n4_ n5_; clear hb hk hy; have hczw2_6 : w2.cell? ⟨gb, 6, none⟩ = some (.slice A6 l6.length d6) := (blk_cell BK.out 6).trans rfl; have hczw2_7 : w2.cell? ⟨gb, 7, none⟩ = some (.slice A7 l7.length d7) := (blk_cell BK.out 7).trans rfl; have hczw2_8 : w2.cell? ⟨gb, 8, none⟩ = some (.slice A8 l8.length d8) := (blk_cell BK.out 8).trans rfl; have hfzw2_6 := blk_frozen BK.out 6; have hfzw2_7 := blk_frozen BK.out 7; have hfzw2_8 := blk_frozen BK.out 8) | ((with_reducible refine gate_callee (f := 44) rfl ?_); refine goesL_ (some 12) rfl rfl Try.func44 (by kernel_rfl) rfl #[.slice A7 l7.length d7, .int .i64 m6] rfl (by (try simp only [List.map_toArray, List.map_cons, List.map_nil]); first | done | rfl) ?_; (with_reducible refine (laws_markIntS.calls k P7 (.slice A7 l7.length d7) l7 m6 m7 x7 w0 w2 HB.out HO7.out A7'.out).mono ?_); rintro e w3 ⟨rfl, hy, hb, hk⟩; refine ⟨_, rfl, ?_⟩; have n0_ := Aside0.mk hb; have n1_ := Aside0.mk (blk_kept BK.out hk (fun hs_ => Nat.lt_irrefl _ (Nat.lt_of_lt_of_le (XLT.out _ (.inr (.inl hs_))) GB.out))); have n2_ := Aside0.mk (Kept.then_ HK.out hk (fun k_ hk_ => .inl (.inr (.inl hk_)))); have n3_ := Aside0.mk (Kd.R_kept HO6.out hk (fun k_ hk_ hs_ => hk_.elim (fun h_ => X67.out k_ h_ hs_) (fun h_ => Nat.lt_irrefl _ (Nat.lt_of_lt_of_le (XLT.out k_ (.inr (.inl hs_))) (Nat.le_trans Z1.out h_))))); have n4_ := Aside0.mk (Kd.S_kept HO8.out hk (fun k_ hk_ hs_ => X78.out k_ hs_ hk_)); have n5_ := Aside0.mk hy; have Z2 := Aside0.mk (show w.heap.size ≤ w2.heap.size from HK.out.1); clear HB BK HK HO6 HO8 HO7; have HB := n0_; have BK := n1_; have HK := n2_; have HO6 := n3_; have HO8 := n4_; have HO7 := n5_; clear n0_ n1_ n2_ n3_ n4_ n5_; clear hb hk hy; have hczw3_6 : w3.cell? ⟨gb, 6, none⟩ = some (.slice A6 l6.length d6) := (blk_cell BK.out 6).trans rfl; have hczw3_7 : w3.cell? ⟨gb, 7, none⟩ = some (.slice A7 l7.length d7) := (blk_cell BK.out 7).trans rfl; have hczw3_8 : w3.cell? ⟨gb, 8, none⟩ = some (.slice A8 l8.length d8) := (blk_cell BK.out 8).trans rfl; have hfzw3_6 := blk_frozen BK.out 6; have hfzw3_7 := blk_frozen BK.out 7; have hfzw3_8 := blk_frozen BK.out 8) | ((with_reducible refine gate_callee (f := 45) rfl ?_); refine goesL_ (some 16) rfl rfl Try.func45 (by kernel_rfl) rfl #[.slice A8 l8.length d8, .int .i64 m7] rfl (by (try simp only [List.map_toArray, List.map_cons, List.map_nil]); first | done | rfl) ?_; (with_reducible refine (laws_markThreadS.calls k P8 (.slice A8 l8.length d8) l8 m7 m8 x8 w0 w3 HB.out HO8.out A8'.out).mono ?_); rintro e w4 ⟨rfl, hy, hb, hk⟩; refine ⟨_, rfl, ?_⟩; have n0_ := Aside0.mk hb; have n1_ := Aside0.mk (blk_kept BK.out hk (fun hs_ => Nat.lt_irrefl _ (Nat.lt_of_lt_of_le (XLT.out _ (.inr (.inr hs_))) GB.out))); have n2_ := Aside0.mk (Kept.then_ HK.out hk (fun k_ hk_ => .inl (.inr (.inr hk_)))); have n3_ := Aside0.mk (Kd.R_kept HO6.out hk (fun k_ hk_ hs_ => hk_.elim (fun h_ => X68.out k_ h_ hs_) (fun h_ => Nat.lt_irrefl _ (Nat.lt_of_lt_of_le (XLT.out k_ (.inr (.inr hs_))) (Nat.le_trans Z1.out h_))))); have n4_ := Aside0.mk (Kd.R_kept HO7.out hk (fun k_ hk_ hs_ => hk_.elim (fun h_ => X78.out k_ h_ hs_) (fun h_ => Nat.lt_irrefl _ (Nat.lt_of_lt_of_le (XLT.out k_ (.inr (.inr hs_))) (Nat.le_trans Z2.out h_))))); have n5_ := Aside0.mk hy; clear HB BK HK HO6 HO7 HO8; have HB := n0_; have BK := n1_; have HK := n2_; have HO6 := n3_; have HO7 := n4_; have HO8 := n5_; clear n0_ n1_ n2_ n3_ n4_ n5_; clear hb hk hy) )
  go_ret
  exact ⟨rfl, Kd.R_mono HO6.out (fun _ _ => trivial), Kd.R_mono HO7.out (fun _ _ => trivial), Kd.S_mono HO8.out (fun _ _ => trivial), HB.out, HK.out⟩
end Go.Proofs.Ytamlpnfnidkknaa.GFnExactNewState
