/- Of the Go function spec.EqualStates: its loop as a Lean function, and the proof that the call comes to just its answer. Typed by hand. No condition. -/
import Derived.Test.YtamlpnfnidkknaaGFnExactEqualStatesx17
import Derived.Test.YtamlpnfnidkknaaGFnExactEqualStatesx15
namespace Go.Proofs.Ytamlpnfnidkknaa.GFnExactEqualStates
open Go.RowKit Go.Proofs.YtamlpnfnidkknaaW.PrintWords Go.Proofs.YtamlpnfnidkknaaW.PrintLast Go.Proofs.YtamlpnfnidkknaaW.PrintMore
set_option linter.unusedVariables false
set_option linter.unusedSimpArgs false
attribute [local go_sem high] eqC46
def allS (e t6 t7 e9 e10 e11 e12 n8 t8 : Bool) : Bool := e && (t6 && (t7 && (e9 && (e10 && (e11 && (e12 && (n8 && t8)))))))
def spec_EqualStates.l0 : Nat → List S36 → List S36 → Int → Option Bool
  | 0, _, _, _ => none
  | k + 1, x0, x1, i => if i < (x0.length : Int) then (if 0 ≤ i then (if i < (x1.length : Int) then ((spec_EqualThreads.f k ((rd_T36 x0 i).f0) ((rd_T36 x0 i).f1.f0) ((rd_T36 x0 i).f1.f1) ((rd_T36 x0 i).f1.f2) ((rd_T36 x0 i).f2.f0) ((rd_T36 x0 i).f2.f1) ((rd_T36 x0 i).f3) ((rd_T36 x0 i).f4) ((rd_T36 x0 i).f5) ((rd_T36 x0 i).f6) ((rd_T36 x0 i).f7) ((rd_T36 x0 i).f8) ((rd_T36 x0 i).f9) ((rd_T36 x0 i).f10) ((rd_T36 x0 i).f11) ((rd_T36 x0 i).f12) ((rd_T36 x0 i).f13) ((rd_T36 x0 i).f14) ((rd_T36 x0 i).f15) ((rd_T36 x1 i).f0) ((rd_T36 x1 i).f1.f0) ((rd_T36 x1 i).f1.f1) ((rd_T36 x1 i).f1.f2) ((rd_T36 x1 i).f2.f0) ((rd_T36 x1 i).f2.f1) ((rd_T36 x1 i).f3) ((rd_T36 x1 i).f4) ((rd_T36 x1 i).f5) ((rd_T36 x1 i).f6) ((rd_T36 x1 i).f7) ((rd_T36 x1 i).f8) ((rd_T36 x1 i).f9) ((rd_T36 x1 i).f10) ((rd_T36 x1 i).f11) ((rd_T36 x1 i).f12) ((rd_T36 x1 i).f13) ((rd_T36 x1 i).f14) ((rd_T36 x1 i).f15)).bind fun t => if t = true then spec_EqualStates.l0 k x0 x1 (wrap64 (i + 1)) else some false) else none) else none) else some true
def spec_EqualStates.R6.T : Bool × List (List Nat × List Nat) := (true, [([], []), ([0], [0]), ([], []), ([1, 2], [1, 2]), ([3], [3]), ([], []), ([5], [5]), ([], []), ([6, 7], [6, 7]), ([8], [8]), ([4, 9], [4, 9]), ([10], [10])])
def spec_EqualStates.R6.B : List Nat := [0, 1, 0, 7, 15, 0, 32, 0, 224, 480, 1023, 2047]
theorem spec_EqualStates.R6.tab : rtab .any (opsOf Try.f12 6) = spec_EqualStates.R6.T := by kernel_rfl
theorem spec_EqualStates.R6.bits : waitsOk spec_EqualStates.R6.T.2 spec_EqualStates.R6.B = true := by kernel_rfl
set_option maxHeartbeats 16000000 in
set_option maxRecDepth 100000 in
theorem spec_EqualStates.calls (k : Nat) (a0 a1 a2 a3 a4 a5 : Int) (A6 : Option Addr) (c6 : Nat) (l6 : List Int) (A7 : Option Addr) (c7 : Nat) (l7 : List Int) (A8 : Option Addr) (c8 : Nat) (l8 : List S36) (a9 a10 a11 a12 : Int) (b0 b1 b2 b3 b4 b5 : Int) (B6 : Option Addr) (d6 : Nat) (m6 : List Int) (B7 : Option Addr) (d7 : Nat) (m7 : List Int) (B8 : Option Addr) (d8 : Nat) (m8 : List S36) (b9 b10 b11 b12 : Int) (t6 t7 t8 : Bool) (w : World)
    (ra6 : Kd.C (Kd.int .i64) w A6 l6.length l6) (qa6 : l6.length ≤ c6) (ra7 : Kd.C (Kd.int .i64) w A7 l7.length l7) (qa7 : l7.length ≤ c7) (ra8 : Kd.C k36 w A8 l8.length l8) (qa8 : l8.length ≤ c8) (rb6 : Kd.C (Kd.int .i64) w B6 m6.length m6) (qb6 : m6.length ≤ d6) (rb7 : Kd.C (Kd.int .i64) w B7 m7.length m7) (qb7 : m7.length ≤ d7) (rb8 : Kd.C k36 w B8 m8.length m8) (qb8 : m8.length ≤ d8)
    (h6 : spec_l7Ints.f k l6 m6 = some t6) (h7 : spec_l7Ints.f k l7 m7 = some t7) (h8 : (l8.length : Int) = (m8.length : Int) → spec_EqualStates.l0 k l8 m8 0 = some t8) :
    Calls Try.prog 12 #[.agg #[.int .i64 a0, .int .i64 a1, .int .i64 a2, .int .i64 a3, .int .i64 a4, .int .i64 a5, .slice A6 l6.length c6, .slice A7 l7.length c7, .slice A8 l8.length c8, .int .i64 a9, .int .i64 a10, .int .i64 a11, .int .i64 a12], .agg #[.int .i64 b0, .int .i64 b1, .int .i64 b2, .int .i64 b3, .int .i64 b4, .int .i64 b5, .slice B6 m6.length d6, .slice B7 m7.length d7, .slice B8 m8.length d8, .int .i64 b9, .int .i64 b10, .int .i64 b11, .int .i64 b12]] w fun e w' => e = .returned (.bool (allS (cfgB a0 a1 a2 a3 a4 a5 b0 b1 b2 b3 b4 b5) t6 t7 (a9 == b9) (a10 == b10) (a11 == b11) (a12 == b12) ((l8.length : Int) == (m8.length : Int)) t8)) ∧ Below w.heap.size w w' := by
  have hu49 := Try.underlying49
  have hu46 := Try.underlying46
  have hu36 := Try.underlying36
  have RA6 := Aside0.mk ra6
  have RA7 := Aside0.mk ra7
  have RA8 := Aside0.mk ra8
  have RB6 := Aside0.mk rb6
  have RB7 := Aside0.mk rb7
  have RB8 := Aside0.mk rb8
  have QA6 := Aside0.mk qa6
  have QA7 := Aside0.mk qa7
  have QA8 := Aside0.mk qa8
  have QB6 := Aside0.mk qb6
  have QB7 := Aside0.mk qb7
  have QB8 := Aside0.mk qb8
  have HB := Aside0.mk (Below.refl w.heap.size w)
  have H6 := Aside0.mk h6
  have H7 := Aside0.mk h7
  have H8 := Aside0.mk h8
  clear ra6 qa6 ra7 qa7 ra8 qa8 rb6 qb6 rb7 qb7 rb8 qb8 h6 h7 h8
  cases e0 : cfgB a0 a1 a2 a3 a4 a5 b0 b1 b2 b3 b4 b5
  rotate_left
  cases t6
  rotate_left
  cases t7
  rotate_left
  cases e3 : (a9 == b9)
  rotate_left
  cases e4 : (a10 == b10)
  rotate_left
  cases e5 : (a11 == b11)
  rotate_left
  cases e6 : (a12 == b12)
  rotate_left
  by_cases c3 : (l8.length : Int) = (m8.length : Int)
  · have c3b0 : ((l8.length : Int) == (m8.length : Int)) = true := beq_iff_eq.mpr c3
    have c3b1 : ((l8.length : Int) != (m8.length : Int)) = false := bne_eq_false_iff_eq.mpr c3
    have c3b2 : (l8.length == m8.length) = true := by first | simpa using c3 | (simp at c3 ⊢; omega)
    have c3b3 : (l8.length != m8.length) = false := by rw [bne, c3b2]; rfl
    have H' := Aside0.mk (H8.out c3)
    clear c3
    (try have f3 : (a9 != b9) = false := by rw [bne, e3]; rfl)
    (try have f3 : (a9 != b9) = true := by rw [bne, e3]; rfl)
    (try have f4 : (a10 != b10) = false := by rw [bne, e4]; rfl)
    (try have f4 : (a10 != b10) = true := by rw [bne, e4]; rfl)
    (try have f5 : (a11 != b11) = false := by rw [bne, e5]; rfl)
    (try have f5 : (a11 != b11) = true := by rw [bne, e5]; rfl)
    (try have f6 : (a12 != b12) = false := by rw [bne, e6]; rfl)
    (try have f6 : (a12 != b12) = true := by rw [bne, e6]; rfl)
    go_enter Try.func12, Try.ntmps12
    go_wp2_with (first | ((with_reducible refine gate_dst (N := 2) rfl ?_); refine box_event ?hg (N := 2) ?hd (cs := #[.int .i64 a0, .int .i64 a1, .int .i64 a2, .int .i64 a3, .int .i64 a4, .int .i64 a5, .slice A6 l6.length c6, .slice A7 l7.length c7, .slice A8 l8.length c8, .int .i64 a9, .int .i64 a10, .int .i64 a11, .int .i64 a12]) (t := 49) ?hr ?_; (case hd => rfl); (case hg => rfl); (case hr => first | (go_simp; done) | (go_simp; rfl)); intro gb2 hg w1 hbox hb; have BK2 := Aside0.mk hbox; have n_ := Aside0.mk (below_step HB.out hb); clear HB; have HB := n_; clear n_ hbox hb hg) | ((with_reducible refine gate_dst (N := 3) rfl ?_); refine box_event ?hg (N := 3) ?hd (cs := #[.int .i64 b0, .int .i64 b1, .int .i64 b2, .int .i64 b3, .int .i64 b4, .int .i64 b5, .slice B6 m6.length d6, .slice B7 m7.length d7, .slice B8 m8.length d8, .int .i64 b9, .int .i64 b10, .int .i64 b11, .int .i64 b12]) (t := 49) ?hr ?_; (case hd => rfl); (case hg => rfl); (case hr => first | (go_simp; done) | (go_simp; rfl)); intro gb3 hg w2 hbox hb; have BK3 := Aside0.mk hbox; have NE := Aside0.mk (show gb2 ≠ gb3 from Nat.ne_of_lt (by rw [hg]; exact blk_lt BK2.out)); have n8_ := Aside0.mk (blk_below BK2.out hb); clear BK2; have BK2 := n8_; clear n8_; have n_ := Aside0.mk (below_step HB.out hb); clear HB; have HB := n_; clear n_ hbox hb hg; have hczw2_a_0 : w2.cell? ⟨gb2, 0, none⟩ = some (.int .i64 a0) := (blk_cell BK2.out 0).trans rfl; have hczw2_a_1 : w2.cell? ⟨gb2, 1, none⟩ = some (.int .i64 a1) := (blk_cell BK2.out 1).trans rfl; have hczw2_a_2 : w2.cell? ⟨gb2, 2, none⟩ = some (.int .i64 a2) := (blk_cell BK2.out 2).trans rfl; have hczw2_a_3 : w2.cell? ⟨gb2, 3, none⟩ = some (.int .i64 a3) := (blk_cell BK2.out 3).trans rfl; have hczw2_a_4 : w2.cell? ⟨gb2, 4, none⟩ = some (.int .i64 a4) := (blk_cell BK2.out 4).trans rfl; have hczw2_a_5 : w2.cell? ⟨gb2, 5, none⟩ = some (.int .i64 a5) := (blk_cell BK2.out 5).trans rfl; have hczw2_a_6 : w2.cell? ⟨gb2, 6, none⟩ = some (.slice A6 l6.length c6) := (blk_cell BK2.out 6).trans rfl; have hczw2_a_7 : w2.cell? ⟨gb2, 7, none⟩ = some (.slice A7 l7.length c7) := (blk_cell BK2.out 7).trans rfl; have hczw2_a_8 : w2.cell? ⟨gb2, 8, none⟩ = some (.slice A8 l8.length c8) := (blk_cell BK2.out 8).trans rfl; have hczw2_a_9 : w2.cell? ⟨gb2, 9, none⟩ = some (.int .i64 a9) := (blk_cell BK2.out 9).trans rfl; have hczw2_a_10 : w2.cell? ⟨gb2, 10, none⟩ = some (.int .i64 a10) := (blk_cell BK2.out 10).trans rfl; have hczw2_a_11 : w2.cell? ⟨gb2, 11, none⟩ = some (.int .i64 a11) := (blk_cell BK2.out 11).trans rfl; have hczw2_a_12 : w2.cell? ⟨gb2, 12, none⟩ = some (.int .i64 a12) := (blk_cell BK2.out 12).trans rfl; have hfzw2_a_0 := blk_frozen BK2.out 0; have hfzw2_a_1 := blk_frozen BK2.out 1; have hfzw2_a_2 := blk_frozen BK2.out 2; have hfzw2_a_3 := blk_frozen BK2.out 3; have hfzw2_a_4 := blk_frozen BK2.out 4; have hfzw2_a_5 := blk_frozen BK2.out 5; have hfzw2_a_6 := blk_frozen BK2.out 6; have hfzw2_a_7 := blk_frozen BK2.out 7; have hfzw2_a_8 := blk_frozen BK2.out 8; have hfzw2_a_9 := blk_frozen BK2.out 9; have hfzw2_a_10 := blk_frozen BK2.out 10; have hfzw2_a_11 := blk_frozen BK2.out 11; have hfzw2_a_12 := blk_frozen BK2.out 12; have hczw2_b_0 : w2.cell? ⟨gb3, 0, none⟩ = some (.int .i64 b0) := (blk_cell BK3.out 0).trans rfl; have hczw2_b_1 : w2.cell? ⟨gb3, 1, none⟩ = some (.int .i64 b1) := (blk_cell BK3.out 1).trans rfl; have hczw2_b_2 : w2.cell? ⟨gb3, 2, none⟩ = some (.int .i64 b2) := (blk_cell BK3.out 2).trans rfl; have hczw2_b_3 : w2.cell? ⟨gb3, 3, none⟩ = some (.int .i64 b3) := (blk_cell BK3.out 3).trans rfl; have hczw2_b_4 : w2.cell? ⟨gb3, 4, none⟩ = some (.int .i64 b4) := (blk_cell BK3.out 4).trans rfl; have hczw2_b_5 : w2.cell? ⟨gb3, 5, none⟩ = some (.int .i64 b5) := (blk_cell BK3.out 5).trans rfl; have hczw2_b_6 : w2.cell? ⟨gb3, 6, none⟩ = some (.slice B6 m6.length d6) := (blk_cell BK3.out 6).trans rfl; have hczw2_b_7 : w2.cell? ⟨gb3, 7, none⟩ = some (.slice B7 m7.length d7) := (blk_cell BK3.out 7).trans rfl; have hczw2_b_8 : w2.cell? ⟨gb3, 8, none⟩ = some (.slice B8 m8.length d8) := (blk_cell BK3.out 8).trans rfl; have hczw2_b_9 : w2.cell? ⟨gb3, 9, none⟩ = some (.int .i64 b9) := (blk_cell BK3.out 9).trans rfl; have hczw2_b_10 : w2.cell? ⟨gb3, 10, none⟩ = some (.int .i64 b10) := (blk_cell BK3.out 10).trans rfl; have hczw2_b_11 : w2.cell? ⟨gb3, 11, none⟩ = some (.int .i64 b11) := (blk_cell BK3.out 11).trans rfl; have hczw2_b_12 : w2.cell? ⟨gb3, 12, none⟩ = some (.int .i64 b12) := (blk_cell BK3.out 12).trans rfl; have hfzw2_b_0 := blk_frozen BK3.out 0; have hfzw2_b_1 := blk_frozen BK3.out 1; have hfzw2_b_2 := blk_frozen BK3.out 2; have hfzw2_b_3 := blk_frozen BK3.out 3; have hfzw2_b_4 := blk_frozen BK3.out 4; have hfzw2_b_5 := blk_frozen BK3.out 5; have hfzw2_b_6 := blk_frozen BK3.out 6; have hfzw2_b_7 := blk_frozen BK3.out 7; have hfzw2_b_8 := blk_frozen BK3.out 8; have hfzw2_b_9 := blk_frozen BK3.out 9; have hfzw2_b_10 := blk_frozen BK3.out 10; have hfzw2_b_11 := blk_frozen BK3.out 11; have hfzw2_b_12 := blk_frozen BK3.out 12; have hne := NE.out; have hne' := hne.symm) | (go_at_call 23; (with_reducible refine (spec_l7Ints.calls k _ _ l6 _ _ m6 _ _ ?s1 QA6.out ?s2 QB6.out H6.out).mono ?_); (case s1 => (with_reducible repeat (first | refine Kd.C_drewN ?_ _ | refine Kd.C_drew ?_)); exact Kd.C_below RA6.out HB.out); (case s2 => (with_reducible repeat (first | refine Kd.C_drewN ?_ _ | refine Kd.C_drew ?_)); exact Kd.C_below RB6.out HB.out); rintro e wx ⟨rfl, ⟨nd, rfl⟩⟩) | (go_at_call 23; (with_reducible refine (spec_l7Ints.calls k _ _ l7 _ _ m7 _ _ ?s1 QA7.out ?s2 QB7.out H7.out).mono ?_); (case s1 => (with_reducible repeat (first | refine Kd.C_drewN ?_ _ | refine Kd.C_drew ?_)); exact Kd.C_below RA7.out HB.out); (case s2 => (with_reducible repeat (first | refine Kd.C_drewN ?_ _ | refine Kd.C_drew ?_)); exact Kd.C_below RB7.out HB.out); rintro e wx ⟨rfl, ⟨nd, rfl⟩⟩))
    have HW := HB
    clear HB
    try clear hczw2_a_0 hfzw2_a_0 hczw2_a_1 hfzw2_a_1 hczw2_a_2 hfzw2_a_2 hczw2_a_3 hfzw2_a_3 hczw2_a_4 hfzw2_a_4 hczw2_a_5 hfzw2_a_5 hczw2_a_6 hfzw2_a_6 hczw2_a_7 hfzw2_a_7 hczw2_a_8 hfzw2_a_8 hczw2_a_9 hfzw2_a_9 hczw2_a_10 hfzw2_a_10 hczw2_a_11 hfzw2_a_11 hczw2_a_12 hfzw2_a_12 hczw2_b_0 hfzw2_b_0 hczw2_b_1 hfzw2_b_1 hczw2_b_2 hfzw2_b_2 hczw2_b_3 hfzw2_b_3 hczw2_b_4 hfzw2_b_4 hczw2_b_5 hfzw2_b_5 hczw2_b_6 hfzw2_b_6 hczw2_b_7 hfzw2_b_7 hczw2_b_8 hfzw2_b_8 hczw2_b_9 hfzw2_b_9 hczw2_b_10 hfzw2_b_10 hczw2_b_11 hfzw2_b_11 hczw2_b_12 hfzw2_b_12
    go_loopg [5] k (fun kq v5 w' => ∃ x5 : Int, v5 = .int .i64 x5 ∧ Aside0 (spec_EqualStates.l0 kq l8 m8 x5 = some t8) ∧ Aside0 (kq ≤ k) ∧ Aside0 (Below w2.heap.size w2 w'))
    case atStart => exact ⟨_, rfl, H', ⟨Nat.le_refl _⟩, ⟨by repeat (first | exact Below.refl _ _ | apply pw_below_drewN | apply below_drew1)⟩⟩
    case round =>
      clear H'
      obtain ⟨x5, rfl, HA, HK1, HB⟩ := hrel
      cases gk with
      | zero => exact absurd HA.out (by simp [spec_EqualStates.l0])
      | succ k1 =>
        have H := HA.out
        clear HA
        have hcw2 : wr.cell? ⟨gb2, 8, none⟩ = some (.slice A8 l8.length c8) := (blk_cell (blk_below BK2.out HB.out) 8).trans rfl
        have hfw2 := blk_frozen (blk_below BK2.out HB.out) 8
        rw [spec_EqualStates.l0] at H
        by_cases c3 : x5 < (l8.length : Int)
        · rw [if_pos c3] at H
          by_cases c4 : 0 ≤ x5
          · rw [if_pos c4] at H
            by_cases c5 : x5 < (m8.length : Int)
            · rw [if_pos c5] at H
              replace H := Option.bind_eq_some_iff.mp H
              obtain ⟨t, HT0, H⟩ := H
              have HT := Aside0.mk HT0
              clear HT0
              obtain ⟨ad, c, rfl, hcl, hK0, hcc⟩ := Kd.C_get RA8.out z36 x5 c4 c3
              obtain ⟨bd, d, rfl, hdl, hJ0, hdd⟩ := Kd.C_get RB8.out z36 x5 c4 c5
              have HC := Aside0.mk (show k36.K w (rd_T36 l8 x5) c from hK0)
              have JC := Aside0.mk (show k36.K w (rd_T36 m8 x5) d from hJ0)
              have HL := Aside0.mk (show c.length = 19 from hcl)
              have JL := Aside0.mk (show d.length = 19 from hdl)
              have HE := Aside0.mk hcc
              have JE := Aside0.mk hdd
              clear hK0 hcl hcc hJ0 hdl hdd
              have p4 := eq_true c4
              have p3 := eq_true c3
              have p5 := eq_true c5
              have c3b : decide (x5 < (l8.length : Int)) = true := decide_eq_true c3
              have c4b : decide (0 ≤ x5) = true := decide_eq_true c4
              have c5b : decide (x5 < (m8.length : Int)) = true := decide_eq_true c5
              clear c3 c4 c5
              cases t with
              | false =>
                obtain rfl := Option.some.inj H
                clear H
                go_wp2
                have n_ := Aside0.mk (below_drew1 HB.out)
                clear HB
                have HB := n_
                clear n_
                refine start_ (n := 12) (S := fun w' => Below w2.heap.size w2 w') (ds := []) #[false, false, false, false, false, false, false, false, false, false, false, false] (by kernel_rfl) rfl rfl HB.out (fun hHeld => ?_); refine with_tabW spec_EqualStates.R6.tab spec_EqualStates.R6.bits (fun HT_ HW_ => ?_)
                generalize wr.drew = w8 at HB hHeld ⊢
                refine pure_ (i := 0) (N := some 71) (v := ?_) (a' := ?_) #[true, false, false, false, false, false, false, false, false, false, false, false] rfl rfl (any_of HT_.out (by kernel_rfl)) (fun _ _ _ h => h) (Or.inl ⟨by rfl, ?_⟩) ?_ ?_
                rotate_left
                · intro w'; go_simp; with_reducible rfl
                rotate_left
                · simp only [Act.put, List.setIfInBounds_toArray, List.set_cons_zero, List.set_cons_succ, i64_w, i32_w]; rfl
                refine take_ (i := 1) (N := some 72) (v := ?_) (a' := ?_) #[true, true, false, false, false, false, false, false, false, false, false, false] rfl rfl (take_ofW HT_.out HW_.out (by kernel_rfl)) (fun _ _ _ h => h) (Or.inl ⟨by rfl, ?_⟩) hHeld ?_ ?_
                rotate_left
                · rintro w' s0
                  have hc := (blk_cell (blk_below BK2.out s0) 8).trans rfl
                  have hc' : w'.cell? ⟨gb2, 8, none⟩ = some (.slice (some ad) l8.length c8) := hc
                  clear hc
                  go_simp
                  with_reducible rfl
                rotate_left
                · simp only [Act.put, List.setIfInBounds_toArray, List.set_cons_zero, List.set_cons_succ, i64_w, i32_w]; rfl
                refine pure_ (i := 2) (N := some 73) (v := ?_) (a' := ?_) #[true, true, true, false, false, false, false, false, false, false, false, false] rfl rfl (any_of HT_.out (by kernel_rfl)) (fun _ _ _ h => h) (Or.inl ⟨by rfl, ?_⟩) ?_ ?_
                rotate_left
                · intro w'; go_simp; with_reducible rfl
                rotate_left
                · simp only [Act.put, List.setIfInBounds_toArray, List.set_cons_zero, List.set_cons_succ, i64_w, i32_w]; rfl
                refine pure_ (i := 3) (N := some 74) (v := ?_) (a' := ?_) #[true, true, true, true, false, false, false, false, false, false, false, false] rfl rfl (any_of HT_.out (by kernel_rfl)) (fun _ _ _ h => h) (Or.inl ⟨by rfl, ?_⟩) ?_ ?_
                rotate_left
                · intro w'; go_simp; with_reducible rfl
                rotate_left
                · simp only [Act.put, List.setIfInBounds_toArray, List.set_cons_zero, List.set_cons_succ, i64_w, i32_w]; rfl
                refine take_ (i := 4) (N := some 75) (v := ?_) (a' := ?_) #[true, true, true, true, true, false, false, false, false, false, false, false] rfl rfl (take_ofW HT_.out HW_.out (by kernel_rfl)) (fun _ _ _ h => h) (Or.inl ⟨by rfl, ?_⟩) hHeld ?_ ?_
                rotate_left
                · rintro w' s0
                  refine (run_elem (w := w) 36 (.tmp 74) (by rfl) ad 19 x5.toNat c (by rfl) (below_step HW.out s0) HE.out _ Try.underlying36 rfl thr36 HL.out).trans ?_
                  with_reducible rfl
                rotate_left
                · simp only [Act.put, List.setIfInBounds_toArray, List.set_cons_zero, List.set_cons_succ, i64_w, i32_w]; rfl
                refine pure_ (i := 5) (N := some 76) (v := ?_) (a' := ?_) #[true, true, true, true, true, true, false, false, false, false, false, false] rfl rfl (any_of HT_.out (by kernel_rfl)) (fun _ _ _ h => h) (Or.inl ⟨by rfl, ?_⟩) ?_ ?_
                rotate_left
                · intro w'; go_simp; with_reducible rfl
                rotate_left
                · simp only [Act.put, List.setIfInBounds_toArray, List.set_cons_zero, List.set_cons_succ, i64_w, i32_w]; rfl
                refine take_ (i := 6) (N := some 77) (v := ?_) (a' := ?_) #[true, true, true, true, true, true, true, false, false, false, false, false] rfl rfl (take_ofW HT_.out HW_.out (by kernel_rfl)) (fun _ _ _ h => h) (Or.inl ⟨by rfl, ?_⟩) hHeld ?_ ?_
                rotate_left
                · rintro w' s0
                  have hc := (blk_cell (blk_below BK3.out s0) 8).trans rfl
                  have hc' : w'.cell? ⟨gb3, 8, none⟩ = some (.slice (some bd) m8.length d8) := hc
                  clear hc
                  go_simp
                  with_reducible rfl
                rotate_left
                · simp only [Act.put, List.setIfInBounds_toArray, List.set_cons_zero, List.set_cons_succ, i64_w, i32_w]; rfl
                refine pure_ (i := 7) (N := some 78) (v := ?_) (a' := ?_) #[true, true, true, true, true, true, true, true, false, false, false, false] rfl rfl (any_of HT_.out (by kernel_rfl)) (fun _ _ _ h => h) (Or.inl ⟨by rfl, ?_⟩) ?_ ?_
                rotate_left
                · intro w'; go_simp; with_reducible rfl
                rotate_left
                · simp only [Act.put, List.setIfInBounds_toArray, List.set_cons_zero, List.set_cons_succ, i64_w, i32_w]; rfl
                refine pure_ (i := 8) (N := some 79) (v := ?_) (a' := ?_) #[true, true, true, true, true, true, true, true, true, false, false, false] rfl rfl (any_of HT_.out (by kernel_rfl)) (fun _ _ _ h => h) (Or.inl ⟨by rfl, ?_⟩) ?_ ?_
                rotate_left
                · intro w'; go_simp; with_reducible rfl
                rotate_left
                · simp only [Act.put, List.setIfInBounds_toArray, List.set_cons_zero, List.set_cons_succ, i64_w, i32_w]; rfl
                refine take_ (i := 9) (N := some 80) (v := ?_) (a' := ?_) #[true, true, true, true, true, true, true, true, true, true, false, false] rfl rfl (take_ofW HT_.out HW_.out (by kernel_rfl)) (fun _ _ _ h => h) (Or.inl ⟨by rfl, ?_⟩) hHeld ?_ ?_
                rotate_left
                · rintro w' s0
                  refine (run_elem (w := w) 36 (.tmp 79) (by rfl) bd 19 x5.toNat d (by rfl) (below_step HW.out s0) JE.out _ Try.underlying36 rfl thr36 JL.out).trans ?_
                  with_reducible rfl
                rotate_left
                · simp only [Act.put, List.setIfInBounds_toArray, List.set_cons_zero, List.set_cons_succ, i64_w, i32_w]; rfl
                refine one_ (i := 10) (N := some 81) #[true, true, true, true, true, true, true, true, true, true, true, false] rfl rfl (one_of HT_.out (by kernel_rfl)) (by decide) (fun K hK => ?_)
                refine goes_ Try.func7 (by kernel_rfl) rfl #[.agg c.toArray, .agg d.toArray] (by rfl) rfl rfl (by (try simp only [List.map_toArray, List.map_cons, List.map_nil]); first | done | rfl) ?_
                with_reducible refine (spec_EqualThreads.callT k1 (rd_T36 l8 x5) (rd_T36 m8 x5) c d _ _ (k36.K_below (below_step HW.out HB.out) HC.out) (k36.K_below (below_step HW.out HB.out) JC.out) HT.out).mono ?_
                rintro e w9 ⟨rfl, hb⟩
                refine ⟨_, rfl, ?_⟩
                have n_ := Aside0.mk (below_step HB.out hb)
                clear HB hb
                have HB := n_
                clear n_
                refine hK.out _ _ HB.out (fun hHeld => ?_)
                clear hK K
                refine norm_ (a' := ?_) ?_ ?_
                rotate_left
                · show Act.put _ (some 81) _ = _
                  simp only [Act.put, List.setIfInBounds_toArray, List.set_cons_zero, List.set_cons_succ, i64_w, i32_w]; rfl
                refine pure_ (i := 11) (N := some 82) (v := ?_) (a' := ?_) #[true, true, true, true, true, true, true, true, true, true, true, true] rfl rfl (any_of HT_.out (by kernel_rfl)) (fun _ _ _ h => h) (Or.inl ⟨by rfl, ?_⟩) ?_ ?_
                rotate_left
                · intro w'; go_simp; with_reducible rfl
                rotate_left
                · simp only [Act.put, List.setIfInBounds_toArray, List.set_cons_zero, List.set_cons_succ, i64_w, i32_w]; rfl
                refine done_ (done_of HT_.out (by kernel_rfl)) ?_
                try go_wp2
                go_ret
                exact ⟨by first | rfl | simp [allS, *], below_step HW.out HB.out⟩
              | true =>
                rw [if_pos rfl] at H
                have H' := Aside0.mk H
                clear H
                go_wp2
                have n_ := Aside0.mk (below_drew1 HB.out)
                clear HB
                have HB := n_
                clear n_
                refine start_ (n := 12) (S := fun w' => Below w2.heap.size w2 w') (ds := []) #[false, false, false, false, false, false, false, false, false, false, false, false] (by kernel_rfl) rfl rfl HB.out (fun hHeld => ?_); refine with_tabW spec_EqualStates.R6.tab spec_EqualStates.R6.bits (fun HT_ HW_ => ?_)
                generalize wr.drew = w8 at HB hHeld ⊢
                refine pure_ (i := 0) (N := some 71) (v := ?_) (a' := ?_) #[true, false, false, false, false, false, false, false, false, false, false, false] rfl rfl (any_of HT_.out (by kernel_rfl)) (fun _ _ _ h => h) (Or.inl ⟨by rfl, ?_⟩) ?_ ?_
                rotate_left
                · intro w'; go_simp; with_reducible rfl
                rotate_left
                · simp only [Act.put, List.setIfInBounds_toArray, List.set_cons_zero, List.set_cons_succ, i64_w, i32_w]; rfl
                refine take_ (i := 1) (N := some 72) (v := ?_) (a' := ?_) #[true, true, false, false, false, false, false, false, false, false, false, false] rfl rfl (take_ofW HT_.out HW_.out (by kernel_rfl)) (fun _ _ _ h => h) (Or.inl ⟨by rfl, ?_⟩) hHeld ?_ ?_
                rotate_left
                · rintro w' s0
                  have hc := (blk_cell (blk_below BK2.out s0) 8).trans rfl
                  have hc' : w'.cell? ⟨gb2, 8, none⟩ = some (.slice (some ad) l8.length c8) := hc
                  clear hc
                  go_simp
                  with_reducible rfl
                rotate_left
                · simp only [Act.put, List.setIfInBounds_toArray, List.set_cons_zero, List.set_cons_succ, i64_w, i32_w]; rfl
                refine pure_ (i := 2) (N := some 73) (v := ?_) (a' := ?_) #[true, true, true, false, false, false, false, false, false, false, false, false] rfl rfl (any_of HT_.out (by kernel_rfl)) (fun _ _ _ h => h) (Or.inl ⟨by rfl, ?_⟩) ?_ ?_
                rotate_left
                · intro w'; go_simp; with_reducible rfl
                rotate_left
                · simp only [Act.put, List.setIfInBounds_toArray, List.set_cons_zero, List.set_cons_succ, i64_w, i32_w]; rfl
                refine pure_ (i := 3) (N := some 74) (v := ?_) (a' := ?_) #[true, true, true, true, false, false, false, false, false, false, false, false] rfl rfl (any_of HT_.out (by kernel_rfl)) (fun _ _ _ h => h) (Or.inl ⟨by rfl, ?_⟩) ?_ ?_
                rotate_left
                · intro w'; go_simp; with_reducible rfl
                rotate_left
                · simp only [Act.put, List.setIfInBounds_toArray, List.set_cons_zero, List.set_cons_succ, i64_w, i32_w]; rfl
                refine take_ (i := 4) (N := some 75) (v := ?_) (a' := ?_) #[true, true, true, true, true, false, false, false, false, false, false, false] rfl rfl (take_ofW HT_.out HW_.out (by kernel_rfl)) (fun _ _ _ h => h) (Or.inl ⟨by rfl, ?_⟩) hHeld ?_ ?_
                rotate_left
                · rintro w' s0
                  refine (run_elem (w := w) 36 (.tmp 74) (by rfl) ad 19 x5.toNat c (by rfl) (below_step HW.out s0) HE.out _ Try.underlying36 rfl thr36 HL.out).trans ?_
                  with_reducible rfl
                rotate_left
                · simp only [Act.put, List.setIfInBounds_toArray, List.set_cons_zero, List.set_cons_succ, i64_w, i32_w]; rfl
                refine pure_ (i := 5) (N := some 76) (v := ?_) (a' := ?_) #[true, true, true, true, true, true, false, false, false, false, false, false] rfl rfl (any_of HT_.out (by kernel_rfl)) (fun _ _ _ h => h) (Or.inl ⟨by rfl, ?_⟩) ?_ ?_
                rotate_left
                · intro w'; go_simp; with_reducible rfl
                rotate_left
                · simp only [Act.put, List.setIfInBounds_toArray, List.set_cons_zero, List.set_cons_succ, i64_w, i32_w]; rfl
                refine take_ (i := 6) (N := some 77) (v := ?_) (a' := ?_) #[true, true, true, true, true, true, true, false, false, false, false, false] rfl rfl (take_ofW HT_.out HW_.out (by kernel_rfl)) (fun _ _ _ h => h) (Or.inl ⟨by rfl, ?_⟩) hHeld ?_ ?_
                rotate_left
                · rintro w' s0
                  have hc := (blk_cell (blk_below BK3.out s0) 8).trans rfl
                  have hc' : w'.cell? ⟨gb3, 8, none⟩ = some (.slice (some bd) m8.length d8) := hc
                  clear hc
                  go_simp
                  with_reducible rfl
                rotate_left
                · simp only [Act.put, List.setIfInBounds_toArray, List.set_cons_zero, List.set_cons_succ, i64_w, i32_w]; rfl
                refine pure_ (i := 7) (N := some 78) (v := ?_) (a' := ?_) #[true, true, true, true, true, true, true, true, false, false, false, false] rfl rfl (any_of HT_.out (by kernel_rfl)) (fun _ _ _ h => h) (Or.inl ⟨by rfl, ?_⟩) ?_ ?_
                rotate_left
                · intro w'; go_simp; with_reducible rfl
                rotate_left
                · simp only [Act.put, List.setIfInBounds_toArray, List.set_cons_zero, List.set_cons_succ, i64_w, i32_w]; rfl
                refine pure_ (i := 8) (N := some 79) (v := ?_) (a' := ?_) #[true, true, true, true, true, true, true, true, true, false, false, false] rfl rfl (any_of HT_.out (by kernel_rfl)) (fun _ _ _ h => h) (Or.inl ⟨by rfl, ?_⟩) ?_ ?_
                rotate_left
                · intro w'; go_simp; with_reducible rfl
                rotate_left
                · simp only [Act.put, List.setIfInBounds_toArray, List.set_cons_zero, List.set_cons_succ, i64_w, i32_w]; rfl
                refine take_ (i := 9) (N := some 80) (v := ?_) (a' := ?_) #[true, true, true, true, true, true, true, true, true, true, false, false] rfl rfl (take_ofW HT_.out HW_.out (by kernel_rfl)) (fun _ _ _ h => h) (Or.inl ⟨by rfl, ?_⟩) hHeld ?_ ?_
                rotate_left
                · rintro w' s0
                  refine (run_elem (w := w) 36 (.tmp 79) (by rfl) bd 19 x5.toNat d (by rfl) (below_step HW.out s0) JE.out _ Try.underlying36 rfl thr36 JL.out).trans ?_
                  with_reducible rfl
                rotate_left
                · simp only [Act.put, List.setIfInBounds_toArray, List.set_cons_zero, List.set_cons_succ, i64_w, i32_w]; rfl
                refine one_ (i := 10) (N := some 81) #[true, true, true, true, true, true, true, true, true, true, true, false] rfl rfl (one_of HT_.out (by kernel_rfl)) (by decide) (fun K hK => ?_)
                refine goes_ Try.func7 (by kernel_rfl) rfl #[.agg c.toArray, .agg d.toArray] (by rfl) rfl rfl (by (try simp only [List.map_toArray, List.map_cons, List.map_nil]); first | done | rfl) ?_
                with_reducible refine (spec_EqualThreads.callT k1 (rd_T36 l8 x5) (rd_T36 m8 x5) c d _ _ (k36.K_below (below_step HW.out HB.out) HC.out) (k36.K_below (below_step HW.out HB.out) JC.out) HT.out).mono ?_
                rintro e w9 ⟨rfl, hb⟩
                refine ⟨_, rfl, ?_⟩
                have n_ := Aside0.mk (below_step HB.out hb)
                clear HB hb
                have HB := n_
                clear n_
                refine hK.out _ _ HB.out (fun hHeld => ?_)
                clear hK K
                refine norm_ (a' := ?_) ?_ ?_
                rotate_left
                · show Act.put _ (some 81) _ = _
                  simp only [Act.put, List.setIfInBounds_toArray, List.set_cons_zero, List.set_cons_succ, i64_w, i32_w]; rfl
                refine pure_ (i := 11) (N := some 82) (v := ?_) (a' := ?_) #[true, true, true, true, true, true, true, true, true, true, true, true] rfl rfl (any_of HT_.out (by kernel_rfl)) (fun _ _ _ h => h) (Or.inl ⟨by rfl, ?_⟩) ?_ ?_
                rotate_left
                · intro w'; go_simp; with_reducible rfl
                rotate_left
                · simp only [Act.put, List.setIfInBounds_toArray, List.set_cons_zero, List.set_cons_succ, i64_w, i32_w]; rfl
                refine done_ (done_of HT_.out (by kernel_rfl)) ?_
                try go_wp2
                go_roundg k1
                case measure => have := HK1.out; omega
                case rel => exact ⟨wrap64 (x5 + 1), by first | rfl | (simp; done) | (simp [*]; done), H', ⟨by have := HK1.out; omega⟩, HB⟩
            · rw [if_neg c5] at H
              cases H
          · rw [if_neg c4] at H
            cases H
        · rw [if_neg c3] at H
          obtain rfl := Option.some.inj H
          have c3b : decide (x5 < (l8.length : Int)) = false := decide_eq_false c3
          clear c3 H
          go_wp2
          go_ret
          exact ⟨by first | rfl | simp [allS, *], below_step HW.out HB.out⟩
  all_goals
    (try have c3b0 : ((l8.length : Int) == (m8.length : Int)) = false := beq_eq_false_iff_ne.mpr c3)
    (try have c3b1 : ((l8.length : Int) != (m8.length : Int)) = true := bne_iff_ne.mpr c3)
    (try have c3b2 : (l8.length == m8.length) = false := by first | simpa using c3 | (simp at c3 ⊢; omega))
    (try have c3b3 : (l8.length != m8.length) = true := by rw [bne, c3b2]; rfl)
    try clear c3
    (try have f3 : (a9 != b9) = false := by rw [bne, e3]; rfl)
    (try have f3 : (a9 != b9) = true := by rw [bne, e3]; rfl)
    (try have f4 : (a10 != b10) = false := by rw [bne, e4]; rfl)
    (try have f4 : (a10 != b10) = true := by rw [bne, e4]; rfl)
    (try have f5 : (a11 != b11) = false := by rw [bne, e5]; rfl)
    (try have f5 : (a11 != b11) = true := by rw [bne, e5]; rfl)
    (try have f6 : (a12 != b12) = false := by rw [bne, e6]; rfl)
    (try have f6 : (a12 != b12) = true := by rw [bne, e6]; rfl)
    go_enter Try.func12, Try.ntmps12
    go_wp2_with (first | ((with_reducible refine gate_dst (N := 2) rfl ?_); refine box_event ?hg (N := 2) ?hd (cs := #[.int .i64 a0, .int .i64 a1, .int .i64 a2, .int .i64 a3, .int .i64 a4, .int .i64 a5, .slice A6 l6.length c6, .slice A7 l7.length c7, .slice A8 l8.length c8, .int .i64 a9, .int .i64 a10, .int .i64 a11, .int .i64 a12]) (t := 49) ?hr ?_; (case hd => rfl); (case hg => rfl); (case hr => first | (go_simp; done) | (go_simp; rfl)); intro gb2 hg w1 hbox hb; have BK2 := Aside0.mk hbox; have n_ := Aside0.mk (below_step HB.out hb); clear HB; have HB := n_; clear n_ hbox hb hg) | ((with_reducible refine gate_dst (N := 3) rfl ?_); refine box_event ?hg (N := 3) ?hd (cs := #[.int .i64 b0, .int .i64 b1, .int .i64 b2, .int .i64 b3, .int .i64 b4, .int .i64 b5, .slice B6 m6.length d6, .slice B7 m7.length d7, .slice B8 m8.length d8, .int .i64 b9, .int .i64 b10, .int .i64 b11, .int .i64 b12]) (t := 49) ?hr ?_; (case hd => rfl); (case hg => rfl); (case hr => first | (go_simp; done) | (go_simp; rfl)); intro gb3 hg w2 hbox hb; have BK3 := Aside0.mk hbox; have NE := Aside0.mk (show gb2 ≠ gb3 from Nat.ne_of_lt (by rw [hg]; exact blk_lt BK2.out)); have n8_ := Aside0.mk (blk_below BK2.out hb); clear BK2; have BK2 := n8_; clear n8_; have n_ := Aside0.mk (below_step HB.out hb); clear HB; have HB := n_; clear n_ hbox hb hg; have hczw2_a_0 : w2.cell? ⟨gb2, 0, none⟩ = some (.int .i64 a0) := (blk_cell BK2.out 0).trans rfl; have hczw2_a_1 : w2.cell? ⟨gb2, 1, none⟩ = some (.int .i64 a1) := (blk_cell BK2.out 1).trans rfl; have hczw2_a_2 : w2.cell? ⟨gb2, 2, none⟩ = some (.int .i64 a2) := (blk_cell BK2.out 2).trans rfl; have hczw2_a_3 : w2.cell? ⟨gb2, 3, none⟩ = some (.int .i64 a3) := (blk_cell BK2.out 3).trans rfl; have hczw2_a_4 : w2.cell? ⟨gb2, 4, none⟩ = some (.int .i64 a4) := (blk_cell BK2.out 4).trans rfl; have hczw2_a_5 : w2.cell? ⟨gb2, 5, none⟩ = some (.int .i64 a5) := (blk_cell BK2.out 5).trans rfl; have hczw2_a_6 : w2.cell? ⟨gb2, 6, none⟩ = some (.slice A6 l6.length c6) := (blk_cell BK2.out 6).trans rfl; have hczw2_a_7 : w2.cell? ⟨gb2, 7, none⟩ = some (.slice A7 l7.length c7) := (blk_cell BK2.out 7).trans rfl; have hczw2_a_8 : w2.cell? ⟨gb2, 8, none⟩ = some (.slice A8 l8.length c8) := (blk_cell BK2.out 8).trans rfl; have hczw2_a_9 : w2.cell? ⟨gb2, 9, none⟩ = some (.int .i64 a9) := (blk_cell BK2.out 9).trans rfl; have hczw2_a_10 : w2.cell? ⟨gb2, 10, none⟩ = some (.int .i64 a10) := (blk_cell BK2.out 10).trans rfl; have hczw2_a_11 : w2.cell? ⟨gb2, 11, none⟩ = some (.int .i64 a11) := (blk_cell BK2.out 11).trans rfl; have hczw2_a_12 : w2.cell? ⟨gb2, 12, none⟩ = some (.int .i64 a12) := (blk_cell BK2.out 12).trans rfl; have hfzw2_a_0 := blk_frozen BK2.out 0; have hfzw2_a_1 := blk_frozen BK2.out 1; have hfzw2_a_2 := blk_frozen BK2.out 2; have hfzw2_a_3 := blk_frozen BK2.out 3; have hfzw2_a_4 := blk_frozen BK2.out 4; have hfzw2_a_5 := blk_frozen BK2.out 5; have hfzw2_a_6 := blk_frozen BK2.out 6; have hfzw2_a_7 := blk_frozen BK2.out 7; have hfzw2_a_8 := blk_frozen BK2.out 8; have hfzw2_a_9 := blk_frozen BK2.out 9; have hfzw2_a_10 := blk_frozen BK2.out 10; have hfzw2_a_11 := blk_frozen BK2.out 11; have hfzw2_a_12 := blk_frozen BK2.out 12; have hczw2_b_0 : w2.cell? ⟨gb3, 0, none⟩ = some (.int .i64 b0) := (blk_cell BK3.out 0).trans rfl; have hczw2_b_1 : w2.cell? ⟨gb3, 1, none⟩ = some (.int .i64 b1) := (blk_cell BK3.out 1).trans rfl; have hczw2_b_2 : w2.cell? ⟨gb3, 2, none⟩ = some (.int .i64 b2) := (blk_cell BK3.out 2).trans rfl; have hczw2_b_3 : w2.cell? ⟨gb3, 3, none⟩ = some (.int .i64 b3) := (blk_cell BK3.out 3).trans rfl; have hczw2_b_4 : w2.cell? ⟨gb3, 4, none⟩ = some (.int .i64 b4) := (blk_cell BK3.out 4).trans rfl; have hczw2_b_5 : w2.cell? ⟨gb3, 5, none⟩ = some (.int .i64 b5) := (blk_cell BK3.out 5).trans rfl; have hczw2_b_6 : w2.cell? ⟨gb3, 6, none⟩ = some (.slice B6 m6.length d6) := (blk_cell BK3.out 6).trans rfl; have hczw2_b_7 : w2.cell? ⟨gb3, 7, none⟩ = some (.slice B7 m7.length d7) := (blk_cell BK3.out 7).trans rfl; have hczw2_b_8 : w2.cell? ⟨gb3, 8, none⟩ = some (.slice B8 m8.length d8) := (blk_cell BK3.out 8).trans rfl; have hczw2_b_9 : w2.cell? ⟨gb3, 9, none⟩ = some (.int .i64 b9) := (blk_cell BK3.out 9).trans rfl; have hczw2_b_10 : w2.cell? ⟨gb3, 10, none⟩ = some (.int .i64 b10) := (blk_cell BK3.out 10).trans rfl; have hczw2_b_11 : w2.cell? ⟨gb3, 11, none⟩ = some (.int .i64 b11) := (blk_cell BK3.out 11).trans rfl; have hczw2_b_12 : w2.cell? ⟨gb3, 12, none⟩ = some (.int .i64 b12) := (blk_cell BK3.out 12).trans rfl; have hfzw2_b_0 := blk_frozen BK3.out 0; have hfzw2_b_1 := blk_frozen BK3.out 1; have hfzw2_b_2 := blk_frozen BK3.out 2; have hfzw2_b_3 := blk_frozen BK3.out 3; have hfzw2_b_4 := blk_frozen BK3.out 4; have hfzw2_b_5 := blk_frozen BK3.out 5; have hfzw2_b_6 := blk_frozen BK3.out 6; have hfzw2_b_7 := blk_frozen BK3.out 7; have hfzw2_b_8 := blk_frozen BK3.out 8; have hfzw2_b_9 := blk_frozen BK3.out 9; have hfzw2_b_10 := blk_frozen BK3.out 10; have hfzw2_b_11 := blk_frozen BK3.out 11; have hfzw2_b_12 := blk_frozen BK3.out 12; have hne := NE.out; have hne' := hne.symm) | (go_at_call 23; (with_reducible refine (spec_l7Ints.calls k _ _ l6 _ _ m6 _ _ ?s1 QA6.out ?s2 QB6.out H6.out).mono ?_); (case s1 => (with_reducible repeat (first | refine Kd.C_drewN ?_ _ | refine Kd.C_drew ?_)); exact Kd.C_below RA6.out HB.out); (case s2 => (with_reducible repeat (first | refine Kd.C_drewN ?_ _ | refine Kd.C_drew ?_)); exact Kd.C_below RB6.out HB.out); rintro e wx ⟨rfl, ⟨nd, rfl⟩⟩) | (go_at_call 23; (with_reducible refine (spec_l7Ints.calls k _ _ l7 _ _ m7 _ _ ?s1 QA7.out ?s2 QB7.out H7.out).mono ?_); (case s1 => (with_reducible repeat (first | refine Kd.C_drewN ?_ _ | refine Kd.C_drew ?_)); exact Kd.C_below RA7.out HB.out); (case s2 => (with_reducible repeat (first | refine Kd.C_drewN ?_ _ | refine Kd.C_drew ?_)); exact Kd.C_below RB7.out HB.out); rintro e wx ⟨rfl, ⟨nd, rfl⟩⟩))
    go_ret
    exact ⟨by first | rfl | simp [allS, *], by repeat (first | exact HB.out | apply pw_below_drewN | apply below_drew1)⟩
end Go.Proofs.Ytamlpnfnidkknaa.GFnExactEqualStates
